/- The law FnExactBridgeOnly: part of the proof that for every input it returns true. No condition. -/
import Derived.Test.YtpidgkkbmlgehaaGreatFnExactBridgeOnlyP1
set_option linter.unusedVariables false
set_option linter.unusedSimpArgs false
namespace Go.V.W
open Go.Proofs
noncomputable section
def eH:FL:=(314,⟨[.ptr sO (some true),.val false p4 false],[],λa=>dM a.1 a.2⟩)::eI
theorem jV:Gd eH:=p7 jW 314 Tryz.f314 [] Tryz.func314
def eJ (p0:qe) (i1:Int):Option qe :=
 (ix p0.2.2.2.2.2.2.2.2.2.2.2.2.1.length i1).bind λj16 =>
 (p0.2.2.2.2.2.2.2.2.2.2.2.2.1[j16]?).bind λx18 =>
 (eK p0.2.2.2.2.2.2.2.2.2.2.2.1 x18.2.1).bind λt19 =>
 cond (t19.2==3)
 ((af p0.2.2.2.2.2.2.2.2.1).bind λt42 =>
 (bm (p0.1,p0.2.1,p0.2.2.1,p0.2.2.2.1,p0.2.2.2.2.1,p0.2.2.2.2.2.1,p0.2.2.2.2.2.2.1,p0.2.2.2.2.2.2.2.1,t42,p0.2.2.2.2.2.2.2.2.2.1,p0.2.2.2.2.2.2.2.2.2.2.1,p0.2.2.2.2.2.2.2.2.2.2.2.1,p0.2.2.2.2.2.2.2.2.2.2.2.2.1,p0.2.2.2.2.2.2.2.2.2.2.2.2.2.1,p0.2.2.2.2.2.2.2.2.2.2.2.2.2.2) i1).bind λt48 =>
 some t48)
 ((cond (t19.2 != 0) (some true) (some (t19.1.1==162))).bind λt56 =>
 cond t56
 ((af p0.2.2.2.2.2.2.2.1).bind λt63 =>
 (bm (p0.1,p0.2.1,p0.2.2.1,p0.2.2.2.1,p0.2.2.2.2.1,p0.2.2.2.2.2.1,p0.2.2.2.2.2.2.1,t63,p0.2.2.2.2.2.2.2.2.1,p0.2.2.2.2.2.2.2.2.2.1,p0.2.2.2.2.2.2.2.2.2.2.1,p0.2.2.2.2.2.2.2.2.2.2.2.1,p0.2.2.2.2.2.2.2.2.2.2.2.2.1,p0.2.2.2.2.2.2.2.2.2.2.2.2.2.1,p0.2.2.2.2.2.2.2.2.2.2.2.2.2.2) i1).bind λt69 =>
 some t69)
 ((ix p0.2.2.2.2.2.2.2.2.2.2.2.2.1.length i1).bind λj28 =>
 (p0.2.2.2.2.2.2.2.2.2.2.2.2.1[j28]?).bind λx =>
 (dM (p0.1,p0.2.1,p0.2.2.1,p0.2.2.2.1,p0.2.2.2.2.1,p0.2.2.2.2.2.1,p0.2.2.2.2.2.2.1,p0.2.2.2.2.2.2.2.1,p0.2.2.2.2.2.2.2.2.1,p0.2.2.2.2.2.2.2.2.2.1,p0.2.2.2.2.2.2.2.2.2.2.1,p0.2.2.2.2.2.2.2.2.2.2.2.1,p0.2.2.2.2.2.2.2.2.2.2.2.2.1.set j28 (x.1,x.2.1,x.2.2.1,t19.1.1,t19.1.2.1,t19.1.2.2.1,t19.1.2.2.2.1,t19.1.2.2.2.2,x.2.2.2.2.2.2.2.2.1,x.2.2.2.2.2.2.2.2.2.1,x.2.2.2.2.2.2.2.2.2.2.1,x.2.2.2.2.2.2.2.2.2.2.2.1,x.2.2.2.2.2.2.2.2.2.2.2.2.1,x.2.2.2.2.2.2.2.2.2.2.2.2.2.1,x.2.2.2.2.2.2.2.2.2.2.2.2.2.2.1,x.2.2.2.2.2.2.2.2.2.2.2.2.2.2.2.1,x.2.2.2.2.2.2.2.2.2.2.2.2.2.2.2.2.1,x.2.2.2.2.2.2.2.2.2.2.2.2.2.2.2.2.2.1,x.2.2.2.2.2.2.2.2.2.2.2.2.2.2.2.2.2.2.1,x.2.2.2.2.2.2.2.2.2.2.2.2.2.2.2.2.2.2.2.1,x.2.2.2.2.2.2.2.2.2.2.2.2.2.2.2.2.2.2.2.2),p0.2.2.2.2.2.2.2.2.2.2.2.2.2.1,p0.2.2.2.2.2.2.2.2.2.2.2.2.2.2) i1).bind λt32 =>
 some t32))
def eL:FL:=(234,⟨[.ptr sO (some true),.val false p4 false],[],λa=>eJ a.1 a.2⟩)::eH
theorem jX:Gd eL:=p7 jV 234 Tryz.f234 [] Tryz.func234
def ar (p0:ra):Option Bool :=
 (dN p0).bind λt4 =>
 (a6 (t4.length:Int) 1 120).bind λt6 =>
 some t6
def eM:FL:=(18,⟨[.val true u5 false],[.val false pN (some true)],λa=>ar a⟩)::eL
theorem jY:Gd eM:=p7 jX 18 Tryz.f18 [] Tryz.func18
def bn (v0:ub) (name1:List Int):Option pc :=
 (pL ([1,3,1]:List Int) name1).bind λzs7 =>
 some (zs7,v0.1,v0.2.1,v0.2.2.1,v0.2.2.2)
def eN:FL:=(187,⟨[.val true uN false,.val false rC false],[.val true pE none],λa=>bn a.1 a.2⟩)::eM
theorem jZ:Gd eN:=p7 jY 187 Tryz.f187 [] Tryz.func187
def bL (n0:Int):Option ub :=
 some (2,n0,[],[])
def eO:FL:=(188,⟨[.val false p4 false],[.val true uN (some true)],λa=>bL a⟩)::eN
theorem kc:Gd eO:=p7 jZ 188 Tryz.f188 [] Tryz.func188
def eP (is0:Bool):Option Int :=
 cond is0 (some 1) (some 0)
def eQ:FL:=(294,⟨[.val false pN false],[.val false p4 (some true)],λa=>eP a⟩)::eO
theorem kd:Gd eQ:=p7 kc 294 Tryz.f294 [] Tryz.func294
def bo (a0:sw) (b1:sw):Option Bool :=
 cond (a0.1 != b1.1)
 (some (decide (a0.1<b1.1)))
 (cond (a0.2.1 != b1.2.1)
 (some (decide (a0.2.1<b1.2.1)))
 (cond (a0.2.2.2.1 != b1.2.2.2.1)
 (let t4:=decide (a0.2.2.2.1<b1.2.2.2.1)
 some t4)
 (let t4_1:=decide (a0.2.2.2.2<b1.2.2.2.2)
 some t4_1)))
def eR:FL:=(345,⟨[.val true s7 false,.val true s7 false],[.val false pN (some true)],λa=>bo a.1 a.2⟩)::eQ
theorem ke:Gd eR:=p7 kd 345 Tryz.f345 [] Tryz.func345
def bM (v0:sw) (cost1:Int):Option (sw×Bool) :=
 (aI v0).bind λt8 =>
 (cond (!t8)
 (some true)
 ((a6 cost1 1 1000).bind λt12 =>
 some (!t12))).bind λt14 =>
 cond t14
 (some (v0,false))
 ((aI (v0.1,oT (v0.2.1+cost1),oT (v0.2.2.1+1),v0.2.2.2.1,v0.2.2.2.2)).bind λt27 =>
 cond (!t27)
 (some (v0,false))
 (some ((v0.1,oT (v0.2.1+cost1),oT (v0.2.2.1+1),v0.2.2.2.1,v0.2.2.2.2),true)))
def eS:FL:=(364,⟨[.val true s7 false,.val false p4 false],[.val true s7 (some true),.val false pN (some true)],λa=>bM a.1 a.2⟩)::eR
theorem kf:Gd eS:=p7 ke 364 Tryz.f364 [] Tryz.func364
def bp (p0:Int) (i1:List Pt) (t7:Int) (t18:Int) (b0:Int) (b1:Int) (b2:Int) (b3:Int) (b4:Int) (b0_1:Int) (b1_1:Int) (b2_1:Int) (b3_1:Int) (b4_1:Int):Option ((Int×Int×Int×Int×Int×Int×Int×Int×Int×Int×Int×Int)⊕(Int×Int×Int×Int×Int×Int×Int×Int×Int×Int×Int)) :=
 cond (decide (t18<(i1.length:Int)))
 ((at? i1 t18).bind λx21 =>
 (cond (!x21.1) (some true) (some (!x21.2.2.1))).bind λt30 =>
 cond t30
 (some (.inl (t7,oT (t18+1),b0,b1,b2,b3,b4,b0_1,b1_1,b2_1,b3_1,b4_1)))
 ((bM x21.2.2.2 x21.2.1).bind λt36 =>
 (cond t36.2 (some (decide (t36.1.1<p0))) (some false)).bind λt45 =>
 (cond t45
 ((cond (decide (t7<0))
 (some true)
 ((bo t36.1 (b0_1,b1_1,b2_1,b3_1,b4_1)).bind λt52 =>
 some t52)).bind λt53 =>
 some t53)
 (some false)).bind λt54 =>
 cond t54
 (some (.inl (t18,oT (t18+1),t36.1.1,t36.1.2.1,t36.1.2.2.1,p0,0,t36.1.1,t36.1.2.1,t36.1.2.2.1,t36.1.2.2.2.1,t36.1.2.2.2.2)))
 (some (.inl (t7,oT (t18+1),b0,b1,b2,b3,b4,b0_1,b1_1,b2_1,b3_1,b4_1)))))
 (some (.inr (t7,b0,b1,b2,b3,b4,b0_1,b1_1,b2_1,b3_1,b4_1)))
def aJ (p0:Int) (i1:List Pt):Option (sw×Int) :=
 (loop (λz=>bp p0 i1 z.1 z.2.1 z.2.2.1 z.2.2.2.1 z.2.2.2.2.1 z.2.2.2.2.2.1 z.2.2.2.2.2.2.1 z.2.2.2.2.2.2.2.1 z.2.2.2.2.2.2.2.2.1 z.2.2.2.2.2.2.2.2.2.1 z.2.2.2.2.2.2.2.2.2.2.1 z.2.2.2.2.2.2.2.2.2.2.2) ((-1),0,p0,0,0,p0,0,0,0,0,0,0)).bind λd =>
 some ((d.2.1,d.2.2.1,d.2.2.2.1,d.2.2.2.2.1,d.2.2.2.2.2.1),d.1)
def eT:FL:=(344,⟨[.val false p4 false,.val false (.one (.sl qy)) false],[.val true s7 (some true),.val false p4 (some true)],λa=>aJ a.1 a.2⟩)::eS
theorem kg:Gd eT:=p7 kf 344 Tryz.f344 [(0,⟨⟨(7,false,[dI])::(18,false,[dI])::us 27 3 (us 41 4 (us 47 7 [])),[(266240,.box [dI,dI,dI,dI,dI]),(525312,.box [dI,dI,dI,dI,dI])]⟩,
 ⟨[(7,false,[dI])],[(266240,.box [dI,dI,dI,dI,dI]),(525312,.box [dI,dI,dI,dI,dI])]⟩,none⟩)] Tryz.func344
def bN (id0:Int) (l1:List Pt) (port2:Int):Option sw :=
 (aJ id0 l1).bind λt12 =>
 some (t12.1.1,t12.1.2.1,t12.1.2.2.1,t12.1.2.2.2.1,port2)
def eU:FL:=(346,⟨[.val false p4 false,.val false (.one (.sl qy)) false,.val false p4 false],[.val true s7 (some true)],λa=>bN a.1 a.2.1 a.2.2⟩)::eT
theorem kh:Gd eU:=p7 kg 346 Tryz.f346 [] Tryz.func346
def au (id0:Int) (l1:List Pt) (port2:Int):Option Int :=
 (a6 port2 0 (oT ((l1.length:Int)-1))).bind λt13 =>
 (cond (!t13)
 (some true)
 ((at? l1 port2).bind λx18 =>
 some (!x18.1))).bind λt22 =>
 cond t22
 (some 4)
 ((aJ id0 l1).bind λt26 =>
 cond (t26.2==port2)
 (some 1)
 ((at? l1 port2).bind λx36 =>
 (cond (!x36.2.2.1)
 (some true)
 ((bN id0 l1 port2).bind λt44 =>
 (at? l1 port2).bind λx47 =>
 (bo t44 x47.2.2.2).bind λt50 =>
 some t50)).bind λt51 =>
 cond t51 (some 2) (some 3)))
def eV:FL:=(295,⟨[.val false p4 false,.val false (.one (.sl qy)) false,.val false p4 false],[.val false p4 (some true)],λa=>au a.1 a.2.1 a.2.2⟩)::eU
theorem ki:Gd eV:=p7 kh 295 Tryz.f295 [] Tryz.func295
def eW (b0:oU) (c1:Int) (p2:Int):Option Int :=
 cond (c1==1)
 ((at? b0.2.2.1 p2).bind λx13 =>
 (eP x13.1).bind λt16 =>
 some t16)
 (cond (c1==2)
 ((at? b0.2.2.1 p2).bind λx22 =>
 some x22.2.1)
 (cond (c1==3)
 ((au b0.1 b0.2.2.1 p2).bind λt32 =>
 some t32)
 ((at? b0.2.2.2.2.2.1 p2).bind λx37 =>
 some x37)))
def eX:FL:=(189,⟨[.val true p9 false,.val false p4 false,.val false p4 false],[.val false p4 (some true)],λa=>eW a.1 a.2.1 a.2.2⟩)::eV
theorem kj:Gd eX:=p7 ki 189 Tryz.f189 [] Tryz.func189
def kk (p0:oU) (t32:Int) (t3:List pc):Option ((Int×List pc)⊕(List pc)) :=
 cond (decide (t32<([p0.2.2.2.2.2.2.1,p0.2.2.2.2.2.2.2.1,p0.2.2.2.2.2.2.2.2.1,p0.2.2.2.2.2.2.2.2.2.1].length:Int)))
 ((ix [p0.2.2.2.2.2.2.1,p0.2.2.2.2.2.2.2.1,p0.2.2.2.2.2.2.2.2.1,p0.2.2.2.2.2.2.2.2.2.1].length t32).bind λj35 =>
 ([p0.2.2.2.2.2.2.1,p0.2.2.2.2.2.2.2.1,p0.2.2.2.2.2.2.2.2.1,p0.2.2.2.2.2.2.2.2.2.1][j35]?).bind λx36 =>
 (bL x36).bind λt39 =>
 (bn t39 [1,oT (t32+2)]).bind λt43 =>
 (pL t3 [t43]).bind λzs45 =>
 some (.inl (oT (t32+1),zs45)))
 (some (.inr t3))
def kl (p0:oU) (t6:Int) (t54:Int) (t3_3:List pc):Option ((Int×List pc)⊕(List pc)) :=
 cond (decide (t54<(p0.2.2.1.length:Int)))
 ((eW p0 t6 t54).bind λt61 =>
 (bL t61).bind λt62 =>
 (bn t62 [2,t6,oT (t54+1)]).bind λt67 =>
 (pL t3_3 [t67]).bind λzs69 =>
 some (.inl (oT (t54+1),zs69)))
 (some (.inr t3_3))
def ko (p0:oU) (t6:Int) (t3_2:List pc):Option ((Int×List pc)⊕(List pc)) :=
 cond (decide (t6<=4))
 ((loop (λz=>kl p0 t6 z.1 z.2) (0,t3_2)).bind λd_1 =>
 some (.inl (oT (t6+1),d_1)))
 (some (.inr t3_2))
def kq (p0:oU) (t8:Int) (t79:Int) (t3_7:List pc):Option ((Int×List pc)⊕(List pc)) :=
 cond (decide (t79<(p0.2.2.2.2.1.length:Int)))
 ((at? p0.2.2.2.2.1 t79).bind λx81 =>
 (ix [1,x81.2.1,x81.2.2].length (oT (t8-1))).bind λj91 =>
 ([1,x81.2.1,x81.2.2][j91]?).bind λx92 =>
 (bL x92).bind λt93 =>
 (bn t93 [3,t8,x81.1]).bind λt98 =>
 (pL t3_7 [t98]).bind λzs100 =>
 some (.inl (oT (t79+1),zs100)))
 (some (.inr t3_7))
def kr (p0:oU) (t8:Int) (t3_6:List pc):Option ((Int×List pc)⊕(List pc)) :=
 cond (decide (t8<=3))
 ((loop (λz=>kq p0 t8 z.1 z.2) (0,t3_6)).bind λd_3 =>
 some (.inl (oT (t8+1),d_3)))
 (some (.inr t3_6))
def kt (p0:oU) (t105:Int) (t3_10:List pc):Option ((Int×List pc)⊕(List pc)) :=
 cond (decide (t105<(p0.2.2.2.1.length:Int)))
 ((at? p0.2.2.2.1 t105).bind λx107 =>
 (bL (oT (x107.2.2.1+1))).bind λt113 =>
 (bn t113 [4,1,x107.1,x107.2.1]).bind λt119 =>
 (pL t3_10 [t119]).bind λzs121 =>
 some (.inl (oT (t105+1),zs121)))
 (some (.inr t3_10))
def dO (p0:oU):Option (List pc) :=
 (av p0).bind λt14 =>
 cond (!t14)
 (some [])
 ((bn (4,0,p0.2.1,[]) ([1,1]:List Int)).bind λt20 =>
 (loop (λz=>kk p0 z.1 z.2) (0,[t20])).bind λd =>
 (loop (λz=>ko p0 z.1 z.2) (1,d)).bind λd_2 =>
 (loop (λz=>kr p0 z.1 z.2) (1,d_2)).bind λd_4 =>
 (loop (λz=>kt p0 z.1 z.2) (0,d_4)).bind λd_5 =>
 some d_5)
def eY:FL:=(95,⟨[.val true p9 false],[.val false (.one (.sl pE)) none],λa=>dO a⟩)::eX
theorem ku:Gd eY:=p7 kj 95 Tryz.f95 [(0,⟨⟨[(3,false,[.own 1000000000]),(32,false,[dI])],[(1000000000,.root pE false)]⟩,
 ⟨[(3,false,[.own 1000000300])],[(1000000300,.root pE false)]⟩,none⟩),
 (2,⟨⟨[(3,false,[.own 1000002000]),(6,false,[dI])],[(1000002000,.root pE false)]⟩,
 ⟨[(3,false,[.own 1000002300])],[(1000002300,.root pE false)]⟩,none⟩),
 (4,⟨⟨[(3,false,[.own 1000004000]),(54,false,[dI])],[(1000004000,.root pE false)]⟩,
 ⟨[(3,false,[.own 1000004300])],[(1000004300,.root pE false)]⟩,none⟩),
 (6,⟨⟨[(3,false,[.own 1000006000]),(8,false,[dI])],[(1000006000,.root pE false)]⟩,
 ⟨[(3,false,[.own 1000006300])],[(1000006300,.root pE false)]⟩,none⟩),
 (8,⟨⟨[(3,false,[.own 1000008000]),(79,false,[dI])],[(1000008000,.root pE false)]⟩,
 ⟨[(3,false,[.own 1000008300])],[(1000008300,.root pE false)]⟩,none⟩),
 (10,⟨⟨[(3,false,[.own 1000010000]),(105,false,[dI])],[(1000010000,.root pE false)]⟩,
 ⟨[(3,false,[.own 1000010300])],[(1000010300,.root pE false)]⟩,none⟩)] Tryz.func95
def kv (o1:List Int) (t8:List pc) (t10:Int) (b0_1:Int) (b1:Int) (b2:List UInt8) (b3:List Int):Option ((Int×Int×Int×List UInt8×List Int)⊕((Int×Int×List UInt8×List Int)⊕(Int×Int×List UInt8×List Int))) :=
 cond (decide (t10<(t8.length:Int)))
 ((at? t8 t10).bind λx12 =>
 (aK x12.1 o1).bind λt17 =>
 cond t17
 (some (.inr (.inr x12.2)))
 (some (.inl (oT (t10+1),b0_1,b1,b2,b3))))
 (some (.inr (.inl (b0_1,b1,b2,b3))))
def eZ (b0:oU) (o1:List Int):Option ub :=
 (dO b0).bind λt8 =>
 (loop (λz=>kv o1 t8 z.1 z.2.1 z.2.2.1 z.2.2.2.1 z.2.2.2.2) (0,0,0,[],[])).bind (Sum.elim (λd =>
 some (128,0,[],[])) (λr=>some r))
def f6:FL:=(21,⟨[.val true p9 false,.val false rC false],[.val true uN none],λa=>eZ a.1 a.2⟩)::eY
theorem kw:Gd f6:=p7 ku 21 Tryz.f21 [(0,⟨⟨[(10,false,[dI])],[(2048,.box [dI,dI,dS,.own 1000000000]),(1000000000,.root p4 true)]⟩,
 ⟨[],[(2048,.box [dI,dI,dS,.own 1000000300]),(1000000300,.root p4 true)]⟩,some ⟨[],[(2048,.box [dI,dI,dS,.dat (.sl p4)])]⟩⟩)] Tryz.func21
def kz (a0:List Int) (b1:List Int) (i5:Int):Option (Int⊕(Unit⊕Bool)) :=
 (cond (decide (i5<(a0.length:Int))) (some (decide (i5<(b1.length:Int)))) (some false)).bind λt15 =>
 cond t15
 ((at? a0 i5).bind λx20 =>
 (at? b1 i5).bind λx24 =>
 cond (x20 != x24)
 ((at? a0 i5).bind λx29 =>
 (at? b1 i5).bind λx33 =>
 some (.inr (.inr (decide (x29<x33)))))
 (some (.inl (oT (i5+1)))))
 (some (.inr (.inl ())))
def f7 (a0:List Int) (b1:List Int):Option Bool :=
 (loop (λz=>kz a0 b1 z) 0).bind (Sum.elim (λd =>
 let t4:=decide ((a0.length:Int)<(b1.length:Int))
 some t4) (λr=>some r))
def f8:FL:=(96,⟨[.val false rC false,.val false rC false],[.val false pN (some true)],λa=>f7 a.1 a.2⟩)::f6
theorem kA:Gd f8:=p7 kw 96 Tryz.f96 [(0,⟨⟨(5,false,[dI])::us 11 4 [],[]⟩,
 ⟨[],[]⟩,some ⟨[(4,false,[dB])],[]⟩⟩)] Tryz.func96
def kB (o1:List Int) (t8:List pc) (t10:Int) (b1:Int) (b2:Int) (b3:List UInt8) (b0_1:List Int) (b4:List Int):Option ((Int×Int×Int×List UInt8×List Int×List Int)⊕((Int×Int×List UInt8×List Int×List Int)⊕(List Int×Int×Int×List UInt8×List Int))) :=
 cond (decide (t10<(t8.length:Int)))
 ((at? t8 t10).bind λx12 =>
 (f7 o1 x12.1).bind λt17 =>
 cond t17
 (some (.inr (.inr x12)))
 (some (.inl (oT (t10+1),b1,b2,b3,b0_1,b4))))
 (some (.inr (.inl (b1,b2,b3,b0_1,b4))))
def bO (b0:oU) (o1:List Int):Option pc :=
 (dO b0).bind λt8 =>
 (loop (λz=>kB o1 t8 z.1 z.2.1 z.2.2.1 z.2.2.2.1 z.2.2.2.2.1 z.2.2.2.2.2) (0,0,0,[],[],[])).bind (Sum.elim (λd =>
 (aL o1).bind λt21 =>
 some (t21,130,0,[],[])) (λr=>some r))
def f9:FL:=(22,⟨[.val true p9 false,.val false rC false],[.val true pE none],λa=>bO a.1 a.2⟩)::f8
theorem kC:Gd f9:=p7 kA 22 Tryz.f22 [(0,⟨⟨[(10,false,[dI])],[(2048,.box [.own 1000000000,dI,dI,dS,.own 1000000001]),(1000000000,.root p4 true),(1000000001,.root p4 true)]⟩,
 ⟨[],[(2048,.box [.own 1000000300,dI,dI,dS,.own 1000000301]),(1000000300,.root p4 true),(1000000301,.root p4 true)]⟩,some ⟨[],[(2048,.box [.dat (.sl p4),dI,dI,dS,.dat (.sl p4)])]⟩⟩)] Tryz.func22
def kD (p0:oU) (t24:List pc) (t26:Int) (t5:List pc):Option ((Int×List pc)⊕(List pc)) :=
 cond (decide (t26<(t24.length:Int)))
 ((at? t24 t26).bind λx28 =>
 (bO p0 x28.1).bind λt34 =>
 (pL t5 [t34]).bind λzs36 =>
 some (.inl (oT (t26+1),zs36)))
 (some (.inr t5))
def kE (t41:List pc) (t43:Int) (t9:List (List Int)):Option ((Int×List (List Int))⊕(List (List Int))) :=
 cond (decide (t43<(t41.length:Int)))
 ((at? t41 t43).bind λx45 =>
 (pL t9 [x45.1]).bind λzs51 =>
 some (.inl (oT (t43+1),zs51)))
 (some (.inr t9))
def kF (p0:oU) (l:List (List Int)) (t71:Int) (t5_3:List pc) (l_1:List (List Int)):Option ((Int×List pc×List (List Int))⊕(List pc×List (List Int))) :=
 cond (decide (t71<(l.length:Int)))
 (cond (decide ((t5_3.length:Int)>=10))
 (some (.inr (t5_3,l_1)))
 ((ix l_1.length t71).bind λj80 =>
 (l_1[j80]?).bind λx81 =>
 (bO p0 x81).bind λt82 =>
 (ix l_1.length t71).bind λj87 =>
 (l_1[j87]?).bind λx =>
 (pL t5_3 [t82]).bind λzs91 =>
 some (.inl (oT (t71+1),zs91,l_1.set j87 t82.1))))
 (some (.inr (t5_3,l_1)))
def kG (p0:oU) (i1:ra) (t12:Int) (t5_2:List pc) (l:List (List Int)):Option ((Int×List pc×List (List Int))⊕(List pc×List (List Int))) :=
 (cond (decide (t12<i1.2.2.2.1)) (some (decide ((l.length:Int)>0))) (some false)).bind λt61 =>
 (cond t61 (some (decide ((t5_2.length:Int)<10))) (some false)).bind λt66 =>
 cond t66
 ((loop (λz=>kF p0 l z.1 z.2.1 z.2.2) (0,t5_2,l)).bind λd_2 =>
 some (.inl (oT (t12+1),d_2.1,d_2.2)))
 (some (.inr (t5_2,l)))
def fa (p0:oU) (i1:ra):Option (List pc) :=
 let t6:=min2 i1.2.2.1 (i1.2.2.2.2.length:Int)
 (cut i1.2.2.2.2 0 t6).bind λt24 =>
 (loop (λz=>kD p0 t24 z.1 z.2) (0,[])).bind λd =>
 (cut i1.2.2.2.2 t6 (i1.2.2.2.2.length:Int)).bind λt41 =>
 (loop (λz=>kE t41 z.1 z.2) (0,[])).bind λd_1 =>
 (loop (λz=>kG p0 i1 z.1 z.2.1 z.2.2) (0,d,d_1)).bind λd_3 =>
 some d_3.1
def fb:FL:=(79,⟨[.val true p9 false,.val true u5 false],[.val false (.one (.sl pE)) none],λa=>fa a.1 a.2⟩)::f9
theorem kH:Gd fb:=p7 kC 79 Tryz.f79 [(0,⟨⟨[(5,false,[.own 1000000000]),(26,false,[dI])],[(1000000000,.root pE false)]⟩,
 ⟨[(5,false,[.own 1000000300])],[(1000000300,.root pE false)]⟩,none⟩),
 (2,⟨⟨[(9,false,[.own 1000002000]),(43,false,[dI])],[(1000002000,.root rC false)]⟩,
 ⟨[(9,false,[.own 1000002300])],[(1000002300,.root rC false)]⟩,none⟩),
 (4,⟨⟨(5,false,[.own 1000004000])::(12,false,[dI])::us 58 3 (us 63 3 []),[(1000004000,.root pE false),(1000002300,.keep rC false)]⟩,
 ⟨[(5,false,[.own 1000004300])],[(1000004300,.root pE false),(1000002300,.keep rC false)]⟩,none⟩),
 (6,⟨⟨[(5,false,[.own 1000006000]),(71,false,[dI])],[(1000006000,.root pE false),(1000002300,.keep rC false)]⟩,
 ⟨[(5,false,[.own 1000006300])],[(1000006300,.root pE false),(1000002300,.keep rC false)]⟩,none⟩)] Tryz.func79
def aw (o0:List Int) (low1:Int) (high2:Int) (head3:List Int):Option Bool :=
 cond ((o0.length:Int)==(oT ((head3.length:Int)+4)))
 ((cut o0 0 (oT ((o0.length:Int)-1))).bind λt20 =>
 (pL ([1,3,1]:List Int) head3).bind λzs23 =>
 (aK t20 zs23).bind λt24 =>
 (cond t24
 ((at? o0 (oT ((o0.length:Int)-1))).bind λx31 =>
 (a6 x31 low1 high2).bind λt35 =>
 some t35)
 (some false)).bind λt36 =>
 some t36)
 ((some false).bind λt36_1 =>
 some t36_1)
def fd:FL:=(335,⟨[.val false rC false,.val false p4 false,.val false p4 false,.val false rC false],[.val false pN (some true)],λa=>aw a.1 a.2.1 a.2.2.1 a.2.2.2⟩)::fb
theorem kJ:Gd fd:=p7 kH 335 Tryz.f335 [] Tryz.func335
def fe (b0:oU) (o1:List Int):Option Bool :=
 (aw o1 1 1 ([1]:List Int)).bind λt11 =>
 (cond t11
 (some true)
 ((aw o1 1 (b0.2.2.1.length:Int) ([2,2]:List Int)).bind λt16 =>
 some t16)).bind λt17 =>
 (cond t17
 (some true)
 ((aw o1 1 (b0.2.2.1.length:Int) ([2,4]:List Int)).bind λt22 =>
 some t22)).bind λt23 =>
 (cond t23
 (some true)
 ((aw o1 1 99 ([3,1]:List Int)).bind λt27 =>
 some t27)).bind λt28 =>
 cond t28
 (some true)
 ((aw o1 1 99 ([3,2]:List Int)).bind λt31 =>
 (cond t31
 (some true)
 ((aw o1 1 99 ([3,3]:List Int)).bind λt35 =>
 some t35)).bind λt36 =>
 (cond t36
 ((at? o1 5).bind λx41 =>
 (aa (b0.2.2.2.2.1,b0.2.2.2.2.2.1) x41).bind λt43 =>
 some (decide (t43>=0)))
 (some false)).bind λt45 =>
 some t45)
def ff:FL:=(280,⟨[.val true p9 false,.val false rC false],[.val false pN (some true)],λa=>fe a.1 a.2⟩)::fd
theorem kK:Gd ff:=p7 kJ 280 Tryz.f280 [] Tryz.func280
def kL (v0:pO) (r1:pm) (k7:Int):Option (Int⊕Int) :=
 (cond (decide (k7<(v0.1.length:Int)))
 ((at? v0.1 k7).bind λx31 =>
 some (decide (x31.1<=r1.1)))
 (some false)).bind λt37 =>
 cond t37 (some (.inl (oT (k7+1)))) (some (.inr k7))
def fg (v0:pO) (r1:pm):Option pO :=
 (bq v0).bind λt9 =>
 (aa v0 r1.1).bind λt13 =>
 cond (decide (t13>=0))
 ((ix t9.1.length t13).bind λj20 =>
 (t9.1[j20]?).bind λx =>
 some (t9.1.set j20 r1,t9.2))
 ((loop (λz=>kL v0 r1 z) 0).bind λd =>
 (cut v0.1 0 d).bind λt43 =>
 (pL [] t43).bind λzs44 =>
 (pL zs44 [r1]).bind λzs47 =>
 (cut v0.1 d (v0.1.length:Int)).bind λt51 =>
 (pL zs47 t51).bind λzs52 =>
 some (zs52,t9.2))
def fh:FL:=(360,⟨[.val true qv false,.val true pV false],[.val true qv (some true)],λa=>fg a.1 a.2⟩)::ff
theorem kM:Gd fh:=p7 kK 360 Tryz.f360 [(0,⟨⟨(7,false,[dI])::us 28 9 [],[]⟩,
 ⟨[(7,false,[dI])],[]⟩,none⟩)] Tryz.func360
def fi (v0:pO) (id1:Int):Option pO :=
 (bq v0).bind λt8 =>
 (aa v0 id1).bind λt11 =>
 cond (decide (t11>=0))
 ((cut v0.1 0 t11).bind λt17 =>
 (pL [] t17).bind λzs18 =>
 (cut v0.1 (oT (t11+1)) (v0.1.length:Int)).bind λt23 =>
 (pL zs18 t23).bind λzs24 =>
 some (zs24,t8.2))
 (some t8)
def fj:FL:=(361,⟨[.val true qv false,.val false p4 false],[.val true qv (some true)],λa=>fi a.1 a.2⟩)::fh
theorem kN:Gd fj:=p7 kM 361 Tryz.f361 [] Tryz.func361
def fk (p0:oU) (i1:Int) (a2:Int) (a3:Int):Option (oU×Int) :=
 (aa (p0.2.2.2.2.1,p0.2.2.2.2.2.1) a2).bind λt15 =>
 cond (i1==1)
 ((cond (a3==4) (some (decide (t15<0))) (some false)).bind λt24 =>
 (cond t24 (some (decide ((p0.2.2.2.2.1.length:Int)<6))) (some false)).bind λt33 =>
 cond t33
 ((fg (p0.2.2.2.2.1,p0.2.2.2.2.2.1) (a2,0,0)).bind λt41 =>
 some ((p0.1,p0.2.1,p0.2.2.1,p0.2.2.2.1,t41.1,t41.2,p0.2.2.2.2.2.2.1,p0.2.2.2.2.2.2.2.1,p0.2.2.2.2.2.2.2.2.1,p0.2.2.2.2.2.2.2.2.2.1,p0.2.2.2.2.2.2.2.2.2.2),0))
 ((cond (a3==6) (some (decide (t15>=0))) (some false)).bind λt50 =>
 cond t50
 ((fi (p0.2.2.2.2.1,p0.2.2.2.2.2.1) a2).bind λt57 =>
 some ((p0.1,p0.2.1,p0.2.2.1,p0.2.2.2.1,t57.1,t57.2,p0.2.2.2.2.2.2.1,p0.2.2.2.2.2.2.2.1,p0.2.2.2.2.2.2.2.2.1,p0.2.2.2.2.2.2.2.2.2.1,p0.2.2.2.2.2.2.2.2.2.2),0))
 (some (p0,2))))
 ((bP (p0.2.2.1.length:Int)).bind λt66 =>
 (a6 a3 0 t66).bind λt67 =>
 cond (!t67)
 (some (p0,2))
 (cond (i1==2)
 ((ix p0.2.2.2.2.1.length t15).bind λj78 =>
 (p0.2.2.2.2.1[j78]?).bind λx =>
 some ((p0.1,p0.2.1,p0.2.2.1,p0.2.2.2.1,p0.2.2.2.2.1.set j78 (x.1,a3,x.2.2),p0.2.2.2.2.2.1,p0.2.2.2.2.2.2.1,p0.2.2.2.2.2.2.2.1,p0.2.2.2.2.2.2.2.2.1,p0.2.2.2.2.2.2.2.2.2.1,p0.2.2.2.2.2.2.2.2.2.2),0))
 ((ix p0.2.2.2.2.1.length t15).bind λj87 =>
 (p0.2.2.2.2.1[j87]?).bind λx_1 =>
 some ((p0.1,p0.2.1,p0.2.2.1,p0.2.2.2.1,p0.2.2.2.2.1.set j87 (x_1.1,x_1.2.1,a3),p0.2.2.2.2.2.1,p0.2.2.2.2.2.2.1,p0.2.2.2.2.2.2.2.1,p0.2.2.2.2.2.2.2.2.1,p0.2.2.2.2.2.2.2.2.2.1,p0.2.2.2.2.2.2.2.2.2.2),0))))
def fm:FL:=(336,⟨[.ptr p9 (some true),.val false p4 false,.val false p4 false,.val false p4 false],[.val false p4 (some true)],λa=>fk a.1 a.2.1 a.2.2.1 a.2.2.2⟩)::fj
theorem kO:Gd fm:=p7 kN 336 Tryz.f336 [] Tryz.func336
def fo (p0:oU) (i1:List Int) (a2:ub):Option (oU×Int) :=
 (at? i1 3).bind λx9 =>
 (cond (x9==1) (some (a2.1 != 4)) (some false)).bind λt17 =>
 (cond t17
 (some true)
 ((cond (!(x9==1)) (some (a2.1 != 2)) (some false)).bind λt25 =>
 some t25)).bind λt26 =>
 cond t26
 (some (p0,1))
 (cond (x9==1)
 (cond (decide ((a2.2.2.1.length:Int)>10))
 (some (p0,2))
 (some ((p0.1,a2.2.2.1,p0.2.2.1,p0.2.2.2.1,p0.2.2.2.2.1,p0.2.2.2.2.2.1,p0.2.2.2.2.2.2.1,p0.2.2.2.2.2.2.2.1,p0.2.2.2.2.2.2.2.2.1,p0.2.2.2.2.2.2.2.2.2.1,p0.2.2.2.2.2.2.2.2.2.2),0)))
 ((at? i1 3).bind λx52 =>
 cond (x52==3)
 ((at? i1 4).bind λx57 =>
 (at? i1 5).bind λx60 =>
 (fk p0 x57 x60 a2.2.1).bind λt64 =>
 some t64)
 ((at? i1 4).bind λx67 =>
 cond (x67==2)
 ((a6 a2.2.1 1 1000).bind λt72 =>
 cond (!t72)
 (some (p0,2))
 ((at? i1 5).bind λx79 =>
 (ix p0.2.2.1.length (oT (x79-1))).bind λj84 =>
 (p0.2.2.1[j84]?).bind λx =>
 some ((p0.1,p0.2.1,p0.2.2.1.set j84 (x.1,a2.2.1,x.2.2.1,x.2.2.2.1,x.2.2.2.2.1,x.2.2.2.2.2.1,x.2.2.2.2.2.2.1,x.2.2.2.2.2.2.2),p0.2.2.2.1,p0.2.2.2.2.1,p0.2.2.2.2.2.1,p0.2.2.2.2.2.2.1,p0.2.2.2.2.2.2.2.1,p0.2.2.2.2.2.2.2.2.1,p0.2.2.2.2.2.2.2.2.2.1,p0.2.2.2.2.2.2.2.2.2.2),0)))
 ((at? i1 5).bind λx33 =>
 (ix p0.2.2.2.2.2.1.length (oT (x33-1))).bind λj38 =>
 (p0.2.2.2.2.2.1[j38]?).bind λx_1 =>
 some ((p0.1,p0.2.1,p0.2.2.1,p0.2.2.2.1,p0.2.2.2.2.1,p0.2.2.2.2.2.1.set j38 a2.2.1,p0.2.2.2.2.2.2.1,p0.2.2.2.2.2.2.2.1,p0.2.2.2.2.2.2.2.2.1,p0.2.2.2.2.2.2.2.2.2.1,p0.2.2.2.2.2.2.2.2.2.2),0)))))
def fp:FL:=(281,⟨[.ptr p9 (some true),.val false rC false,.val true uN false],[.val false p4 (some true)],λa=>fo a.1 a.2.1 a.2.2⟩)::fm
theorem kP:Gd fp:=p7 kO 281 Tryz.f281 [] Tryz.func281
def aS (l0:List oV) (tag1:Int) (mac2:Int) (t11:Int):Option (Int⊕(Unit⊕Int)) :=
 cond (decide (t11<(l0.length:Int)))
 ((at? l0 t11).bind λx14 =>
 (cond (x14.1==tag1) (some (x14.2.1==mac2)) (some false)).bind λt25 =>
 cond t25 (some (.inr (.inr t11))) (some (.inl (oT (t11+1)))))
 (some (.inr (.inl ())))
def aU (l0:List oV) (tag1:Int) (mac2:Int):Option Int :=
 (loop (λz=>aS l0 tag1 mac2 z) 0).bind (Sum.elim (λd =>
 some (-1)) (λr=>some r))
def fq:FL:=(337,⟨[.val false (.one (.sl pd)) false,.val false p4 false,.val false p4 false],[.val false p4 (some true)],λa=>aU a.1 a.2.1 a.2.2⟩)::fp
theorem kQ:Gd fq:=p7 kP 337 Tryz.f337 [(0,⟨⟨(11,false,[dI])::us 21 4 [],[]⟩,
 ⟨[],[]⟩,some ⟨[(6,false,[dI])],[]⟩⟩)] Tryz.func337
def fr (b0:oU) (o1:List Int):Option Bool :=
 (aw o1 2 5 ([1]:List Int)).bind λt11 =>
 (cond t11
 (some true)
 ((aw o1 1 (b0.2.2.1.length:Int) ([2,1]:List Int)).bind λt16 =>
 some t16)).bind λt17 =>
 (cond t17
 (some true)
 ((aw o1 1 (b0.2.2.1.length:Int) ([2,3]:List Int)).bind λt22 =>
 some t22)).bind λt23 =>
 cond t23
 (some true)
 ((cond ((o1.length:Int)==7)
 ((cut o1 0 5).bind λt29 =>
 (aK t29 ([1,3,1,4,1]:List Int)).bind λt31 =>
 some t31)
 (some false)).bind λt32 =>
 (cond t32
 ((at? o1 5).bind λx37 =>
 (at? o1 6).bind λx40 =>
 (aU b0.2.2.2.1 x37 x40).bind λt42 =>
 some (decide (t42>=0)))
 (some false)).bind λt44 =>
 some t44)
def ft:FL:=(282,⟨[.val true p9 false,.val false rC false],[.val false pN (some true)],λa=>fr a.1 a.2⟩)::fq
theorem kR:Gd ft:=p7 kQ 282 Tryz.f282 [] Tryz.func282
def fu (b0:oU) (x1:pc):Option (oU×Int) :=
 (fe b0 x1.1).bind λt11 =>
 cond t11
 ((fo b0 x1.1 x1.2).bind λt17 =>
 some t17)
 ((fr b0 x1.1).bind λt24 =>
 cond t24 (some (b0,4)) (some (b0,3)))
def fv:FL:=(171,⟨[.ptr p9 (some true),.val true pE false],[.val false p4 (some true)],λa=>fu a.1 a.2⟩)::ft
theorem kS:Gd fv:=p7 kR 171 Tryz.f171 [] Tryz.func171
def ak (id0:Int) (l1:List Pt) (bits5:Int) (port6:Int):Option ((Int×Int)⊕Int) :=
 (cond (decide (port6<(l1.length:Int))) (some (decide (port6<6))) (some false)).bind λt15 =>
 cond t15
 ((au id0 l1 port6).bind λt21 =>
 (cond (t21==1) (some true) (some (t21==2))).bind λt27 =>
 cond t27
 ((shl .i64 1 port6).bind λt30 =>
 some (.inl (Aa .i64 bits5 t30,oT (port6+1))))
 (some (.inl (bits5,oT (port6+1)))))
 (some (.inr bits5))
def bQ (id0:Int) (l1:List Pt):Option Int :=
 (loop (λz=>ak id0 l1 z.1 z.2) (0,0)).bind λd =>
 some d
def fw:FL:=(283,⟨[.val false p4 false,.val false (.one (.sl qy)) false],[.val false p4 (some true)],λa=>bQ a.1 a.2⟩)::fv
theorem kT:Gd fw:=p7 kS 283 Tryz.f283 [(0,⟨⟨[(5,false,[dI]),(6,false,[dI]),(13,false,[.undef]),(14,false,[.undef]),(25,false,[.undef]),(26,false,[.undef])],[]⟩,
 ⟨[(5,false,[dI])],[]⟩,none⟩)] Tryz.func283
def ae (bits0:Int) (port1:Int):Option Bool :=
 (a6 port1 0 62).bind λt6 =>
 (cond t6
 ((shr .i64 bits0 port1).bind λt10 =>
 some ((rb .i64 t10 1)==1))
 (some false)).bind λt13 =>
 some t13
def fx:FL:=(284,⟨[.val false p4 false,.val false p4 false],[.val false pN (some true)],λa=>ae a.1 a.2⟩)::fw
theorem kU:Gd fx:=p7 kT 284 Tryz.f284 [] Tryz.func284
def br (l0:List oV) (port1:Int) (t10:Int) (out5:List oV):Option ((Int×List oV)⊕(List oV)) :=
 cond (decide (t10<(l0.length:Int)))
 ((at? l0 t10).bind λx12 =>
 (cond x12.2.2.2.2 (some true) (some (x12.2.2.1 != port1))).bind λt21 =>
 cond t21
 ((pL out5 [x12]).bind λzs25 =>
 some (.inl (oT (t10+1),zs25)))
 (some (.inl (oT (t10+1),out5))))
 (some (.inr out5))
def cC (l0:List oV) (port1:Int):Option (List oV) :=
 (loop (λz=>br l0 port1 z.1 z.2) (0,[])).bind λd =>
 some d
def fy:FL:=(285,⟨[.val false (.one (.sl pd)) false,.val false p4 false],[.val false (.one (.sl pd)) (some true)],λa=>cC a.1 a.2⟩)::fx
theorem kV:Gd fy:=p7 kU 285 Tryz.f285 [(0,⟨⟨(5,false,[.own 1000000000])::(10,false,[dI])::us 17 4 [],[(1000000000,.root pd true)]⟩,
 ⟨[(5,false,[.own 1000000300])],[(1000000300,.root pd true)]⟩,none⟩)] Tryz.func285
def cD (b0:oU) (t20:Int) (t26:Int) (b0_1:Int) (b1:List UInt8) (b6:Int) (b7:Int) (b8:Int) (b9:Int) (b10:Int) (b3:List oV):Option ((Int×Int×List UInt8×Int×Int×Int×Int×Int×List oV)⊕(Int×List UInt8×Int×Int×Int×Int×Int×List oV)) :=
 cond (decide (t26<(b0.2.2.1.length:Int)))
 ((ae t20 t26).bind λt31 =>
 cond (!t31)
 ((cC b3 t26).bind λt39 =>
 some (.inl (oT (t26+1),b0_1,b1,b6,b7,b8,b9,b10,t39)))
 (some (.inl (oT (t26+1),b0_1,b1,b6,b7,b8,b9,b10,b3))))
 (some (.inr (b0_1,b1,b6,b7,b8,b9,b10,b3)))
def am (b0:oU):Option oU :=
 (af b0.2.2.2.2.2.2.2.2.2.2).bind λt9 =>
 (bQ b0.1 b0.2.2.1).bind λt20 =>
 (loop (λz=>cD b0 t20 z.1 z.2.1 z.2.2.1 z.2.2.2.1 z.2.2.2.2.1 z.2.2.2.2.2.1 z.2.2.2.2.2.2.1 z.2.2.2.2.2.2.2.1 z.2.2.2.2.2.2.2.2) (0,b0.1,b0.2.1,b0.2.2.2.2.2.2.1,b0.2.2.2.2.2.2.2.1,b0.2.2.2.2.2.2.2.2.1,b0.2.2.2.2.2.2.2.2.2.1,t9,b0.2.2.2.1)).bind λd =>
 some (d.1,d.2.1,b0.2.2.1,d.2.2.2.2.2.2.2,b0.2.2.2.2.1,b0.2.2.2.2.2.1,d.2.2.1,d.2.2.2.1,d.2.2.2.2.1,d.2.2.2.2.2.1,d.2.2.2.2.2.2.1)
def fA:FL:=(172,⟨[.ptr p9 (some true)],[],λa=>am a⟩)::fy
theorem kW:Gd fA:=p7 kV 172 Tryz.f172 [(0,⟨⟨[(26,false,[dI])],[(1,.box [dI,dS,.same 4,.own 1000000000,.same 6,.same 7,dI,dI,dI,dI,dI]),(1000000000,.root pd true)]⟩,
 ⟨[],[(1,.box [dI,dS,.same 4,.own 1000000300,.same 6,.same 7,dI,dI,dI,dI,dI]),(1000000300,.root pd true)]⟩,none⟩)] Tryz.func172
def kX (p0:oU) (t25:Int) (x28:pc) (t32:List pc) (t34:Int) (b0_2:Int) (b1_2:List UInt8) (b6_2:Int) (b7_2:Int) (b8_2:Int) (b9_2:Int) (b10_2:Int):Option ((Int×Int×List UInt8×Int×Int×Int×Int×Int)⊕((Int×List UInt8×Int×Int×Int×Int×Int)⊕(Int×Int×Int×List UInt8×Int×Int×Int×Int×Int×List Pt×List oV×List pm×List Int))) :=
 cond (decide (t34<(t32.length:Int)))
 ((at? t32 t34).bind λx36 =>
 (aK x28.1 x36.1).bind λt42 =>
 cond t42
 ((a8 p0).bind λt44 =>
 some (.inr (.inr (5,oT (t25+1),t44.1,t44.2.1,t44.2.2.2.2.2.2.1,t44.2.2.2.2.2.2.2.1,t44.2.2.2.2.2.2.2.2.1,t44.2.2.2.2.2.2.2.2.2.1,t44.2.2.2.2.2.2.2.2.2.2,t44.2.2.1,t44.2.2.2.1,t44.2.2.2.2.1,t44.2.2.2.2.2.1))))
 (some (.inl (oT (t34+1),b0_2,b1_2,b6_2,b7_2,b8_2,b9_2,b10_2))))
 (some (.inr (.inl (b0_2,b1_2,b6_2,b7_2,b8_2,b9_2,b10_2))))
def kY (p0:oU) (i1:List pc) (t25:Int) (b0:Int) (b1:List UInt8) (b6:Int) (b7:Int) (b8:Int) (b9:Int) (b10:Int) (b0_1:Int) (b1_1:List UInt8) (b6_1:Int) (b7_1:Int) (b8_1:Int) (b9_1:Int) (b10_1:Int) (b2:List Pt) (b3:List oV) (b4:List pm) (b5:List Int) (b2_1:List Pt) (b3_1:List oV) (b4_1:List pm) (b5_1:List Int):Option ((Int×Int×List UInt8×Int×Int×Int×Int×Int×Int×List UInt8×Int×Int×Int×Int×Int×List Pt×List oV×List pm×List Int×List Pt×List oV×List pm×List Int)⊕((Int×List UInt8×Int×Int×Int×Int×Int×Int×List UInt8×Int×Int×Int×Int×Int×List Pt×List oV×List pm×List Int×List Pt×List oV×List pm×List Int)⊕(Int×Int×Int×List UInt8×Int×Int×Int×Int×Int×List Pt×List oV×List pm×List Int))) :=
 cond (decide (t25<(i1.length:Int)))
 ((at? i1 t25).bind λx28 =>
 (cut i1 0 t25).bind λt32 =>
 (loop (λz=>kX p0 t25 x28 t32 z.1 z.2.1 z.2.2.1 z.2.2.2.1 z.2.2.2.2.1 z.2.2.2.2.2.1 z.2.2.2.2.2.2.1 z.2.2.2.2.2.2.2) (0,b0,b1,b6,b7,b8,b9,b10)).bind (Sum.elim (λd =>
 (fu (b0_1,b1_1,b2_1,b3_1,b4_1,b5_1,b6_1,b7_1,b8_1,b9_1,b10_1) x28).bind λt49 =>
 cond (t49.2 != 0)
 ((a8 p0).bind λt53 =>
 some (.inr (.inr (t49.2,oT (t25+1),t53.1,t53.2.1,t53.2.2.2.2.2.2.1,t53.2.2.2.2.2.2.2.1,t53.2.2.2.2.2.2.2.2.1,t53.2.2.2.2.2.2.2.2.2.1,t53.2.2.2.2.2.2.2.2.2.2,t53.2.2.1,t53.2.2.2.1,t53.2.2.2.2.1,t53.2.2.2.2.2.1))))
 (some (.inl (oT (t25+1),d.1,d.2.1,d.2.2.1,d.2.2.2.1,d.2.2.2.2.1,d.2.2.2.2.2.1,d.2.2.2.2.2.2,t49.1.1,t49.1.2.1,t49.1.2.2.2.2.2.2.1,t49.1.2.2.2.2.2.2.2.1,t49.1.2.2.2.2.2.2.2.2.1,t49.1.2.2.2.2.2.2.2.2.2.1,t49.1.2.2.2.2.2.2.2.2.2.2,b2,b3,b4,b5,t49.1.2.2.1,t49.1.2.2.2.1,t49.1.2.2.2.2.1,t49.1.2.2.2.2.2.1)))) (λr=>some (.inr (.inr r)))))
 (some (.inr (.inl (b0,b1,b6,b7,b8,b9,b10,b0_1,b1_1,b6_1,b7_1,b8_1,b9_1,b10_1,b2,b3,b4,b5,b2_1,b3_1,b4_1,b5_1))))
def fB (p0:oU) (i1:List pc):Option (oU×Int×Int) :=
 (a8 p0).bind λt14 =>
 cond ((i1.length:Int)==0)
 (some (t14,0,0))
 ((av p0).bind λt20 =>
 cond (!t20)
 (some (t14,3,1))
 ((loop (λz=>kY p0 i1 z.1 z.2.1 z.2.2.1 z.2.2.2.1 z.2.2.2.2.1 z.2.2.2.2.2.1 z.2.2.2.2.2.2.1 z.2.2.2.2.2.2.2.1 z.2.2.2.2.2.2.2.2.1 z.2.2.2.2.2.2.2.2.2.1 z.2.2.2.2.2.2.2.2.2.2.1 z.2.2.2.2.2.2.2.2.2.2.2.1 z.2.2.2.2.2.2.2.2.2.2.2.2.1 z.2.2.2.2.2.2.2.2.2.2.2.2.2.1 z.2.2.2.2.2.2.2.2.2.2.2.2.2.2.1 z.2.2.2.2.2.2.2.2.2.2.2.2.2.2.2.1 z.2.2.2.2.2.2.2.2.2.2.2.2.2.2.2.2.1 z.2.2.2.2.2.2.2.2.2.2.2.2.2.2.2.2.2.1 z.2.2.2.2.2.2.2.2.2.2.2.2.2.2.2.2.2.2.1 z.2.2.2.2.2.2.2.2.2.2.2.2.2.2.2.2.2.2.2.1 z.2.2.2.2.2.2.2.2.2.2.2.2.2.2.2.2.2.2.2.2.1 z.2.2.2.2.2.2.2.2.2.2.2.2.2.2.2.2.2.2.2.2.2.1 z.2.2.2.2.2.2.2.2.2.2.2.2.2.2.2.2.2.2.2.2.2.2) (0,0,[],0,0,0,0,0,t14.1,t14.2.1,t14.2.2.2.2.2.2.1,t14.2.2.2.2.2.2.2.1,t14.2.2.2.2.2.2.2.2.1,t14.2.2.2.2.2.2.2.2.2.1,t14.2.2.2.2.2.2.2.2.2.2,[],[],[],[],t14.2.2.1,t14.2.2.2.1,t14.2.2.2.2.1,t14.2.2.2.2.2.1)).bind (Sum.elim (λd_1 =>
 (bR d_1.2.2.2.2.2.2.2.2.2.2.2.2.2.2.2.2.2.2.2.2 (d_1.2.2.2.2.2.2.2.2.2.2.2.2.2.2.2.2.2.2.1.length:Int)).bind λt63 =>
 cond (!t63)
 ((a8 p0).bind λt66 =>
 some (t66,5,(i1.length:Int)))
 ((am (d_1.2.2.2.2.2.2.2.1,d_1.2.2.2.2.2.2.2.2.1,d_1.2.2.2.2.2.2.2.2.2.2.2.2.2.2.2.2.2.2.1,d_1.2.2.2.2.2.2.2.2.2.2.2.2.2.2.2.2.2.2.2.1,d_1.2.2.2.2.2.2.2.2.2.2.2.2.2.2.2.2.2.2.2.2.1,d_1.2.2.2.2.2.2.2.2.2.2.2.2.2.2.2.2.2.2.2.2.2,d_1.2.2.2.2.2.2.2.2.2.1,d_1.2.2.2.2.2.2.2.2.2.2.1,d_1.2.2.2.2.2.2.2.2.2.2.2.1,d_1.2.2.2.2.2.2.2.2.2.2.2.2.1,d_1.2.2.2.2.2.2.2.2.2.2.2.2.2.1)).bind λt69 =>
 some (t69,0,0))) (λr_1=>some ((r_1.2.2.1,r_1.2.2.2.1,r_1.2.2.2.2.2.2.2.2.2.1,r_1.2.2.2.2.2.2.2.2.2.2.1,r_1.2.2.2.2.2.2.2.2.2.2.2.1,r_1.2.2.2.2.2.2.2.2.2.2.2.2,r_1.2.2.2.2.1,r_1.2.2.2.2.2.1,r_1.2.2.2.2.2.2.1,r_1.2.2.2.2.2.2.2.1,r_1.2.2.2.2.2.2.2.2.1),r_1.1,r_1.2.1)))))
def fC:FL:=(80,⟨[.val true p9 false,.val false (.one (.sl pE)) false],[.val true p9 (some true),.val false p4 (some true),.val false p4 (some true)],λa=>fB a.1 a.2⟩)::fA
theorem kZ:Gd fC:=p7 kW 80 Tryz.f80 [(0,⟨⟨[(25,false,[dI])],[(2048,.box [dI,dS,.own 1000000000,.own 1000000001,.own 1000000002,.own 1000000003,dI,dI,dI,dI,dI]),(265216,.box [dI,dS,.own 1000000004,.own 1000000005,.own 1000000006,.own 1000000007,dI,dI,dI,dI,dI]),(1000000000,.root qy true),(1000000001,.root pd true),(1000000002,.root pV true),(1000000003,.root p4 true),(1000000004,.root qy true),(1000000005,.root pd true),(1000000006,.root pV true),(1000000007,.root p4 true)]⟩,
 ⟨[],[(2048,.box [dI,dS,.own 1000000300,.own 1000000301,.own 1000000302,.own 1000000303,dI,dI,dI,dI,dI]),(265216,.box [dI,dS,.own 1000000304,.own 1000000305,.own 1000000306,.own 1000000307,dI,dI,dI,dI,dI]),(1000000300,.root qy true),(1000000301,.root pd true),(1000000302,.root pV true),(1000000303,.root p4 true),(1000000304,.root qy true),(1000000305,.root pd true),(1000000306,.root pV true),(1000000307,.root p4 true)]⟩,some ⟨[(5,false,[dI]),(6,false,[dI])],[(2048,.box [dI,dS,.own 1000000600,.own 1000000601,.own 1000000602,.own 1000000603,dI,dI,dI,dI,dI]),(1000000600,.root qy true),(1000000601,.root pd true),(1000000602,.root pV true),(1000000603,.root p4 true)]⟩⟩),
 (2,⟨⟨[(34,false,[dI])],[(2048,.box [dI,dS,.same 1000000000,.same 1000000001,.same 1000000002,.same 1000000003,dI,dI,dI,dI,dI])]⟩,
 ⟨[],[(2048,.box [dI,dS,.same 1000000000,.same 1000000001,.same 1000000002,.same 1000000003,dI,dI,dI,dI,dI])]⟩,some ⟨[(5,false,[dI]),(6,false,[dI])],[(2048,.box [dI,dS,.own 1000002600,.own 1000002601,.own 1000002602,.own 1000002603,dI,dI,dI,dI,dI]),(1000002600,.root qy true),(1000002601,.root pd true),(1000002602,.root pV true),(1000002603,.root p4 true)]⟩⟩)] Tryz.func80
def l6 (p0:oU) (i1:ra) (t54:Int) (b0:Int) (b1:Int) (b2:Int) (b3:Int) (b4:List pc):Option ((Int×Int×Int×Int×Int×List pc)⊕(Int×Int×Int×Int×List pc)) :=
 cond (decide (t54<(i1.2.2.2.2.length:Int)))
 ((at? i1.2.2.2.2 t54).bind λx56 =>
 (aL x56.1).bind λt62 =>
 (eZ p0 x56.1).bind λt66 =>
 (pL b4 [(t62,t66.1,t66.2.1,t66.2.2.1,t66.2.2.2)]).bind λzs69 =>
 some (.inl (oT (t54+1),b0,b1,b2,b3,zs69)))
 (some (.inr (b0,b1,b2,b3,b4)))
def l7 (i1:ra) (b0_2:Int) (b1_2:List UInt8) (b6:Int) (b7:Int) (b8:Int) (b9:Int) (b10:Int) (b0_3:Int) (b1_3:Int) (b2_2:Int) (b3_2:Int) (b0_4:Int) (b1_4:List UInt8) (b6_1:Int) (b7_1:Int) (b8_1:Int) (b9_1:Int) (b10_1:Int) (b0_5:Int) (b1_5:Int) (b2_3:Int) (b3_3:Int) (b4_2:List pc) (b2_4:List Pt) (b3_4:List oV) (b4_3:List pm) (b5:List Int) (b4_4:List pc) (b2_5:List Pt) (b3_5:List oV) (b4_5:List pm) (b5_1:List Int):Option ((Int×List UInt8×Int×Int×Int×Int×Int×Int×Int×Int×Int×Int×List UInt8×Int×Int×Int×Int×Int×Int×Int×Int×Int×List pc×List Pt×List oV×List pm×List Int×List pc×List Pt×List oV×List pm×List Int)⊕((Int×List UInt8×Int×Int×Int×Int×Int×Int×Int×Int×Int×Int×List UInt8×Int×Int×Int×Int×Int×Int×Int×Int×Int×List pc×List Pt×List oV×List pm×List Int×List pc×List Pt×List oV×List pm×List Int)⊕(Bool×Int×List UInt8×Int×Int×Int×Int×Int×Int×Int×Int×Int×List pc×List Pt×List oV×List pm×List Int))) :=
 (cond (i1.1==165) (some (decide ((b4_2.length:Int)>0))) (some false)).bind λt109 =>
 cond t109
 ((cut b4_2 0 (oT ((b4_2.length:Int)-1))).bind λt116 =>
 (ar (b0_5,b1_5,b2_3,b3_3,t116)).bind λt119 =>
 cond t119
 (some (.inr (.inr (true,b0_4,b1_4,b6_1,b7_1,b8_1,b9_1,b10_1,b0_5,b1_5,b2_3,b3_3,t116,b2_5,b3_5,b4_5,b5_1))))
 (some (.inl (b0_2,b1_2,b6,b7,b8,b9,b10,b0_3,b1_3,b2_2,b3_2,b0_4,b1_4,b6_1,b7_1,b8_1,b9_1,b10_1,b0_5,b1_5,b2_3,b3_3,t116,b2_4,b3_4,b4_3,b5,b4_4,b2_5,b3_5,b4_5,b5_1))))
 (some (.inr (.inl (b0_2,b1_2,b6,b7,b8,b9,b10,b0_3,b1_3,b2_2,b3_2,b0_4,b1_4,b6_1,b7_1,b8_1,b9_1,b10_1,b0_5,b1_5,b2_3,b3_3,b4_2,b2_4,b3_4,b4_3,b5,b4_4,b2_5,b3_5,b4_5,b5_1))))
def l8 (p0:oU) (i1:ra) (t77:Int) (b0_10:Int) (b1_10:Int) (b2_10:Int) (b3_10:Int) (b4_10:List pc):Option ((Int×Int×Int×Int×Int×List pc)⊕(Int×Int×Int×Int×List pc)) :=
 cond (decide (t77<(i1.2.2.2.2.length:Int)))
 ((at? i1.2.2.2.2 t77).bind λx79 =>
 (bO p0 x79.1).bind λt86 =>
 (pL b4_10 [t86]).bind λzs88 =>
 some (.inl (oT (t77+1),b0_10,b1_10,b2_10,b3_10,zs88)))
 (some (.inr (b0_10,b1_10,b2_10,b3_10,b4_10)))
def l9 (i1:ra) (b0_12:Int) (b1_12:List UInt8) (b6_4:Int) (b7_4:Int) (b8_4:Int) (b9_4:Int) (b10_4:Int) (b0_13:Int) (b1_13:Int) (b2_12:Int) (b3_12:Int) (b0_14:Int) (b1_14:List UInt8) (b6_5:Int) (b7_5:Int) (b8_5:Int) (b9_5:Int) (b10_5:Int) (b0_15:Int) (b1_15:Int) (b2_13:Int) (b3_13:Int) (b4_12:List pc) (b2_14:List Pt) (b3_14:List oV) (b4_13:List pm) (b5_4:List Int) (b4_14:List pc) (b2_15:List Pt) (b3_15:List oV) (b4_15:List pm) (b5_5:List Int):Option ((Int×List UInt8×Int×Int×Int×Int×Int×Int×Int×Int×Int×Int×List UInt8×Int×Int×Int×Int×Int×Int×Int×Int×Int×List pc×List Pt×List oV×List pm×List Int×List pc×List Pt×List oV×List pm×List Int)⊕((Int×List UInt8×Int×Int×Int×Int×Int×Int×Int×Int×Int×Int×List UInt8×Int×Int×Int×Int×Int×Int×Int×Int×Int×List pc×List Pt×List oV×List pm×List Int×List pc×List Pt×List oV×List pm×List Int)⊕(Bool×Int×List UInt8×Int×Int×Int×Int×Int×Int×Int×Int×Int×List pc×List Pt×List oV×List pm×List Int))) :=
 (cond (i1.1==165) (some (decide ((b4_12.length:Int)>0))) (some false)).bind λt109_1 =>
 cond t109_1
 ((cut b4_12 0 (oT ((b4_12.length:Int)-1))).bind λt116_1 =>
 (ar (b0_15,b1_15,b2_13,b3_13,t116_1)).bind λt119_1 =>
 cond t119_1
 (some (.inr (.inr (true,b0_14,b1_14,b6_5,b7_5,b8_5,b9_5,b10_5,b0_15,b1_15,b2_13,b3_13,t116_1,b2_15,b3_15,b4_15,b5_5))))
 (some (.inl (b0_12,b1_12,b6_4,b7_4,b8_4,b9_4,b10_4,b0_13,b1_13,b2_12,b3_12,b0_14,b1_14,b6_5,b7_5,b8_5,b9_5,b10_5,b0_15,b1_15,b2_13,b3_13,t116_1,b2_14,b3_14,b4_13,b5_4,b4_14,b2_15,b3_15,b4_15,b5_5))))
 (some (.inr (.inl (b0_12,b1_12,b6_4,b7_4,b8_4,b9_4,b10_4,b0_13,b1_13,b2_12,b3_12,b0_14,b1_14,b6_5,b7_5,b8_5,b9_5,b10_5,b0_15,b1_15,b2_13,b3_13,b4_12,b2_14,b3_14,b4_13,b5_4,b4_14,b2_15,b3_15,b4_15,b5_5))))
def lb (i1:ra) (b0_20:Int) (b1_20:List UInt8) (b6_8:Int) (b7_8:Int) (b8_8:Int) (b9_8:Int) (b10_8:Int) (b0_21:Int) (b1_21:Int) (b2_20:Int) (b3_20:Int) (b0_22:Int) (b1_22:List UInt8) (b6_9:Int) (b7_9:Int) (b8_9:Int) (b9_9:Int) (b10_9:Int) (b0_23:Int) (b1_23:Int) (b2_21:Int) (b3_21:Int) (b4_20:List pc) (b2_22:List Pt) (b3_22:List oV) (b4_21:List pm) (b5_8:List Int) (b4_22:List pc) (b2_23:List Pt) (b3_23:List oV) (b4_23:List pm) (b5_9:List Int):Option ((Int×List UInt8×Int×Int×Int×Int×Int×Int×Int×Int×Int×Int×List UInt8×Int×Int×Int×Int×Int×Int×Int×Int×Int×List pc×List Pt×List oV×List pm×List Int×List pc×List Pt×List oV×List pm×List Int)⊕((Int×List UInt8×Int×Int×Int×Int×Int×Int×Int×Int×Int×Int×List UInt8×Int×Int×Int×Int×Int×Int×Int×Int×Int×List pc×List Pt×List oV×List pm×List Int×List pc×List Pt×List oV×List pm×List Int)⊕(Bool×Int×List UInt8×Int×Int×Int×Int×Int×Int×Int×Int×Int×List pc×List Pt×List oV×List pm×List Int))) :=
 (cond (i1.1==165) (some (decide ((b4_20.length:Int)>0))) (some false)).bind λt109_2 =>
 cond t109_2
 ((cut b4_20 0 (oT ((b4_20.length:Int)-1))).bind λt116_2 =>
 (ar (b0_23,b1_23,b2_21,b3_21,t116_2)).bind λt119_2 =>
 cond t119_2
 (some (.inr (.inr (true,b0_22,b1_22,b6_9,b7_9,b8_9,b9_9,b10_9,b0_23,b1_23,b2_21,b3_21,t116_2,b2_23,b3_23,b4_23,b5_9))))
 (some (.inl (b0_20,b1_20,b6_8,b7_8,b8_8,b9_8,b10_8,b0_21,b1_21,b2_20,b3_20,b0_22,b1_22,b6_9,b7_9,b8_9,b9_9,b10_9,b0_23,b1_23,b2_21,b3_21,t116_2,b2_22,b3_22,b4_21,b5_8,b4_22,b2_23,b3_23,b4_23,b5_9))))
 (some (.inr (.inl (b0_20,b1_20,b6_8,b7_8,b8_8,b9_8,b10_8,b0_21,b1_21,b2_20,b3_20,b0_22,b1_22,b6_9,b7_9,b8_9,b9_9,b10_9,b0_23,b1_23,b2_21,b3_21,b4_20,b2_22,b3_22,b4_21,b5_8,b4_22,b2_23,b3_23,b4_23,b5_9))))
def lc (i1:ra) (b0_28:Int) (b1_28:List UInt8) (b6_12:Int) (b7_12:Int) (b8_12:Int) (b9_12:Int) (b10_12:Int) (b0_29:Int) (b1_29:Int) (b2_28:Int) (b3_28:Int) (b0_30:Int) (b1_30:List UInt8) (b6_13:Int) (b7_13:Int) (b8_13:Int) (b9_13:Int) (b10_13:Int) (b0_31:Int) (b1_31:Int) (b2_29:Int) (b3_29:Int) (b4_28:List pc) (b2_30:List Pt) (b3_30:List oV) (b4_29:List pm) (b5_12:List Int) (b4_30:List pc) (b2_31:List Pt) (b3_31:List oV) (b4_31:List pm) (b5_13:List Int):Option ((Int×List UInt8×Int×Int×Int×Int×Int×Int×Int×Int×Int×Int×List UInt8×Int×Int×Int×Int×Int×Int×Int×Int×Int×List pc×List Pt×List oV×List pm×List Int×List pc×List Pt×List oV×List pm×List Int)⊕((Int×List UInt8×Int×Int×Int×Int×Int×Int×Int×Int×Int×Int×List UInt8×Int×Int×Int×Int×Int×Int×Int×Int×Int×List pc×List Pt×List oV×List pm×List Int×List pc×List Pt×List oV×List pm×List Int)⊕(Bool×Int×List UInt8×Int×Int×Int×Int×Int×Int×Int×Int×Int×List pc×List Pt×List oV×List pm×List Int))) :=
 (cond (i1.1==165) (some (decide ((b4_28.length:Int)>0))) (some false)).bind λt109_3 =>
 cond t109_3
 ((cut b4_28 0 (oT ((b4_28.length:Int)-1))).bind λt116_3 =>
 (ar (b0_31,b1_31,b2_29,b3_29,t116_3)).bind λt119_3 =>
 cond t119_3
 (some (.inr (.inr (true,b0_30,b1_30,b6_13,b7_13,b8_13,b9_13,b10_13,b0_31,b1_31,b2_29,b3_29,t116_3,b2_31,b3_31,b4_31,b5_13))))
 (some (.inl (b0_28,b1_28,b6_12,b7_12,b8_12,b9_12,b10_12,b0_29,b1_29,b2_28,b3_28,b0_30,b1_30,b6_13,b7_13,b8_13,b9_13,b10_13,b0_31,b1_31,b2_29,b3_29,t116_3,b2_30,b3_30,b4_29,b5_12,b4_30,b2_31,b3_31,b4_31,b5_13))))
 (some (.inr (.inl (b0_28,b1_28,b6_12,b7_12,b8_12,b9_12,b10_12,b0_29,b1_29,b2_28,b3_28,b0_30,b1_30,b6_13,b7_13,b8_13,b9_13,b10_13,b0_31,b1_31,b2_29,b3_29,b4_28,b2_30,b3_30,b4_29,b5_12,b4_30,b2_31,b3_31,b4_31,b5_13))))
def dP (p0:oU) (i1:ra):Option (oU×ra×Bool) :=
 (a8 p0).bind λt14 =>
 (av p0).bind λt16 =>
 (cond (!t16)
 (some true)
 ((cE i1).bind λt20 =>
 some (!t20))).bind λt22 =>
 (cond t22 (some true) (some (i1.1==162))).bind λt27 =>
 cond t27
 (some (t14,(0,0,0,0,[]),false))
 (cond (i1.1==160)
 ((loop (λz=>l6 p0 i1 z.1 z.2.1 z.2.2.1 z.2.2.2.1 z.2.2.2.2.1 z.2.2.2.2.2) (0,162,i1.2.1,0,0,[])).bind λd =>
 (ar d).bind λt98 =>
 cond t98
 (some (t14,d,true))
 ((loop (λz=>l7 i1 z.1 z.2.1 z.2.2.1 z.2.2.2.1 z.2.2.2.2.1 z.2.2.2.2.2.1 z.2.2.2.2.2.2.1 z.2.2.2.2.2.2.2.1 z.2.2.2.2.2.2.2.2.1 z.2.2.2.2.2.2.2.2.2.1 z.2.2.2.2.2.2.2.2.2.2.1 z.2.2.2.2.2.2.2.2.2.2.2.1 z.2.2.2.2.2.2.2.2.2.2.2.2.1 z.2.2.2.2.2.2.2.2.2.2.2.2.2.1 z.2.2.2.2.2.2.2.2.2.2.2.2.2.2.1 z.2.2.2.2.2.2.2.2.2.2.2.2.2.2.2.1 z.2.2.2.2.2.2.2.2.2.2.2.2.2.2.2.2.1 z.2.2.2.2.2.2.2.2.2.2.2.2.2.2.2.2.2.1 z.2.2.2.2.2.2.2.2.2.2.2.2.2.2.2.2.2.2.1 z.2.2.2.2.2.2.2.2.2.2.2.2.2.2.2.2.2.2.2.1 z.2.2.2.2.2.2.2.2.2.2.2.2.2.2.2.2.2.2.2.2.1 z.2.2.2.2.2.2.2.2.2.2.2.2.2.2.2.2.2.2.2.2.2.1 z.2.2.2.2.2.2.2.2.2.2.2.2.2.2.2.2.2.2.2.2.2.2.1 z.2.2.2.2.2.2.2.2.2.2.2.2.2.2.2.2.2.2.2.2.2.2.2.1 z.2.2.2.2.2.2.2.2.2.2.2.2.2.2.2.2.2.2.2.2.2.2.2.2.1 z.2.2.2.2.2.2.2.2.2.2.2.2.2.2.2.2.2.2.2.2.2.2.2.2.2.1 z.2.2.2.2.2.2.2.2.2.2.2.2.2.2.2.2.2.2.2.2.2.2.2.2.2.2.1 z.2.2.2.2.2.2.2.2.2.2.2.2.2.2.2.2.2.2.2.2.2.2.2.2.2.2.2.1 z.2.2.2.2.2.2.2.2.2.2.2.2.2.2.2.2.2.2.2.2.2.2.2.2.2.2.2.2.1 z.2.2.2.2.2.2.2.2.2.2.2.2.2.2.2.2.2.2.2.2.2.2.2.2.2.2.2.2.2.1 z.2.2.2.2.2.2.2.2.2.2.2.2.2.2.2.2.2.2.2.2.2.2.2.2.2.2.2.2.2.2.1 z.2.2.2.2.2.2.2.2.2.2.2.2.2.2.2.2.2.2.2.2.2.2.2.2.2.2.2.2.2.2.2) (0,[],0,0,0,0,0,0,0,0,0,t14.1,t14.2.1,t14.2.2.2.2.2.2.1,t14.2.2.2.2.2.2.2.1,t14.2.2.2.2.2.2.2.2.1,t14.2.2.2.2.2.2.2.2.2.1,t14.2.2.2.2.2.2.2.2.2.2,d.1,d.2.1,d.2.2.1,d.2.2.2.1,d.2.2.2.2,[],[],[],[],[],t14.2.2.1,t14.2.2.2.1,t14.2.2.2.2.1,t14.2.2.2.2.2.1)).bind (Sum.elim (λd_1 =>
 (a8 p0).bind λt123 =>
 some (t123,(162,i1.2.1,7,0,[]),true)) (λr=>some ((r.2.1,r.2.2.1,r.2.2.2.2.2.2.2.2.2.2.2.2.2.1,r.2.2.2.2.2.2.2.2.2.2.2.2.2.2.1,r.2.2.2.2.2.2.2.2.2.2.2.2.2.2.2.1,r.2.2.2.2.2.2.2.2.2.2.2.2.2.2.2.2,r.2.2.2.1,r.2.2.2.2.1,r.2.2.2.2.2.1,r.2.2.2.2.2.2.1,r.2.2.2.2.2.2.2.1),(r.2.2.2.2.2.2.2.2.1,r.2.2.2.2.2.2.2.2.2.1,r.2.2.2.2.2.2.2.2.2.2.1,r.2.2.2.2.2.2.2.2.2.2.2.1,r.2.2.2.2.2.2.2.2.2.2.2.2.1),r.1)))))
 (cond (i1.1==161)
 ((loop (λz=>l8 p0 i1 z.1 z.2.1 z.2.2.1 z.2.2.2.1 z.2.2.2.2.1 z.2.2.2.2.2) (0,162,i1.2.1,0,0,[])).bind λd_2 =>
 (ar d_2).bind λt98_1 =>
 cond t98_1
 (some (t14,d_2,true))
 ((loop (λz=>l9 i1 z.1 z.2.1 z.2.2.1 z.2.2.2.1 z.2.2.2.2.1 z.2.2.2.2.2.1 z.2.2.2.2.2.2.1 z.2.2.2.2.2.2.2.1 z.2.2.2.2.2.2.2.2.1 z.2.2.2.2.2.2.2.2.2.1 z.2.2.2.2.2.2.2.2.2.2.1 z.2.2.2.2.2.2.2.2.2.2.2.1 z.2.2.2.2.2.2.2.2.2.2.2.2.1 z.2.2.2.2.2.2.2.2.2.2.2.2.2.1 z.2.2.2.2.2.2.2.2.2.2.2.2.2.2.1 z.2.2.2.2.2.2.2.2.2.2.2.2.2.2.2.1 z.2.2.2.2.2.2.2.2.2.2.2.2.2.2.2.2.1 z.2.2.2.2.2.2.2.2.2.2.2.2.2.2.2.2.2.1 z.2.2.2.2.2.2.2.2.2.2.2.2.2.2.2.2.2.2.1 z.2.2.2.2.2.2.2.2.2.2.2.2.2.2.2.2.2.2.2.1 z.2.2.2.2.2.2.2.2.2.2.2.2.2.2.2.2.2.2.2.2.1 z.2.2.2.2.2.2.2.2.2.2.2.2.2.2.2.2.2.2.2.2.2.1 z.2.2.2.2.2.2.2.2.2.2.2.2.2.2.2.2.2.2.2.2.2.2.1 z.2.2.2.2.2.2.2.2.2.2.2.2.2.2.2.2.2.2.2.2.2.2.2.1 z.2.2.2.2.2.2.2.2.2.2.2.2.2.2.2.2.2.2.2.2.2.2.2.2.1 z.2.2.2.2.2.2.2.2.2.2.2.2.2.2.2.2.2.2.2.2.2.2.2.2.2.1 z.2.2.2.2.2.2.2.2.2.2.2.2.2.2.2.2.2.2.2.2.2.2.2.2.2.2.1 z.2.2.2.2.2.2.2.2.2.2.2.2.2.2.2.2.2.2.2.2.2.2.2.2.2.2.2.1 z.2.2.2.2.2.2.2.2.2.2.2.2.2.2.2.2.2.2.2.2.2.2.2.2.2.2.2.2.1 z.2.2.2.2.2.2.2.2.2.2.2.2.2.2.2.2.2.2.2.2.2.2.2.2.2.2.2.2.2.1 z.2.2.2.2.2.2.2.2.2.2.2.2.2.2.2.2.2.2.2.2.2.2.2.2.2.2.2.2.2.2.1 z.2.2.2.2.2.2.2.2.2.2.2.2.2.2.2.2.2.2.2.2.2.2.2.2.2.2.2.2.2.2.2) (0,[],0,0,0,0,0,0,0,0,0,t14.1,t14.2.1,t14.2.2.2.2.2.2.1,t14.2.2.2.2.2.2.2.1,t14.2.2.2.2.2.2.2.2.1,t14.2.2.2.2.2.2.2.2.2.1,t14.2.2.2.2.2.2.2.2.2.2,d_2.1,d_2.2.1,d_2.2.2.1,d_2.2.2.2.1,d_2.2.2.2.2,[],[],[],[],[],t14.2.2.1,t14.2.2.2.1,t14.2.2.2.2.1,t14.2.2.2.2.2.1)).bind (Sum.elim (λd_3 =>
 (a8 p0).bind λt123_1 =>
 some (t123_1,(162,i1.2.1,7,0,[]),true)) (λr_1=>some ((r_1.2.1,r_1.2.2.1,r_1.2.2.2.2.2.2.2.2.2.2.2.2.2.1,r_1.2.2.2.2.2.2.2.2.2.2.2.2.2.2.1,r_1.2.2.2.2.2.2.2.2.2.2.2.2.2.2.2.1,r_1.2.2.2.2.2.2.2.2.2.2.2.2.2.2.2.2,r_1.2.2.2.1,r_1.2.2.2.2.1,r_1.2.2.2.2.2.1,r_1.2.2.2.2.2.2.1,r_1.2.2.2.2.2.2.2.1),(r_1.2.2.2.2.2.2.2.2.1,r_1.2.2.2.2.2.2.2.2.2.1,r_1.2.2.2.2.2.2.2.2.2.2.1,r_1.2.2.2.2.2.2.2.2.2.2.2.1,r_1.2.2.2.2.2.2.2.2.2.2.2.2.1),r_1.1)))))
 (cond (i1.1==165)
 ((fa p0 i1).bind λt95 =>
 (ar (162,i1.2.1,0,0,t95)).bind λt98_2 =>
 cond t98_2
 (some (t14,(162,i1.2.1,0,0,t95),true))
 ((loop (λz=>lb i1 z.1 z.2.1 z.2.2.1 z.2.2.2.1 z.2.2.2.2.1 z.2.2.2.2.2.1 z.2.2.2.2.2.2.1 z.2.2.2.2.2.2.2.1 z.2.2.2.2.2.2.2.2.1 z.2.2.2.2.2.2.2.2.2.1 z.2.2.2.2.2.2.2.2.2.2.1 z.2.2.2.2.2.2.2.2.2.2.2.1 z.2.2.2.2.2.2.2.2.2.2.2.2.1 z.2.2.2.2.2.2.2.2.2.2.2.2.2.1 z.2.2.2.2.2.2.2.2.2.2.2.2.2.2.1 z.2.2.2.2.2.2.2.2.2.2.2.2.2.2.2.1 z.2.2.2.2.2.2.2.2.2.2.2.2.2.2.2.2.1 z.2.2.2.2.2.2.2.2.2.2.2.2.2.2.2.2.2.1 z.2.2.2.2.2.2.2.2.2.2.2.2.2.2.2.2.2.2.1 z.2.2.2.2.2.2.2.2.2.2.2.2.2.2.2.2.2.2.2.1 z.2.2.2.2.2.2.2.2.2.2.2.2.2.2.2.2.2.2.2.2.1 z.2.2.2.2.2.2.2.2.2.2.2.2.2.2.2.2.2.2.2.2.2.1 z.2.2.2.2.2.2.2.2.2.2.2.2.2.2.2.2.2.2.2.2.2.2.1 z.2.2.2.2.2.2.2.2.2.2.2.2.2.2.2.2.2.2.2.2.2.2.2.1 z.2.2.2.2.2.2.2.2.2.2.2.2.2.2.2.2.2.2.2.2.2.2.2.2.1 z.2.2.2.2.2.2.2.2.2.2.2.2.2.2.2.2.2.2.2.2.2.2.2.2.2.1 z.2.2.2.2.2.2.2.2.2.2.2.2.2.2.2.2.2.2.2.2.2.2.2.2.2.2.1 z.2.2.2.2.2.2.2.2.2.2.2.2.2.2.2.2.2.2.2.2.2.2.2.2.2.2.2.1 z.2.2.2.2.2.2.2.2.2.2.2.2.2.2.2.2.2.2.2.2.2.2.2.2.2.2.2.2.1 z.2.2.2.2.2.2.2.2.2.2.2.2.2.2.2.2.2.2.2.2.2.2.2.2.2.2.2.2.2.1 z.2.2.2.2.2.2.2.2.2.2.2.2.2.2.2.2.2.2.2.2.2.2.2.2.2.2.2.2.2.2.1 z.2.2.2.2.2.2.2.2.2.2.2.2.2.2.2.2.2.2.2.2.2.2.2.2.2.2.2.2.2.2.2) (0,[],0,0,0,0,0,0,0,0,0,t14.1,t14.2.1,t14.2.2.2.2.2.2.1,t14.2.2.2.2.2.2.2.1,t14.2.2.2.2.2.2.2.2.1,t14.2.2.2.2.2.2.2.2.2.1,t14.2.2.2.2.2.2.2.2.2.2,162,i1.2.1,0,0,t95,[],[],[],[],[],t14.2.2.1,t14.2.2.2.1,t14.2.2.2.2.1,t14.2.2.2.2.2.1)).bind (Sum.elim (λd_4 =>
 (a8 p0).bind λt123_2 =>
 some (t123_2,(162,i1.2.1,7,0,[]),true)) (λr_2=>some ((r_2.2.1,r_2.2.2.1,r_2.2.2.2.2.2.2.2.2.2.2.2.2.2.1,r_2.2.2.2.2.2.2.2.2.2.2.2.2.2.2.1,r_2.2.2.2.2.2.2.2.2.2.2.2.2.2.2.2.1,r_2.2.2.2.2.2.2.2.2.2.2.2.2.2.2.2.2,r_2.2.2.2.1,r_2.2.2.2.2.1,r_2.2.2.2.2.2.1,r_2.2.2.2.2.2.2.1,r_2.2.2.2.2.2.2.2.1),(r_2.2.2.2.2.2.2.2.2.1,r_2.2.2.2.2.2.2.2.2.2.1,r_2.2.2.2.2.2.2.2.2.2.2.1,r_2.2.2.2.2.2.2.2.2.2.2.2.1,r_2.2.2.2.2.2.2.2.2.2.2.2.2.1),r_2.1)))))
 ((fB p0 i1.2.2.2.2).bind λt39 =>
 (cG i1.2.2.2.2).bind λt47 =>
 (ar (162,i1.2.1,t39.2.1,t39.2.2,t47)).bind λt98_3 =>
 cond t98_3
 (some (t39.1,(162,i1.2.1,t39.2.1,t39.2.2,t47),true))
 ((loop (λz=>lc i1 z.1 z.2.1 z.2.2.1 z.2.2.2.1 z.2.2.2.2.1 z.2.2.2.2.2.1 z.2.2.2.2.2.2.1 z.2.2.2.2.2.2.2.1 z.2.2.2.2.2.2.2.2.1 z.2.2.2.2.2.2.2.2.2.1 z.2.2.2.2.2.2.2.2.2.2.1 z.2.2.2.2.2.2.2.2.2.2.2.1 z.2.2.2.2.2.2.2.2.2.2.2.2.1 z.2.2.2.2.2.2.2.2.2.2.2.2.2.1 z.2.2.2.2.2.2.2.2.2.2.2.2.2.2.1 z.2.2.2.2.2.2.2.2.2.2.2.2.2.2.2.1 z.2.2.2.2.2.2.2.2.2.2.2.2.2.2.2.2.1 z.2.2.2.2.2.2.2.2.2.2.2.2.2.2.2.2.2.1 z.2.2.2.2.2.2.2.2.2.2.2.2.2.2.2.2.2.2.1 z.2.2.2.2.2.2.2.2.2.2.2.2.2.2.2.2.2.2.2.1 z.2.2.2.2.2.2.2.2.2.2.2.2.2.2.2.2.2.2.2.2.1 z.2.2.2.2.2.2.2.2.2.2.2.2.2.2.2.2.2.2.2.2.2.1 z.2.2.2.2.2.2.2.2.2.2.2.2.2.2.2.2.2.2.2.2.2.2.1 z.2.2.2.2.2.2.2.2.2.2.2.2.2.2.2.2.2.2.2.2.2.2.2.1 z.2.2.2.2.2.2.2.2.2.2.2.2.2.2.2.2.2.2.2.2.2.2.2.2.1 z.2.2.2.2.2.2.2.2.2.2.2.2.2.2.2.2.2.2.2.2.2.2.2.2.2.1 z.2.2.2.2.2.2.2.2.2.2.2.2.2.2.2.2.2.2.2.2.2.2.2.2.2.2.1 z.2.2.2.2.2.2.2.2.2.2.2.2.2.2.2.2.2.2.2.2.2.2.2.2.2.2.2.1 z.2.2.2.2.2.2.2.2.2.2.2.2.2.2.2.2.2.2.2.2.2.2.2.2.2.2.2.2.1 z.2.2.2.2.2.2.2.2.2.2.2.2.2.2.2.2.2.2.2.2.2.2.2.2.2.2.2.2.2.1 z.2.2.2.2.2.2.2.2.2.2.2.2.2.2.2.2.2.2.2.2.2.2.2.2.2.2.2.2.2.2.1 z.2.2.2.2.2.2.2.2.2.2.2.2.2.2.2.2.2.2.2.2.2.2.2.2.2.2.2.2.2.2.2) (0,[],0,0,0,0,0,0,0,0,0,t39.1.1,t39.1.2.1,t39.1.2.2.2.2.2.2.1,t39.1.2.2.2.2.2.2.2.1,t39.1.2.2.2.2.2.2.2.2.1,t39.1.2.2.2.2.2.2.2.2.2.1,t39.1.2.2.2.2.2.2.2.2.2.2,162,i1.2.1,t39.2.1,t39.2.2,t47,[],[],[],[],[],t39.1.2.2.1,t39.1.2.2.2.1,t39.1.2.2.2.2.1,t39.1.2.2.2.2.2.1)).bind (Sum.elim (λd_5 =>
 (a8 p0).bind λt123_3 =>
 some (t123_3,(162,i1.2.1,7,0,[]),true)) (λr_3=>some ((r_3.2.1,r_3.2.2.1,r_3.2.2.2.2.2.2.2.2.2.2.2.2.2.1,r_3.2.2.2.2.2.2.2.2.2.2.2.2.2.2.1,r_3.2.2.2.2.2.2.2.2.2.2.2.2.2.2.2.1,r_3.2.2.2.2.2.2.2.2.2.2.2.2.2.2.2.2,r_3.2.2.2.1,r_3.2.2.2.2.1,r_3.2.2.2.2.2.1,r_3.2.2.2.2.2.2.1,r_3.2.2.2.2.2.2.2.1),(r_3.2.2.2.2.2.2.2.2.1,r_3.2.2.2.2.2.2.2.2.2.1,r_3.2.2.2.2.2.2.2.2.2.2.1,r_3.2.2.2.2.2.2.2.2.2.2.2.1,r_3.2.2.2.2.2.2.2.2.2.2.2.2.1),r_3.1))))))))
def fD:FL:=(13,⟨[.val true p9 false,.val true u5 false],[.val true p9 (some true),.val true u5 none,.val false pN (some true)],λa=>dP a.1 a.2⟩)::fC
theorem ld:Gd fD:=p7 kZ 13 Tryz.f13 [(1,⟨⟨[(54,false,[dI])],[(1052672,.box [dI,dI,dI,dI,.own 1000001000]),(1000001000,.root pE false)]⟩,
 ⟨[],[(1052672,.box [dI,dI,dI,dI,.own 1000001300]),(1000001300,.root pE false)]⟩,none⟩),
 (3,⟨⟨[(77,false,[dI])],[(1052672,.box [dI,dI,dI,dI,.own 1000003000]),(1000003000,.root pE false)]⟩,
 ⟨[],[(1052672,.box [dI,dI,dI,dI,.own 1000003300]),(1000003300,.root pE false)]⟩,none⟩),
 (5,⟨⟨us 105 4 [],[(3072,.box [dI,dS,.own 1000005000,.own 1000005001,.own 1000005002,.own 1000005003,dI,dI,dI,dI,dI]),(4096,.box [dI,dI,dI,dI,.own 1000005004]),(265216,.box [dI,dS,.own 1000005005,.own 1000005006,.own 1000005007,.own 1000005008,dI,dI,dI,dI,dI]),(1052672,.box [dI,dI,dI,dI,.dat (.sl pE)]),(1000005000,.root qy true),(1000005001,.root pd true),(1000005002,.root pV true),(1000005003,.root p4 true),(1000005004,.root pE true),(1000005005,.root qy true),(1000005006,.root pd true),(1000005007,.root pV true),(1000005008,.root p4 true)]⟩,
 ⟨[],[(3072,.box [dI,dS,.own 1000005300,.own 1000005301,.own 1000005302,.own 1000005303,dI,dI,dI,dI,dI]),(4096,.box [dI,dI,dI,dI,.own 1000005304]),(265216,.box [dI,dS,.own 1000005305,.own 1000005306,.own 1000005307,.own 1000005308,dI,dI,dI,dI,dI]),(1052672,.box [dI,dI,dI,dI,.dat (.sl pE)]),(1000005300,.root qy true),(1000005301,.root pd true),(1000005302,.root pV true),(1000005303,.root p4 true),(1000005304,.root pE true),(1000005305,.root qy true),(1000005306,.root pd true),(1000005307,.root pV true),(1000005308,.root p4 true)]⟩,some ⟨[(6,false,[dB])],[(3072,.box [dI,dS,.own 1000005600,.own 1000005601,.own 1000005602,.own 1000005603,dI,dI,dI,dI,dI]),(4096,.box [dI,dI,dI,dI,.dat (.sl pE)]),(1000005600,.root qy true),(1000005601,.root pd true),(1000005602,.root pV true),(1000005603,.root p4 true)]⟩⟩)] Tryz.func13
def fE (p0:ra):Option ra :=
 (cG p0.2.2.2.2).bind λt8 =>
 (ar (162,p0.2.1,6,1,t8)).bind λt11 =>
 cond (!t11) (some (162,p0.2.1,7,0,[])) (some (162,p0.2.1,6,1,t8))
def fF:FL:=(315,⟨[.val true u5 false],[.val true u5 (some true)],λa=>fE a⟩)::fD
theorem lf:Gd fF:=p7 ld 315 Tryz.f315 [] Tryz.func315
def fG (p0:qe) (i1:Int):Option (qe×List GH) :=
 (ix p0.2.2.2.2.2.2.2.2.2.2.2.2.1.length i1).bind λj12 =>
 (p0.2.2.2.2.2.2.2.2.2.2.2.2.1[j12]?).bind λx13 =>
 cond (x13.2.2.2.1 != 163)
 ((dP (x13.2.2.2.2.2.2.2.2.1,x13.2.2.2.2.2.2.2.2.2.1,x13.2.2.2.2.2.2.2.2.2.2.1,x13.2.2.2.2.2.2.2.2.2.2.2.1,x13.2.2.2.2.2.2.2.2.2.2.2.2.1,x13.2.2.2.2.2.2.2.2.2.2.2.2.2.1,x13.2.2.2.2.2.2.2.2.2.2.2.2.2.2.1,x13.2.2.2.2.2.2.2.2.2.2.2.2.2.2.2.1,x13.2.2.2.2.2.2.2.2.2.2.2.2.2.2.2.2.1,x13.2.2.2.2.2.2.2.2.2.2.2.2.2.2.2.2.2.1,x13.2.2.2.2.2.2.2.2.2.2.2.2.2.2.2.2.2.2.1) (x13.2.2.2.1,x13.2.2.2.2.1,x13.2.2.2.2.2.1,x13.2.2.2.2.2.2.1,x13.2.2.2.2.2.2.2.1)).bind λt41 =>
 (bm p0 i1).bind λt81 =>
 some (t81,[(x13.1,t41.2.1.1,t41.2.1.2.1,t41.2.1.2.2.1,t41.2.1.2.2.2.1,t41.2.1.2.2.2.2)]))
 (let t46:=p0.2.2.2.2.2.2.2.2.2.2.1==x13.2.2.2.2.2.2.2.2.2.2.2.2.2.2.2.2.2.2.1
 cond t46
 ((dP (p0.1,p0.2.1,p0.2.2.1,p0.2.2.2.1,p0.2.2.2.2.1,p0.2.2.2.2.2.1,p0.2.2.2.2.2.2.1,p0.2.2.2.2.2.2.2.1,p0.2.2.2.2.2.2.2.2.1,p0.2.2.2.2.2.2.2.2.2.1,p0.2.2.2.2.2.2.2.2.2.2.1) (x13.2.2.2.1,x13.2.2.2.2.1,x13.2.2.2.2.2.1,x13.2.2.2.2.2.2.1,x13.2.2.2.2.2.2.2.1)).bind λt64 =>
 (bm (t64.1.1,t64.1.2.1,t64.1.2.2.1,t64.1.2.2.2.1,t64.1.2.2.2.2.1,t64.1.2.2.2.2.2.1,t64.1.2.2.2.2.2.2.1,t64.1.2.2.2.2.2.2.2.1,t64.1.2.2.2.2.2.2.2.2.1,t64.1.2.2.2.2.2.2.2.2.2.1,t64.1.2.2.2.2.2.2.2.2.2.2,p0.2.2.2.2.2.2.2.2.2.2.2.1,p0.2.2.2.2.2.2.2.2.2.2.2.2.1,p0.2.2.2.2.2.2.2.2.2.2.2.2.2.1,p0.2.2.2.2.2.2.2.2.2.2.2.2.2.2) i1).bind λt81_1 =>
 some (t81_1,[(x13.1,t64.2.1.1,t64.2.1.2.1,t64.2.1.2.2.1,t64.2.1.2.2.2.1,t64.2.1.2.2.2.2)]))
 (let t71:=decide (x13.2.2.2.2.2.2.2.2.2.2.2.2.2.2.2.2.2.2.2.2>=3)
 cond t71
 ((fE (x13.2.2.2.1,x13.2.2.2.2.1,x13.2.2.2.2.2.1,x13.2.2.2.2.2.2.1,x13.2.2.2.2.2.2.2.1)).bind λt77 =>
 (bm p0 i1).bind λt81_2 =>
 some (t81_2,[(x13.1,t77.1,t77.2.1,t77.2.2.1,t77.2.2.2.1,t77.2.2.2.2)]))
 ((ix p0.2.2.2.2.2.2.2.2.2.2.2.2.1.length i1).bind λj22 =>
 (p0.2.2.2.2.2.2.2.2.2.2.2.2.1[j22]?).bind λx24 =>
 (ix p0.2.2.2.2.2.2.2.2.2.2.2.2.1.length i1).bind λj26 =>
 (p0.2.2.2.2.2.2.2.2.2.2.2.2.1[j26]?).bind λx =>
 (dM (p0.1,p0.2.1,p0.2.2.1,p0.2.2.2.1,p0.2.2.2.2.1,p0.2.2.2.2.2.1,p0.2.2.2.2.2.2.1,p0.2.2.2.2.2.2.2.1,p0.2.2.2.2.2.2.2.2.1,p0.2.2.2.2.2.2.2.2.2.1,p0.2.2.2.2.2.2.2.2.2.2.1,p0.2.2.2.2.2.2.2.2.2.2.2.1,p0.2.2.2.2.2.2.2.2.2.2.2.2.1.set j26 (x.1,x.2.1,x.2.2.1,x.2.2.2.1,x.2.2.2.2.1,x.2.2.2.2.2.1,x.2.2.2.2.2.2.1,x.2.2.2.2.2.2.2.1,x.2.2.2.2.2.2.2.2.1,x.2.2.2.2.2.2.2.2.2.1,x.2.2.2.2.2.2.2.2.2.2.1,x.2.2.2.2.2.2.2.2.2.2.2.1,x.2.2.2.2.2.2.2.2.2.2.2.2.1,x.2.2.2.2.2.2.2.2.2.2.2.2.2.1,x.2.2.2.2.2.2.2.2.2.2.2.2.2.2.1,x.2.2.2.2.2.2.2.2.2.2.2.2.2.2.2.1,x.2.2.2.2.2.2.2.2.2.2.2.2.2.2.2.2.1,x.2.2.2.2.2.2.2.2.2.2.2.2.2.2.2.2.2.1,x.2.2.2.2.2.2.2.2.2.2.2.2.2.2.2.2.2.2.1,x.2.2.2.2.2.2.2.2.2.2.2.2.2.2.2.2.2.2.2.1,oT (x24.2.2.2.2.2.2.2.2.2.2.2.2.2.2.2.2.2.2.2.2+1)),p0.2.2.2.2.2.2.2.2.2.2.2.2.2.1,p0.2.2.2.2.2.2.2.2.2.2.2.2.2.2) i1).bind λt30 =>
 some (t30,[]))))
def fH:FL:=(235,⟨[.ptr sO (some true),.val false p4 false],[.val false (.one (.sl zi)) none],λa=>fG a.1 a.2⟩)::fF
theorem lg:Gd fH:=p7 lf 235 Tryz.f235 [] Tryz.func235
def fJ (a0:qe) (k1:Int):Option (qe×List GH) :=
 (ix a0.2.2.2.2.2.2.2.2.2.2.2.2.1.length k1).bind λj11 =>
 (a0.2.2.2.2.2.2.2.2.2.2.2.2.1[j11]?).bind λx19 =>
 cond (x19.2.2.1==0)
 ((eJ a0 k1).bind λt23 =>
 some (t23,[]))
 ((a0.2.2.2.2.2.2.2.2.2.2.2.2.1[j11]?).bind λx28 =>
 cond (x28.2.2.1==2)
 ((fG a0 k1).bind λt32 =>
 some t32)
 ((a0.2.2.2.2.2.2.2.2.2.2.2.2.1[j11]?).bind λx37 =>
 (a0.2.2.2.2.2.2.2.2.2.2.2.2.1[j11]?).bind λx42 =>
 let t33:=decide (x37.2.2.2.2.2.2.2.2.2.2.2.2.2.2.2.2.2.2.2.1<(x42.2.2.2.2.2.2.2.1.length:Int))
 cond t33
 ((a0.2.2.2.2.2.2.2.2.2.2.2.2.1[j11]?).bind λx48 =>
 (a0.2.2.2.2.2.2.2.2.2.2.2.2.1[j11]?).bind λx =>
 some ((a0.1,a0.2.1,a0.2.2.1,a0.2.2.2.1,a0.2.2.2.2.1,a0.2.2.2.2.2.1,a0.2.2.2.2.2.2.1,a0.2.2.2.2.2.2.2.1,a0.2.2.2.2.2.2.2.2.1,a0.2.2.2.2.2.2.2.2.2.1,a0.2.2.2.2.2.2.2.2.2.2.1,a0.2.2.2.2.2.2.2.2.2.2.2.1,a0.2.2.2.2.2.2.2.2.2.2.2.2.1.set j11 (x.1,x.2.1,x.2.2.1,x.2.2.2.1,x.2.2.2.2.1,x.2.2.2.2.2.1,x.2.2.2.2.2.2.1,x.2.2.2.2.2.2.2.1,x.2.2.2.2.2.2.2.2.1,x.2.2.2.2.2.2.2.2.2.1,x.2.2.2.2.2.2.2.2.2.2.1,x.2.2.2.2.2.2.2.2.2.2.2.1,x.2.2.2.2.2.2.2.2.2.2.2.2.1,x.2.2.2.2.2.2.2.2.2.2.2.2.2.1,x.2.2.2.2.2.2.2.2.2.2.2.2.2.2.1,x.2.2.2.2.2.2.2.2.2.2.2.2.2.2.2.1,x.2.2.2.2.2.2.2.2.2.2.2.2.2.2.2.2.1,x.2.2.2.2.2.2.2.2.2.2.2.2.2.2.2.2.2.1,x.2.2.2.2.2.2.2.2.2.2.2.2.2.2.2.2.2.2.1,oT (x48.2.2.2.2.2.2.2.2.2.2.2.2.2.2.2.2.2.2.2.1+1),x.2.2.2.2.2.2.2.2.2.2.2.2.2.2.2.2.2.2.2.2),a0.2.2.2.2.2.2.2.2.2.2.2.2.2.1,a0.2.2.2.2.2.2.2.2.2.2.2.2.2.2),[]))
 ((a0.2.2.2.2.2.2.2.2.2.2.2.2.1[j11]?).bind λx_1 =>
 some ((a0.1,a0.2.1,a0.2.2.1,a0.2.2.2.1,a0.2.2.2.2.1,a0.2.2.2.2.2.1,a0.2.2.2.2.2.2.1,a0.2.2.2.2.2.2.2.1,a0.2.2.2.2.2.2.2.2.1,a0.2.2.2.2.2.2.2.2.2.1,a0.2.2.2.2.2.2.2.2.2.2.1,a0.2.2.2.2.2.2.2.2.2.2.2.1,a0.2.2.2.2.2.2.2.2.2.2.2.2.1.set j11 (x_1.1,x_1.2.1,2,x_1.2.2.2.1,x_1.2.2.2.2.1,x_1.2.2.2.2.2.1,x_1.2.2.2.2.2.2.1,x_1.2.2.2.2.2.2.2.1,x_1.2.2.2.2.2.2.2.2.1,x_1.2.2.2.2.2.2.2.2.2.1,x_1.2.2.2.2.2.2.2.2.2.2.1,x_1.2.2.2.2.2.2.2.2.2.2.2.1,x_1.2.2.2.2.2.2.2.2.2.2.2.2.1,x_1.2.2.2.2.2.2.2.2.2.2.2.2.2.1,x_1.2.2.2.2.2.2.2.2.2.2.2.2.2.2.1,x_1.2.2.2.2.2.2.2.2.2.2.2.2.2.2.2.1,x_1.2.2.2.2.2.2.2.2.2.2.2.2.2.2.2.2.1,x_1.2.2.2.2.2.2.2.2.2.2.2.2.2.2.2.2.2.1,x_1.2.2.2.2.2.2.2.2.2.2.2.2.2.2.2.2.2.2.1,x_1.2.2.2.2.2.2.2.2.2.2.2.2.2.2.2.2.2.2.2.1,x_1.2.2.2.2.2.2.2.2.2.2.2.2.2.2.2.2.2.2.2.2),a0.2.2.2.2.2.2.2.2.2.2.2.2.2.1,a0.2.2.2.2.2.2.2.2.2.2.2.2.2.2),[]))))
def fK:FL:=(132,⟨[.ptr sO (some true),.val false p4 false],[.val false (.one (.sl zi)) none],λa=>fJ a.1 a.2⟩)::fH
theorem lh:Gd fK:=p7 lg 132 Tryz.f132 [] Tryz.func132
def ax (b0:oU) (port1:Int):Option Bool :=
 (av b0).bind λt6 =>
 (cond t6
 ((a6 port1 0 (oT ((b0.2.2.1.length:Int)-1))).bind λt13 =>
 some t13)
 (some false)).bind λt14 =>
 some t14
def fL:FL:=(303,⟨[.val true p9 false,.val false p4 false],[.val false pN (some true)],λa=>ax a.1 a.2⟩)::fK
theorem li:Gd fL:=p7 lh 303 Tryz.f303 [] Tryz.func303
def bS (f0:qq):Option Bool :=
 (a6 f0.1 0 9999).bind λt5 =>
 (cond t5
 ((a6 f0.2.1 1 9999).bind λt9 =>
 some t9)
 (some false)).bind λt10 =>
 (cond t10
 ((a6 f0.2.2.1 0 99).bind λt14 =>
 some t14)
 (some false)).bind λt15 =>
 (cond t15 (some (decide ((f0.2.2.2.length:Int)<=20))) (some false)).bind λt21 =>
 some t21
def fM:FL:=(304,⟨[.val true ri false],[.val false pN (some true)],λa=>bS a⟩)::fL
theorem lj:Gd fM:=p7 li 304 Tryz.f304 [] Tryz.func304
def bt (v0:pO) (port1:Int) (tag2:Int):Option (Int×Bool) :=
 (a6 port1 0 (oT ((v0.2.length:Int)-1))).bind λt15 =>
 cond (!t15)
 (some (0,false))
 (cond (tag2==0)
 ((at? v0.2 port1).bind λx23 =>
 (aa v0 x23).bind λt27 =>
 (cond (decide (t27<0))
 (some true)
 ((at? v0.1 t27).bind λx34 =>
 (ae x34.2.1 port1).bind λt38 =>
 some (!t38))).bind λt40 =>
 cond t40 (some (0,false)) (some (x23,true)))
 ((aa v0 tag2).bind λt27_1 =>
 (cond (decide (t27_1<0))
 (some true)
 ((at? v0.1 t27_1).bind λx34_1 =>
 (ae x34_1.2.1 port1).bind λt38_1 =>
 some (!t38_1))).bind λt40_1 =>
 cond t40_1 (some (0,false)) (some (tag2,true))))
def fN:FL:=(305,⟨[.val true qv false,.val false p4 false,.val false p4 false],[.val false p4 (some true),.val false pN (some true)],λa=>bt a.1 a.2.1 a.2.2⟩)::fM
theorem lk:Gd fN:=p7 lj 305 Tryz.f305 [] Tryz.func305
def ao (l0:List oV) (e1:oV) (k8:Int):Option (Int⊕Int) :=
 (cond (decide (k8<(l0.length:Int)))
 ((at? l0 k8).bind λx35 =>
 (bu x35 e1.1 e1.2.1).bind λt41 =>
 some (!t41))
 (some false)).bind λt43 =>
 cond t43 (some (.inl (oT (k8+1)))) (some (.inr k8))
def aV (l0:List oV) (e1:oV):Option ((List oV)×Bool) :=
 (aM l0).bind λt10 =>
 (aU l0 e1.1 e1.2.1).bind λt16 =>
 cond (decide (t16>=0))
 ((ix t10.length t16).bind λj22 =>
 (t10[j22]?).bind λx =>
 some (t10.set j22 e1,true))
 (cond (decide ((l0.length:Int)>=12))
 (some (t10,false))
 ((loop (λz=>ao l0 e1 z) 0).bind λd =>
 (cut l0 0 d).bind λt48 =>
 (aM t48).bind λt49 =>
 (pL t49 [e1]).bind λzs52 =>
 (cut l0 d (l0.length:Int)).bind λt55 =>
 (pL zs52 t55).bind λzs56 =>
 some (zs56,true)))
def fO:FL:=(349,⟨[.val false (.one (.sl pd)) false,.val true pd false],[.val false (.one (.sl pd)) (some true),.val false pN (some true)],λa=>aV a.1 a.2⟩)::fN
theorem ll:Gd fO:=p7 lk 349 Tryz.f349 [(0,⟨⟨(8,false,[dI])::us 33 10 [],[]⟩,
 ⟨[(8,false,[dI])],[]⟩,none⟩)] Tryz.func349
def bv (l0:List oV) (tag1:Int) (mac2:Int) (port3:Int):Option (List oV) :=
 (aU l0 tag1 mac2).bind λt20 =>
 (bT l0).bind λt22 =>
 (cond (!t22)
 (some true)
 ((aX (tag1,mac2,port3,0,false)).bind λt26 =>
 some (!t26))).bind λt28 =>
 (cond t28
 (some true)
 ((cond (decide (t20>=0))
 ((at? l0 t20).bind λx35 =>
 some x35.2.2.2.2)
 (some false)).bind λt38 =>
 some t38)).bind λt39 =>
 cond t39
 ((aM l0).bind λt41 =>
 some t41)
 ((aV l0 (tag1,mac2,port3,0,false)).bind λt45 =>
 some t45.1)
def fP:FL:=(306,⟨[.val false (.one (.sl pd)) false,.val false p4 false,.val false p4 false,.val false p4 false],[.val false (.one (.sl pd)) (some true)],λa=>bv a.1 a.2.1 a.2.2.1 a.2.2.2⟩)::fO
theorem lm:Gd fP:=p7 ll 306 Tryz.f306 [] Tryz.func306
def bx (l0:List oV) (tag1:Int) (mac2:Int):Option Int :=
 (aU l0 tag1 mac2).bind λt11 =>
 cond (decide (t11<0))
 (some (-1))
 ((at? l0 t11).bind λx16 =>
 some x16.2.2.1)
def fQ:FL:=(307,⟨[.val false (.one (.sl pd)) false,.val false p4 false,.val false p4 false],[.val false p4 (some true)],λa=>bx a.1 a.2.1 a.2.2⟩)::fP
theorem ln:Gd fQ:=p7 lm 307 Tryz.f307 [] Tryz.func307
def aA (v0:pO) (id1:Int):Option Int :=
 (aa v0 id1).bind λt8 =>
 cond (decide (t8<0))
 (some 0)
 ((at? v0.1 t8).bind λx14 =>
 some x14.2.1)
def fR:FL:=(308,⟨[.val true qv false,.val false p4 false],[.val false p4 (some true)],λa=>aA a.1 a.2⟩)::fQ
theorem lp:Gd fR:=p7 ln 308 Tryz.f308 [] Tryz.func308
def aY (f0:qq) (tag1:Int):Option qq :=
 (ay f0.2.2.2).bind λt7 =>
 some (f0.1,f0.2.1,tag1,t7)
def fS:FL:=(309,⟨[.val true ri false,.val false p4 false],[.val true ri (some true)],λa=>aY a.1 a.2⟩)::fR
theorem lq:Gd fS:=p7 lp 309 Tryz.f309 [] Tryz.func309
def aC (v0:pO) (id1:Int) (port2:Int):Option Int :=
 (aa v0 id1).bind λt10 =>
 (cond (decide (t10<0))
 (some true)
 ((at? v0.1 t10).bind λx17 =>
 (ae x17.2.2 port2).bind λt21 =>
 some t21)).bind λt22 =>
 cond t22 (some 0) (some id1)
def fT:FL:=(310,⟨[.val true qv false,.val false p4 false,.val false p4 false],[.val false p4 (some true)],λa=>aC a.1 a.2.1 a.2.2⟩)::fS
theorem lr:Gd fT:=p7 lq 310 Tryz.f310 [] Tryz.func310
def ap (p0:oU) (i1:Int) (a2:qq) (t31:Int) (t38:Int×Bool) (t74:Int) (t78:Int) (t13:List qp):Option ((Int×List qp)⊕(List qp)) :=
 cond (decide (t78<(p0.2.2.1.length:Int)))
 ((cond (t78 != i1)
 ((aA (p0.2.2.2.2.1,p0.2.2.2.2.2.1) t38.1).bind λt89 =>
 (ae (rb .i64 t31 t89) t78).bind λt92 =>
 some t92)
 (some false)).bind λt93 =>
 (cond t93
 ((cond (decide (t74<0)) (some true) (some (t74==t78))).bind λt101 =>
 some t101)
 (some false)).bind λt102 =>
 cond t102
 ((aC (p0.2.2.2.2.1,p0.2.2.2.2.2.1) t38.1 t78).bind λt110 =>
 (aY a2 t110).bind λt111 =>
 (pL t13 [(t78,t111.1,t111.2.1,t111.2.2.1,t111.2.2.2)]).bind λzs114 =>
 some (.inl (oT (t78+1),zs114)))
 (some (.inl (oT (t78+1),t13))))
 (some (.inr t13))
def aq (p0:oU) (i1:Int) (a2:qq) (t31:Int) (t38:Int×Bool) (t78_1:Int) (t13_2:List qp):Option ((Int×List qp)⊕(List qp)) :=
 cond (decide (t78_1<(p0.2.2.1.length:Int)))
 ((cond (t78_1 != i1)
 ((aA (p0.2.2.2.2.1,p0.2.2.2.2.2.1) t38.1).bind λt89_1 =>
 (ae (rb .i64 t31 t89_1) t78_1).bind λt92_1 =>
 some t92_1)
 (some false)).bind λt93_1 =>
 (cond t93_1
 ((cond (decide ((-1)<0)) (some true) (some ((-1)==t78_1))).bind λt101_1 =>
 some t101_1)
 (some false)).bind λt102_1 =>
 cond t102_1
 ((aC (p0.2.2.2.2.1,p0.2.2.2.2.2.1) t38.1 t78_1).bind λt110_1 =>
 (aY a2 t110_1).bind λt111_1 =>
 (pL t13_2 [(t78_1,t111_1.1,t111_1.2.1,t111_1.2.2.1,t111_1.2.2.2)]).bind λzs114_1 =>
 some (.inl (oT (t78_1+1),zs114_1)))
 (some (.inl (oT (t78_1+1),t13_2))))
 (some (.inr t13_2))
def aD (p0:oU) (i1:Int) (a2:qq):Option (oU×List qp) :=
 (a8 p0).bind λt16 =>
 (ax p0 i1).bind λt19 =>
 (cond (!t19)
 (some true)
 ((bS a2).bind λt23 =>
 some (!t23))).bind λt25 =>
 cond t25
 (some (t16,[]))
 ((bQ p0.1 p0.2.2.1).bind λt31 =>
 (bt (p0.2.2.2.2.1,p0.2.2.2.2.2.1) i1 a2.2.2.1).bind λt38 =>
 (ae t31 i1).bind λt43 =>
 (cond (!t43) (some true) (some (!t38.2))).bind λt48 =>
 cond t48
 ((af p0.2.2.2.2.2.2.2.2.2.1).bind λt51 =>
 some ((t16.1,t16.2.1,t16.2.2.1,t16.2.2.2.1,t16.2.2.2.2.1,t16.2.2.2.2.2.1,t16.2.2.2.2.2.2.1,t16.2.2.2.2.2.2.2.1,t16.2.2.2.2.2.2.2.2.1,t51,t16.2.2.2.2.2.2.2.2.2.2),[]))
 ((bv p0.2.2.2.1 t38.1 a2.2.1 i1).bind λt60 =>
 (af p0.2.2.2.2.2.2.2.2.2.2).bind λt64 =>
 cond (a2.1 != 0)
 ((bx t60 t38.1 a2.1).bind λt74 =>
 (loop (λz=>ap p0 i1 a2 t31 t38 t74 z.1 z.2) (0,[])).bind λd =>
 some ((t16.1,t16.2.1,t16.2.2.1,t60,t16.2.2.2.2.1,t16.2.2.2.2.2.1,t16.2.2.2.2.2.2.1,t16.2.2.2.2.2.2.2.1,t16.2.2.2.2.2.2.2.2.1,t16.2.2.2.2.2.2.2.2.2.1,t64),d))
 ((loop (λz=>aq p0 i1 a2 t31 t38 z.1 z.2) (0,[])).bind λd_1 =>
 some ((t16.1,t16.2.1,t16.2.2.1,t60,t16.2.2.2.2.1,t16.2.2.2.2.2.1,t16.2.2.2.2.2.2.1,t16.2.2.2.2.2.2.2.1,t16.2.2.2.2.2.2.2.2.1,t16.2.2.2.2.2.2.2.2.2.1,t64),d_1))))
def fU:FL:=(216,⟨[.val true p9 false,.val false p4 false,.val true ri false],[.val true p9 (some true),.val false (.one (.sl wk)) (some true)],λa=>aD a.1 a.2.1 a.2.2⟩)::fT
theorem lu:Gd fU:=p7 lr 216 Tryz.f216 [(0,⟨⟨(13,false,[.own 1000000000])::(78,false,[dI])::us 85 8 (us 95 7 []),[(1000000000,.root wk true)]⟩,
 ⟨[(13,false,[.own 1000000300])],[(1000000300,.root wk true)]⟩,none⟩)] Tryz.func216
def aN (b0:oU) (port1:Int) (v2:sw):Option oU :=
 (a8 b0).bind λt9 =>
 (ax b0 port1).bind λt12 =>
 (cond t12
 ((at? b0.2.2.1 port1).bind λx17 =>
 some x17.1)
 (some false)).bind λt20 =>
 (cond t20
 ((aI v2).bind λt23 =>
 some t23)
 (some false)).bind λt24 =>
 cond t24
 ((ix t9.2.2.1.length port1).bind λj32 =>
 (t9.2.2.1[j32]?).bind λx =>
 (ix (t9.2.2.1.set j32 (x.1,x.2.1,true,x.2.2.2.1,x.2.2.2.2.1,x.2.2.2.2.2.1,x.2.2.2.2.2.2.1,x.2.2.2.2.2.2.2)).length port1).bind λj34 =>
 ((t9.2.2.1.set j32 (x.1,x.2.1,true,x.2.2.2.1,x.2.2.2.2.1,x.2.2.2.2.2.1,x.2.2.2.2.2.2.1,x.2.2.2.2.2.2.2))[j34]?).bind λx_1 =>
 (am (t9.1,t9.2.1,(t9.2.2.1.set j32 (x.1,x.2.1,true,x.2.2.2.1,x.2.2.2.2.1,x.2.2.2.2.2.1,x.2.2.2.2.2.2.1,x.2.2.2.2.2.2.2)).set j34 (x_1.1,x_1.2.1,x_1.2.2.1,v2.1,v2.2.1,v2.2.2.1,v2.2.2.2.1,v2.2.2.2.2),t9.2.2.2.1,t9.2.2.2.2.1,t9.2.2.2.2.2.1,t9.2.2.2.2.2.2.1,t9.2.2.2.2.2.2.2.1,t9.2.2.2.2.2.2.2.2.1,t9.2.2.2.2.2.2.2.2.2.1,t9.2.2.2.2.2.2.2.2.2.2)).bind λt36 =>
 some t36)
 (some t9)
def fV:FL:=(217,⟨[.val true p9 false,.val false p4 false,.val true s7 false],[.val true p9 (some true)],λa=>aN a.1 a.2.1 a.2.2⟩)::fU
theorem lv:Gd fV:=p7 lu 217 Tryz.f217 [] Tryz.func217
def aO (b0:oU) (port1:Int) (up2:Bool):Option oU :=
 (a8 b0).bind λt9 =>
 (ax b0 port1).bind λt12 =>
 cond t12
 ((at? b0.2.2.1 port1).bind λx20 =>
 (ix t9.2.2.1.length port1).bind λj24 =>
 (t9.2.2.1[j24]?).bind λx =>
 (am (t9.1,t9.2.1,t9.2.2.1.set j24 (up2,x20.2.1,false,0,0,0,0,0),t9.2.2.2.1,t9.2.2.2.2.1,t9.2.2.2.2.2.1,t9.2.2.2.2.2.2.1,t9.2.2.2.2.2.2.2.1,t9.2.2.2.2.2.2.2.2.1,t9.2.2.2.2.2.2.2.2.2.1,t9.2.2.2.2.2.2.2.2.2.2)).bind λt25 =>
 some t25)
 (some t9)
def fW:FL:=(218,⟨[.val true p9 false,.val false p4 false,.val false pN false],[.val true p9 (some true)],λa=>aO a.1 a.2.1 a.2.2⟩)::fV
theorem lw:Gd fW:=p7 lv 218 Tryz.f218 [] Tryz.func218
def aZ (l0:List oV) (t8:Int) (out3:List oV):Option ((Int×List oV)⊕(List oV)) :=
 cond (decide (t8<(l0.length:Int)))
 ((at? l0 t8).bind λx10 =>
 cond (!x10.2.2.2.2)
 (cond (decide (x10.2.2.2.1>=4))
 (some (.inl (oT (t8+1),out3)))
 ((pL out3 [(x10.1,x10.2.1,x10.2.2.1,oT (x10.2.2.2.1+1),x10.2.2.2.2)]).bind λzs25 =>
 some (.inl (oT (t8+1),zs25))))
 ((pL out3 [x10]).bind λzs25_1 =>
 some (.inl (oT (t8+1),zs25_1))))
 (some (.inr out3))
def cH (l0:List oV):Option (List oV) :=
 (loop (λz=>aZ l0 z.1 z.2) (0,[])).bind λd =>
 some d
def fX:FL:=(311,⟨[.val false (.one (.sl pd)) false],[.val false (.one (.sl pd)) (some true)],λa=>cH a⟩)::fW
theorem lz:Gd fX:=p7 lw 311 Tryz.f311 [(0,⟨⟨[(3,false,[.own 1000000000]),(8,false,[dI])],[(1000000000,.root pd true)]⟩,
 ⟨[(3,false,[.own 1000000300])],[(1000000300,.root pd true)]⟩,none⟩)] Tryz.func311
def aP (b0:oU):Option oU :=
 (a8 b0).bind λt5 =>
 (av b0).bind λt7 =>
 cond t7
 ((af b0.2.2.2.2.2.2.1).bind λt10 =>
 (cH b0.2.2.2.1).bind λt14 =>
 (am (t5.1,t5.2.1,t5.2.2.1,t14,t5.2.2.2.2.1,t5.2.2.2.2.2.1,t10,t5.2.2.2.2.2.2.2.1,t5.2.2.2.2.2.2.2.2.1,t5.2.2.2.2.2.2.2.2.2.1,t5.2.2.2.2.2.2.2.2.2.2)).bind λt16 =>
 some t16)
 (some t5)
def fY:FL:=(219,⟨[.val true p9 false],[.val true p9 (some true)],λa=>aP a⟩)::fX
theorem lA:Gd fY:=p7 lz 219 Tryz.f219 [] Tryz.func219
def cI (p0:qe) (i1:Act):Option (qe×(List qp)×List GH) :=
 cond (i1.1==1)
 ((fZ p0 i1.2.2.2.1).bind λt18 =>
 some (t18,[],[]))
 (cond (i1.1==2)
 ((a6 i1.2.1 0 (oT ((p0.2.2.2.2.2.2.2.2.2.2.2.2.1.length:Int)-1))).bind λt30 =>
 cond t30
 ((fJ p0 i1.2.1).bind λt34 =>
 some (t34.1,[],t34.2))
 (some (p0,[],[])))
 (cond (i1.1==3)
 ((aD (p0.1,p0.2.1,p0.2.2.1,p0.2.2.2.1,p0.2.2.2.2.1,p0.2.2.2.2.2.1,p0.2.2.2.2.2.2.1,p0.2.2.2.2.2.2.2.1,p0.2.2.2.2.2.2.2.2.1,p0.2.2.2.2.2.2.2.2.2.1,p0.2.2.2.2.2.2.2.2.2.2.1) i1.2.1 (i1.2.2.2.2.1,i1.2.2.2.2.2.1,i1.2.2.2.2.2.2.1,i1.2.2.2.2.2.2.2.1)).bind λt46 =>
 some ((t46.1.1,t46.1.2.1,t46.1.2.2.1,t46.1.2.2.2.1,t46.1.2.2.2.2.1,t46.1.2.2.2.2.2.1,t46.1.2.2.2.2.2.2.1,t46.1.2.2.2.2.2.2.2.1,t46.1.2.2.2.2.2.2.2.2.1,t46.1.2.2.2.2.2.2.2.2.2.1,t46.1.2.2.2.2.2.2.2.2.2.2,p0.2.2.2.2.2.2.2.2.2.2.2.1,p0.2.2.2.2.2.2.2.2.2.2.2.2.1,p0.2.2.2.2.2.2.2.2.2.2.2.2.2.1,p0.2.2.2.2.2.2.2.2.2.2.2.2.2.2),t46.2,[]))
 (cond (i1.1==4)
 ((aN (p0.1,p0.2.1,p0.2.2.1,p0.2.2.2.1,p0.2.2.2.2.1,p0.2.2.2.2.2.1,p0.2.2.2.2.2.2.1,p0.2.2.2.2.2.2.2.1,p0.2.2.2.2.2.2.2.2.1,p0.2.2.2.2.2.2.2.2.2.1,p0.2.2.2.2.2.2.2.2.2.2.1) i1.2.1 i1.2.2.2.2.2.2.2.2).bind λt65 =>
 some ((t65.1,t65.2.1,t65.2.2.1,t65.2.2.2.1,t65.2.2.2.2.1,t65.2.2.2.2.2.1,t65.2.2.2.2.2.2.1,t65.2.2.2.2.2.2.2.1,t65.2.2.2.2.2.2.2.2.1,t65.2.2.2.2.2.2.2.2.2.1,t65.2.2.2.2.2.2.2.2.2.2,p0.2.2.2.2.2.2.2.2.2.2.2.1,p0.2.2.2.2.2.2.2.2.2.2.2.2.1,p0.2.2.2.2.2.2.2.2.2.2.2.2.2.1,p0.2.2.2.2.2.2.2.2.2.2.2.2.2.2),[],[]))
 (cond (i1.1==5)
 ((aO (p0.1,p0.2.1,p0.2.2.1,p0.2.2.2.1,p0.2.2.2.2.1,p0.2.2.2.2.2.1,p0.2.2.2.2.2.2.1,p0.2.2.2.2.2.2.2.1,p0.2.2.2.2.2.2.2.2.1,p0.2.2.2.2.2.2.2.2.2.1,p0.2.2.2.2.2.2.2.2.2.2.1) i1.2.1 i1.2.2.1).bind λt79 =>
 some ((t79.1,t79.2.1,t79.2.2.1,t79.2.2.2.1,t79.2.2.2.2.1,t79.2.2.2.2.2.1,t79.2.2.2.2.2.2.1,t79.2.2.2.2.2.2.2.1,t79.2.2.2.2.2.2.2.2.1,t79.2.2.2.2.2.2.2.2.2.1,t79.2.2.2.2.2.2.2.2.2.2,p0.2.2.2.2.2.2.2.2.2.2.2.1,p0.2.2.2.2.2.2.2.2.2.2.2.2.1,p0.2.2.2.2.2.2.2.2.2.2.2.2.2.1,p0.2.2.2.2.2.2.2.2.2.2.2.2.2.2),[],[]))
 (cond (i1.1==6)
 ((aP (p0.1,p0.2.1,p0.2.2.1,p0.2.2.2.1,p0.2.2.2.2.1,p0.2.2.2.2.2.1,p0.2.2.2.2.2.2.1,p0.2.2.2.2.2.2.2.1,p0.2.2.2.2.2.2.2.2.1,p0.2.2.2.2.2.2.2.2.2.1,p0.2.2.2.2.2.2.2.2.2.2.1)).bind λt89 =>
 some ((t89.1,t89.2.1,t89.2.2.1,t89.2.2.2.1,t89.2.2.2.2.1,t89.2.2.2.2.2.1,t89.2.2.2.2.2.2.1,t89.2.2.2.2.2.2.2.1,t89.2.2.2.2.2.2.2.2.1,t89.2.2.2.2.2.2.2.2.2.1,t89.2.2.2.2.2.2.2.2.2.2,p0.2.2.2.2.2.2.2.2.2.2.2.1,p0.2.2.2.2.2.2.2.2.2.2.2.2.1,p0.2.2.2.2.2.2.2.2.2.2.2.2.2.1,p0.2.2.2.2.2.2.2.2.2.2.2.2.2.2),[],[]))
 (some (p0,[],[])))))))
def ga:FL:=(114,⟨[.ptr sO (some true),.val true qF false],[.val false (.one (.sl wk)) (some true),.val false (.one (.sl zi)) none],λa=>cI a.1 a.2⟩)::fY
theorem lB:Gd ga:=p7 lA 114 Tryz.f114 [] Tryz.func114
def cJ (l1:List Act) (t13:Int) (b0_1:Int) (b1:List UInt8) (b6:Int) (b7:Int) (b8:Int) (b9:Int) (b10:Int) (b11:List UInt8) (b13:Int) (b14:Int) (b2:List Pt) (b3:List oV) (b4:List pm) (b5:List Int) (b12:List tH):Option ((Int×Int×List UInt8×Int×Int×Int×Int×Int×List UInt8×Int×Int×List Pt×List oV×List pm×List Int×List tH)⊕(Int×List UInt8×Int×Int×Int×Int×Int×List UInt8×Int×Int×List Pt×List oV×List pm×List Int×List tH)) :=
 cond (decide (t13<(l1.length:Int)))
 ((at? l1 t13).bind λx16 =>
 (cond (decide (t13<60))
 ((a6 x16.1 3 6).bind λt23 =>
 some t23)
 (some false)).bind λt24 =>
 cond t24
 ((cI (b0_1,b1,b2,b3,b4,b5,b6,b7,b8,b9,b10,b11,b12,b13,b14) x16).bind λt26 =>
 some (.inl (oT (t13+1),t26.1.1,t26.1.2.1,t26.1.2.2.2.2.2.2.1,t26.1.2.2.2.2.2.2.2.1,t26.1.2.2.2.2.2.2.2.2.1,t26.1.2.2.2.2.2.2.2.2.2.1,t26.1.2.2.2.2.2.2.2.2.2.2.1,t26.1.2.2.2.2.2.2.2.2.2.2.2.1,t26.1.2.2.2.2.2.2.2.2.2.2.2.2.2.1,t26.1.2.2.2.2.2.2.2.2.2.2.2.2.2.2,t26.1.2.2.1,t26.1.2.2.2.1,t26.1.2.2.2.2.1,t26.1.2.2.2.2.2.1,t26.1.2.2.2.2.2.2.2.2.2.2.2.2.1)))
 (some (.inl (oT (t13+1),b0_1,b1,b6,b7,b8,b9,b10,b11,b13,b14,b2,b3,b4,b5,b12))))
 (some (.inr (b0_1,b1,b6,b7,b8,b9,b10,b11,b13,b14,b2,b3,b4,b5,b12)))
def bU (b0:oU) (l1:List Act):Option oU :=
 (a8 b0).bind λt9 =>
 (loop (λz=>cJ l1 z.1 z.2.1 z.2.2.1 z.2.2.2.1 z.2.2.2.2.1 z.2.2.2.2.2.1 z.2.2.2.2.2.2.1 z.2.2.2.2.2.2.2.1 z.2.2.2.2.2.2.2.2.1 z.2.2.2.2.2.2.2.2.2.1 z.2.2.2.2.2.2.2.2.2.2.1 z.2.2.2.2.2.2.2.2.2.2.2.1 z.2.2.2.2.2.2.2.2.2.2.2.2.1 z.2.2.2.2.2.2.2.2.2.2.2.2.2.1 z.2.2.2.2.2.2.2.2.2.2.2.2.2.2.1 z.2.2.2.2.2.2.2.2.2.2.2.2.2.2.2) (0,t9.1,t9.2.1,t9.2.2.2.2.2.2.1,t9.2.2.2.2.2.2.2.1,t9.2.2.2.2.2.2.2.2.1,t9.2.2.2.2.2.2.2.2.2.1,t9.2.2.2.2.2.2.2.2.2.2,[],0,0,t9.2.2.1,t9.2.2.2.1,t9.2.2.2.2.1,t9.2.2.2.2.2.1,[])).bind λd =>
 some (d.1,d.2.1,d.2.2.2.2.2.2.2.2.2.2.1,d.2.2.2.2.2.2.2.2.2.2.2.1,d.2.2.2.2.2.2.2.2.2.2.2.2.1,d.2.2.2.2.2.2.2.2.2.2.2.2.2.1,d.2.2.1,d.2.2.2.1,d.2.2.2.2.1,d.2.2.2.2.2.1,d.2.2.2.2.2.2.1)
def gb:FL:=(31,⟨[.val true p9 false,.val false (.one (.sl qF)) false],[.val true p9 (some true)],λa=>bU a.1 a.2⟩)::ga
theorem lC:Gd gb:=p7 lB 31 Tryz.f31 [(0,⟨⟨(13,false,[dI])::us 21 3 [],[(266240,.box [dI,dS,.own 1000000000,.own 1000000001,.own 1000000002,.own 1000000003,dI,dI,dI,dI,dI,dS,.own 1000000004,dI,dI]),(1000000000,.root qy true),(1000000001,.root pd true),(1000000002,.root pV true),(1000000003,.root p4 true),(1000000004,.root ye true)]⟩,
 ⟨[],[(266240,.box [dI,dS,.own 1000000300,.own 1000000301,.own 1000000302,.own 1000000303,dI,dI,dI,dI,dI,dS,.own 1000000304,dI,dI]),(1000000300,.root qy true),(1000000301,.root pd true),(1000000302,.root pV true),(1000000303,.root p4 true),(1000000304,.root ye true)]⟩,none⟩)] Tryz.func31
def bV (a0:sw) (b1:sw):Option Bool :=
 cond (a0.1 != b1.1)
 (some false)
 (cond (a0.2.1 != b1.2.1)
 (some false)
 (cond (a0.2.2.1 != b1.2.2.1)
 (some false)
 (cond (a0.2.2.2.1 != b1.2.2.2.1)
 (some false)
 (cond (a0.2.2.2.2 != b1.2.2.2.2) (some false) (some true)))))
def gd:FL:=(226,⟨[.val true s7 false,.val true s7 false],[.val false pN (some true)],λa=>bV a.1 a.2⟩)::gb
theorem lD:Gd gd:=p7 lC 226 Tryz.f226 [] Tryz.func226
def bW (a0:Pt) (b1:Pt):Option Bool :=
 cond (!(a0.1==b1.1))
 (some false)
 (cond (a0.2.1 != b1.2.1)
 (some false)
 (cond (!(a0.2.2.1==b1.2.2.1))
 (some false)
 ((bV a0.2.2.2 b1.2.2.2).bind λt24 =>
 cond (!t24) (some false) (some true))))
def ge:FL:=(220,⟨[.val true qy false,.val true qy false],[.val false pN (some true)],λa=>bW a.1 a.2⟩)::gd
theorem lE:Gd ge:=p7 lD 220 Tryz.f220 [] Tryz.func220
def lF (a0:List Pt) (b1:List Pt) (i5:Int):Option (Int⊕(Unit⊕Bool)) :=
 cond (decide (i5<(a0.length:Int)))
 ((at? a0 i5).bind λx19 =>
 (at? b1 i5).bind λx23 =>
 (bW x19 x23).bind λt25 =>
 cond (!t25) (some (.inr (.inr false))) (some (.inl (oT (i5+1)))))
 (some (.inr (.inl ())))
def dQ (a0:List Pt) (b1:List Pt):Option Bool :=
 cond ((a0.length:Int) != (b1.length:Int))
 (some false)
 ((loop (λz=>lF a0 b1 z) 0).bind (Sum.elim (λd =>
 some true) (λr=>some r)))
def gg:FL:=(115,⟨[.val false (.one (.sl qy)) false,.val false (.one (.sl qy)) false],[.val false pN (some true)],λa=>dQ a.1 a.2⟩)::ge
theorem lG:Gd gg:=p7 lE 115 Tryz.f115 [(0,⟨⟨[(5,false,[dI])],[]⟩,
 ⟨[],[]⟩,some ⟨[(4,false,[dB])],[]⟩⟩)] Tryz.func115
def bY (a0:oV) (b1:oV):Option Bool :=
 cond (a0.1 != b1.1)
 (some false)
 (cond (a0.2.1 != b1.2.1)
 (some false)
 (cond (a0.2.2.1 != b1.2.2.1)
 (some false)
 (cond (a0.2.2.2.1 != b1.2.2.2.1)
 (some false)
 (cond (!(a0.2.2.2.2==b1.2.2.2.2)) (some false) (some true)))))
def gh:FL:=(221,⟨[.val true pd false,.val true pd false],[.val false pN (some true)],λa=>bY a.1 a.2⟩)::gg
theorem lH:Gd gh:=p7 lG 221 Tryz.f221 [] Tryz.func221
def lI (a0:List oV) (b1:List oV) (i5:Int):Option (Int⊕(Unit⊕Bool)) :=
 cond (decide (i5<(a0.length:Int)))
 ((at? a0 i5).bind λx19 =>
 (at? b1 i5).bind λx23 =>
 (bY x19 x23).bind λt25 =>
 cond (!t25) (some (.inr (.inr false))) (some (.inl (oT (i5+1)))))
 (some (.inr (.inl ())))
def dR (a0:List oV) (b1:List oV):Option Bool :=
 cond ((a0.length:Int) != (b1.length:Int))
 (some false)
 ((loop (λz=>lI a0 b1 z) 0).bind (Sum.elim (λd =>
 some true) (λr=>some r)))
def gi:FL:=(116,⟨[.val false (.one (.sl pd)) false,.val false (.one (.sl pd)) false],[.val false pN (some true)],λa=>dR a.1 a.2⟩)::gh
theorem lJ:Gd gi:=p7 lH 116 Tryz.f116 [(0,⟨⟨[(5,false,[dI])],[]⟩,
 ⟨[],[]⟩,some ⟨[(4,false,[dB])],[]⟩⟩)] Tryz.func116
def bZ (a0:pm) (b1:pm):Option Bool :=
 cond (a0.1 != b1.1)
 (some false)
 (cond (a0.2.1 != b1.2.1) (some false) (cond (a0.2.2 != b1.2.2) (some false) (some true)))
def gj:FL:=(312,⟨[.val true pV false,.val true pV false],[.val false pN (some true)],λa=>bZ a.1 a.2⟩)::gi
theorem lK:Gd gj:=p7 lJ 312 Tryz.f312 [] Tryz.func312
def lL (a0:List pm) (b1:List pm) (i5:Int):Option (Int⊕(Unit⊕Bool)) :=
 cond (decide (i5<(a0.length:Int)))
 ((at? a0 i5).bind λx19 =>
 (at? b1 i5).bind λx23 =>
 (bZ x19 x23).bind λt25 =>
 cond (!t25) (some (.inr (.inr false))) (some (.inl (oT (i5+1)))))
 (some (.inr (.inl ())))
def dU (a0:List pm) (b1:List pm):Option Bool :=
 cond ((a0.length:Int) != (b1.length:Int))
 (some false)
 ((loop (λz=>lL a0 b1 z) 0).bind (Sum.elim (λd =>
 some true) (λr=>some r)))
def gk:FL:=(222,⟨[.val false (.one (.sl pV)) false,.val false (.one (.sl pV)) false],[.val false pN (some true)],λa=>dU a.1 a.2⟩)::gj
theorem lM:Gd gk:=p7 lK 222 Tryz.f222 [(0,⟨⟨[(5,false,[dI])],[]⟩,
 ⟨[],[]⟩,some ⟨[(4,false,[dB])],[]⟩⟩)] Tryz.func222
def lN (a0:List Int) (b1:List Int) (i5:Int):Option (Int⊕(Unit⊕Bool)) :=
 cond (decide (i5<(a0.length:Int)))
 ((at? a0 i5).bind λx19 =>
 (at? b1 i5).bind λx23 =>
 cond (x19 != x23) (some (.inr (.inr false))) (some (.inl (oT (i5+1)))))
 (some (.inr (.inl ())))
def dV (a0:List Int) (b1:List Int):Option Bool :=
 cond ((a0.length:Int) != (b1.length:Int))
 (some false)
 ((loop (λz=>lN a0 b1 z) 0).bind (Sum.elim (λd =>
 some true) (λr=>some r)))
def gl:FL:=(223,⟨[.val false rC false,.val false rC false],[.val false pN (some true)],λa=>dV a.1 a.2⟩)::gk
theorem lO:Gd gl:=p7 lM 223 Tryz.f223 [(0,⟨⟨[(5,false,[dI])],[]⟩,
 ⟨[],[]⟩,some ⟨[(4,false,[dB])],[]⟩⟩)] Tryz.func223
def cK (a0:pO) (b1:pO):Option Bool :=
 (dU a0.1 b1.1).bind λt9 =>
 cond (!t9)
 (some false)
 ((dV a0.2 b1.2).bind λt15 =>
 cond (!t15) (some false) (some true))
def gm:FL:=(117,⟨[.val true qv false,.val true qv false],[.val false pN (some true)],λa=>cK a.1 a.2⟩)::gl
theorem lP:Gd gm:=p7 lO 117 Tryz.f117 [] Tryz.func117
def ba (a0:oU) (b1:oU):Option Bool :=
 cond (a0.1 != b1.1)
 (some false)
 (cond (!(a0.2.1==b1.2.1))
 (some false)
 ((dQ a0.2.2.1 b1.2.2.1).bind λt19 =>
 cond (!t19)
 (some false)
 ((dR a0.2.2.2.1 b1.2.2.2.1).bind λt25 =>
 cond (!t25)
 (some false)
 ((cK (a0.2.2.2.2.1,a0.2.2.2.2.2.1) (b1.2.2.2.2.1,b1.2.2.2.2.2.1)).bind λt31 =>
 cond (!t31)
 (some false)
 (cond (a0.2.2.2.2.2.2.1 != b1.2.2.2.2.2.2.1)
 (some false)
 (cond (a0.2.2.2.2.2.2.2.1 != b1.2.2.2.2.2.2.2.1)
 (some false)
 (cond (a0.2.2.2.2.2.2.2.2.1 != b1.2.2.2.2.2.2.2.2.1)
 (some false)
 (cond (a0.2.2.2.2.2.2.2.2.2.1 != b1.2.2.2.2.2.2.2.2.2.1)
 (some false)
 (cond (a0.2.2.2.2.2.2.2.2.2.2 != b1.2.2.2.2.2.2.2.2.2.2) (some false) (some true))))))))))
def gn:FL:=(32,⟨[.val true p9 false,.val true p9 false],[.val false pN (some true)],λa=>ba a.1 a.2⟩)::gm
theorem lQ:Gd gn:=p7 lP 32 Tryz.f32 [] Tryz.func32
def lR (a0:List Int) (b1:List Int) (i5:Int):Option (Int⊕(Unit⊕Bool)) :=
 cond (decide (i5<(a0.length:Int)))
 ((at? a0 i5).bind λx19 =>
 (at? b1 i5).bind λx23 =>
 cond (x19 != x23) (some (.inr (.inr false))) (some (.inl (oT (i5+1)))))
 (some (.inr (.inl ())))
def cL (a0:List Int) (b1:List Int):Option Bool :=
 cond ((a0.length:Int) != (b1.length:Int))
 (some false)
 ((loop (λz=>lR a0 b1 z) 0).bind (Sum.elim (λd =>
 some true) (λr=>some r)))
def gp:FL:=(224,⟨[.val false rQ false,.val false rQ false],[.val false pN (some true)],λa=>cL a.1 a.2⟩)::gn
theorem lS:Gd gp:=p7 lQ 224 Tryz.f224 [(0,⟨⟨[(5,false,[dI])],[]⟩,
 ⟨[],[]⟩,some ⟨[(4,false,[dB])],[]⟩⟩)] Tryz.func224
def cM (a0:qq) (b1:qq):Option Bool :=
 cond (a0.1 != b1.1)
 (some false)
 (cond (a0.2.1 != b1.2.1)
 (some false)
 (cond (a0.2.2.1 != b1.2.2.1)
 (some false)
 ((cL a0.2.2.2 b1.2.2.2).bind λt24 =>
 cond (!t24) (some false) (some true))))
def gq:FL:=(225,⟨[.val true ri false,.val true ri false],[.val false pN (some true)],λa=>cM a.1 a.2⟩)::gp
theorem lT:Gd gq:=p7 lS 225 Tryz.f225 [] Tryz.func225
def ca (a0:Act) (b1:Act):Option Bool :=
 cond (a0.1 != b1.1)
 (some false)
 (cond (a0.2.1 != b1.2.1)
 (some false)
 (cond (!(a0.2.2.1==b1.2.2.1))
 (some false)
 ((cL a0.2.2.2.1 b1.2.2.2.1).bind λt24 =>
 cond (!t24)
 (some false)
 ((cM (a0.2.2.2.2.1,a0.2.2.2.2.2.1,a0.2.2.2.2.2.2.1,a0.2.2.2.2.2.2.2.1) (b1.2.2.2.2.1,b1.2.2.2.2.2.1,b1.2.2.2.2.2.2.1,b1.2.2.2.2.2.2.2.1)).bind λt30 =>
 cond (!t30)
 (some false)
 ((bV a0.2.2.2.2.2.2.2.2 b1.2.2.2.2.2.2.2.2).bind λt36 =>
 cond (!t36) (some false) (some true))))))
def gt:FL:=(118,⟨[.val true qF false,.val true qF false],[.val false pN (some true)],λa=>ca a.1 a.2⟩)::gq
theorem lU:Gd gt:=p7 lT 118 Tryz.f118 [] Tryz.func118
def lV (a0:List Act) (b1:List Act) (i5:Int):Option (Int⊕(Unit⊕Bool)) :=
 cond (decide (i5<(a0.length:Int)))
 ((at? a0 i5).bind λx19 =>
 (at? b1 i5).bind λx23 =>
 (ca x19 x23).bind λt25 =>
 cond (!t25) (some (.inr (.inr false))) (some (.inl (oT (i5+1)))))
 (some (.inr (.inl ())))
def dW (a0:List Act) (b1:List Act):Option Bool :=
 cond ((a0.length:Int) != (b1.length:Int))
 (some false)
 ((loop (λz=>lV a0 b1 z) 0).bind (Sum.elim (λd =>
 some true) (λr=>some r)))
def gu:FL:=(33,⟨[.val false (.one (.sl qF)) false,.val false (.one (.sl qF)) false],[.val false pN (some true)],λa=>dW a.1 a.2⟩)::gt
theorem lW:Gd gu:=p7 lU 33 Tryz.f33 [(0,⟨⟨[(5,false,[dI])],[]⟩,
 ⟨[],[]⟩,some ⟨[(4,false,[dB])],[]⟩⟩)] Tryz.func33
def cN (p0:List Pt) (i1_1:Int) (t5:Int):Option ((Int×Int)⊕(Int⊕Int)) :=
 cond (decide (t5<(p0.length:Int)))
 ((at? p0 t5).bind λx14 =>
 cond (!(x14.1==((i1_1.tmod 3)==0)))
 (some (.inr (.inr (-1))))
 ((at? p0 t5).bind λx25 =>
 cond (x25.2.1 != (oT (i1_1+1)))
 (some (.inr (.inr (-1))))
 (let i1_2:=oT ((oT (i1_1+1))+1)
 (at? p0 t5).bind λx34 =>
 cond (!(x34.2.2.1==((i1_2.tmod 3)==0)))
 (some (.inr (.inr (-1))))
 ((at? p0 t5).bind λx45 =>
 cond (x45.2.2.2.1 != (oT (i1_2+1)))
 (some (.inr (.inr (-1))))
 (let i1_3:=oT ((oT (i1_2+1))+1)
 (at? p0 t5).bind λx55 =>
 cond (x55.2.2.2.2.1 != i1_3)
 (some (.inr (.inr (-1))))
 ((at? p0 t5).bind λx65 =>
 cond (x65.2.2.2.2.2.1 != (oT (i1_3+1)))
 (some (.inr (.inr (-1))))
 (let i1_4:=oT ((oT (i1_3+1))+1)
 (at? p0 t5).bind λx75 =>
 cond (x75.2.2.2.2.2.2.1 != i1_4)
 (some (.inr (.inr (-1))))
 ((at? p0 t5).bind λx85 =>
 cond (x85.2.2.2.2.2.2.2 != (oT (i1_4+1)))
 (some (.inr (.inr (-1))))
 (let i1_5:=oT ((oT (i1_4+1))+1)
 some (.inl (i1_5,oT (t5+1))))))))))))
 (some (.inr (.inl i1_1)))
def cO (p0:List Pt) (i1:Int):Option Int :=
 (loop (λz=>cN p0 z.1 z.2) (i1,0)).bind (Sum.elim (λd =>
 some d) (λr=>some r))
def gv:FL:=(123,⟨[.val false (.one (.sl qy)) false,.val false p4 false],[.val false p4 (some true)],λa=>cO a.1 a.2⟩)::gu
theorem lX:Gd gv:=p7 lW 123 Tryz.f123 [(0,⟨⟨[(1,false,[dI]),(5,false,[dI])],[]⟩,
 ⟨[(1,false,[dI])],[]⟩,some ⟨[(4,false,[dI])],[]⟩⟩)] Tryz.func123
def cP (a0:List oV) (k1_1:Int) (i5:Int):Option ((Int×Int)⊕(Int⊕Int)) :=
 cond (decide (i5<(a0.length:Int)))
 ((at? a0 i5).bind λx14 =>
 cond (x14.1 != k1_1)
 (some (.inr (.inr (-1))))
 ((at? a0 i5).bind λx23 =>
 cond (x23.2.1 != (oT (k1_1+1)))
 (some (.inr (.inr (-1))))
 (let k1_2:=oT ((oT (k1_1+1))+1)
 (at? a0 i5).bind λx32 =>
 cond (x32.2.2.1 != k1_2)
 (some (.inr (.inr (-1))))
 ((at? a0 i5).bind λx41 =>
 cond (x41.2.2.2.1 != (oT (k1_2+1)))
 (some (.inr (.inr (-1))))
 (let k1_3:=oT ((oT (k1_2+1))+1)
 (at? a0 i5).bind λx50 =>
 cond (!(x50.2.2.2.2==((k1_3.tmod 3)==0)))
 (some (.inr (.inr (-1))))
 (some (.inl (oT (k1_3+1),oT (i5+1)))))))))
 (some (.inr (.inl k1_1)))
def cQ (a0:List oV) (k1:Int):Option Int :=
 (loop (λz=>cP a0 z.1 z.2) (k1,0)).bind (Sum.elim (λd =>
 some d) (λr=>some r))
def gw:FL:=(124,⟨[.val false (.one (.sl pd)) false,.val false p4 false],[.val false p4 (some true)],λa=>cQ a.1 a.2⟩)::gv
theorem lY:Gd gw:=p7 lX 124 Tryz.f124 [(0,⟨⟨[(1,false,[dI]),(5,false,[dI])],[]⟩,
 ⟨[(1,false,[dI])],[]⟩,some ⟨[(4,false,[dI])],[]⟩⟩)] Tryz.func124
def cR (a0:List pm) (k1_1:Int) (i5:Int):Option ((Int×Int)⊕(Int⊕Int)) :=
 cond (decide (i5<(a0.length:Int)))
 ((at? a0 i5).bind λx14 =>
 cond (x14.1 != k1_1)
 (some (.inr (.inr (-1))))
 ((at? a0 i5).bind λx23 =>
 cond (x23.2.1 != (oT (k1_1+1)))
 (some (.inr (.inr (-1))))
 (let k1_2:=oT ((oT (k1_1+1))+1)
 (at? a0 i5).bind λx32 =>
 cond (x32.2.2 != k1_2)
 (some (.inr (.inr (-1))))
 (some (.inl (oT (k1_2+1),oT (i5+1)))))))
 (some (.inr (.inl k1_1)))
def cS (a0:List pm) (k1:Int):Option Int :=
 (loop (λz=>cR a0 z.1 z.2) (k1,0)).bind (Sum.elim (λd =>
 some d) (λr=>some r))
def gx:FL:=(229,⟨[.val false (.one (.sl pV)) false,.val false p4 false],[.val false p4 (some true)],λa=>cS a.1 a.2⟩)::gw
theorem lZ:Gd gx:=p7 lY 229 Tryz.f229 [(0,⟨⟨[(1,false,[dI]),(5,false,[dI])],[]⟩,
 ⟨[(1,false,[dI])],[]⟩,some ⟨[(4,false,[dI])],[]⟩⟩)] Tryz.func229
def cU (a0:List Int) (k1_1:Int) (i5:Int):Option ((Int×Int)⊕(Int⊕Int)) :=
 cond (decide (i5<(a0.length:Int)))
 ((at? a0 i5).bind λx14 =>
 cond (x14 != k1_1)
 (some (.inr (.inr (-1))))
 (some (.inl (oT (k1_1+1),oT (i5+1)))))
 (some (.inr (.inl k1_1)))
def cV (a0:List Int) (k1:Int):Option Int :=
 (loop (λz=>cU a0 z.1 z.2) (k1,0)).bind (Sum.elim (λd =>
 some d) (λr=>some r))
def gy:FL:=(230,⟨[.val false rC false,.val false p4 false],[.val false p4 (some true)],λa=>cV a.1 a.2⟩)::gx
theorem m0:Gd gy:=p7 lZ 230 Tryz.f230 [(0,⟨⟨[(1,false,[dI]),(5,false,[dI])],[]⟩,
 ⟨[(1,false,[dI])],[]⟩,some ⟨[(4,false,[dI])],[]⟩⟩)] Tryz.func230
def dX (a0:pO) (k1:Int):Option Int :=
 (cS a0.1 k1).bind λt8 =>
 cond (decide (t8<0))
 (some (-1))
 ((cV a0.2 t8).bind λt14 =>
 cond (decide (t14<0)) (some (-1)) (some t14))
def gz:FL:=(125,⟨[.val true qv false,.val false p4 false],[.val false p4 (some true)],λa=>dX a.1 a.2⟩)::gy
theorem m3:Gd gz:=p7 m0 125 Tryz.f125 [] Tryz.func125
def cb (a0:oU) (k1:Int):Option Int :=
 (cO a0.2.2.1 k1).bind λt8 =>
 cond (decide (t8<0))
 (some (-1))
 ((cQ a0.2.2.2.1 t8).bind λt14 =>
 cond (decide (t14<0))
 (some (-1))
 ((dX (a0.2.2.2.2.1,a0.2.2.2.2.2.1) t14).bind λt20 =>
 cond (decide (t20<0)) (some (-1)) (some t20)))
def a9:FL:=(36,⟨[.val true p9 false,.val false p4 false],[.val false p4 (some true)],λa=>cb a.1 a.2⟩)::gz
theorem aE:Gd a9:=p7 m3 36 Tryz.f36 [] Tryz.func36
def cW (i1:Int) (t5:Int) (l:List Pt):Option ((Int×Int×List Pt)⊕(Int×List Pt)) :=
 cond (decide (t5<(l.length:Int)))
 ((ix l.length t5).bind λj17 =>
 (l[j17]?).bind λx =>
 let ls:List Pt:=l.set j17 ((i1.tmod 3)==0,x.2.1,x.2.2.1,x.2.2.2.1,x.2.2.2.2.1,x.2.2.2.2.2.1,x.2.2.2.2.2.2.1,x.2.2.2.2.2.2.2)
 (ix ls.length t5).bind λj24 =>
 (ls[j24]?).bind λx_1 =>
 let ls_1:List Pt:=ls.set j24 (x_1.1,oT (i1+1),x_1.2.2.1,x_1.2.2.2.1,x_1.2.2.2.2.1,x_1.2.2.2.2.2.1,x_1.2.2.2.2.2.2.1,x_1.2.2.2.2.2.2.2)
 (ix ls_1.length t5).bind λj33 =>
 (ls_1[j33]?).bind λx_2 =>
 let ls_2:List Pt:=ls_1.set j33 (x_2.1,x_2.2.1,((oT ((oT (i1+1))+1)).tmod 3)==0,x_2.2.2.2.1,x_2.2.2.2.2.1,x_2.2.2.2.2.2.1,x_2.2.2.2.2.2.2.1,x_2.2.2.2.2.2.2.2)
 let i1_1:=oT ((oT ((oT (i1+1))+1))+1)
 (ix ls_2.length t5).bind λj40 =>
 (ls_2[j40]?).bind λx_3 =>
 let ls_3:List Pt:=ls_2.set j40 (x_3.1,x_3.2.1,x_3.2.2.1,i1_1,x_3.2.2.2.2.1,x_3.2.2.2.2.2.1,x_3.2.2.2.2.2.2.1,x_3.2.2.2.2.2.2.2)
 (ix ls_3.length t5).bind λj48 =>
 (ls_3[j48]?).bind λx_4 =>
 let ls_4:List Pt:=ls_3.set j48 (x_4.1,x_4.2.1,x_4.2.2.1,x_4.2.2.2.1,oT (i1_1+1),x_4.2.2.2.2.2.1,x_4.2.2.2.2.2.2.1,x_4.2.2.2.2.2.2.2)
 let i1_2:=oT ((oT (i1_1+1))+1)
 (ix ls_4.length t5).bind λj56 =>
 (ls_4[j56]?).bind λx_5 =>
 let ls_5:List Pt:=ls_4.set j56 (x_5.1,x_5.2.1,x_5.2.2.1,x_5.2.2.2.1,x_5.2.2.2.2.1,i1_2,x_5.2.2.2.2.2.2.1,x_5.2.2.2.2.2.2.2)
 (ix ls_5.length t5).bind λj64 =>
 (ls_5[j64]?).bind λx_6 =>
 let ls_6:List Pt:=ls_5.set j64 (x_6.1,x_6.2.1,x_6.2.2.1,x_6.2.2.2.1,x_6.2.2.2.2.1,x_6.2.2.2.2.2.1,oT (i1_2+1),x_6.2.2.2.2.2.2.2)
 let i1_3:=oT ((oT (i1_2+1))+1)
 (ix ls_6.length t5).bind λj72 =>
 (ls_6[j72]?).bind λx_7 =>
 let ls_7:List Pt:=ls_6.set j72 (x_7.1,x_7.2.1,x_7.2.2.1,x_7.2.2.2.1,x_7.2.2.2.2.1,x_7.2.2.2.2.2.1,x_7.2.2.2.2.2.2.1,i1_3)
 some (.inl (oT (i1_3+1),oT (t5+1),ls_7)))
 (some (.inr (i1,l)))
def cc (a0:List Pt) (k1:Int):Option ((List Pt)×Int) :=
 (loop (λz=>cW z.1 z.2.1 z.2.2) (k1,0,a0)).bind λd =>
 some (d.2,d.1)
theorem JJ:rp Tryz.prog ⟨tis,a9,[],true⟩:=aE.trees BJ
def xF:sY:=⟨false,(.one (.sl qy)),λa k=>cc a k⟩
def xG:List (Nat×p3):=[(0,⟨⟨[(1,false,[dI]),(5,false,[dI])],[(1,.tree qy)]⟩,
 ⟨[(1,false,[dI])],[(1,.tree qy)]⟩,none⟩)]
theorem Bc:sL ⟨tis,a9,[],true⟩ xG Tryz.f119 (qN Tryz.f119) false (.one (.sl qy))=λa k=>cc a k:=by kernel_rfl
theorem Bd:r7 Tryz.prog 119 xF:=by
 have h:=tG (ann:=xG) (agg:=false) (cs:=(.one (.sl qy))) JJ va Tryz.func119 (by kernel_rfl) (by kernel_rfl:Tryz.f119.body=some (qN Tryz.f119));rw[Bc]at h;exact h
def wN:List (FuncId×sY):=(119,xF)::[]
theorem FF:∀f M,oS wN f=some M->r7 Tryz.prog f M:=sq BJ Bd
theorem I8:rp Tryz.prog ⟨tis,a9,wN,true⟩:=aE.trees FF
def cX (k1_1:Int) (i5:Int) (l:List oV):Option ((Int×Int×List oV)⊕(Int×List oV)) :=
 cond (decide (i5<(l.length:Int)))
 ((ix l.length i5).bind λj15 =>
 (l[j15]?).bind λx =>
 let ls:List oV:=l.set j15 (k1_1,x.2.1,x.2.2.1,x.2.2.2.1,x.2.2.2.2)
 (ix ls.length i5).bind λj22 =>
 (ls[j22]?).bind λx_1 =>
 let ls_1:List oV:=ls.set j22 (x_1.1,oT (k1_1+1),x_1.2.2.1,x_1.2.2.2.1,x_1.2.2.2.2)
 let k1_2:=oT ((oT (k1_1+1))+1)
 (ix ls_1.length i5).bind λj29 =>
 (ls_1[j29]?).bind λx_2 =>
 let ls_2:List oV:=ls_1.set j29 (x_2.1,x_2.2.1,k1_2,x_2.2.2.2.1,x_2.2.2.2.2)
 (ix ls_2.length i5).bind λj36 =>
 (ls_2[j36]?).bind λx_3 =>
 let ls_3:List oV:=ls_2.set j36 (x_3.1,x_3.2.1,x_3.2.2.1,oT (k1_2+1),x_3.2.2.2.2)
 let k1_3:=oT ((oT (k1_2+1))+1)
 (ix ls_3.length i5).bind λj45 =>
 (ls_3[j45]?).bind λx_4 =>
 let ls_4:List oV:=ls_3.set j45 (x_4.1,x_4.2.1,x_4.2.2.1,x_4.2.2.2.1,(k1_3.tmod 3)==0)
 some (.inl (oT (k1_3+1),oT (i5+1),ls_4)))
 (some (.inr (k1_1,l)))
def ce (a0:List oV) (k1:Int):Option ((List oV)×Int) :=
 (loop (λz=>cX z.1 z.2.1 z.2.2) (k1,0,a0)).bind λd =>
 some (d.2,d.1)
def wa:sY:=⟨false,(.one (.sl pd)),λa k=>ce a k⟩
def wb:List (Nat×p3):=[(0,⟨⟨[(1,false,[dI]),(5,false,[dI])],[(1,.tree pd)]⟩,
 ⟨[(1,false,[dI])],[(1,.tree pd)]⟩,none⟩)]
theorem zW:sL ⟨tis,a9,wN,true⟩ wb Tryz.f120 (qN Tryz.f120) false (.one (.sl pd))=λa k=>ce a k:=by kernel_rfl
theorem zX:r7 Tryz.prog 120 wa:=by
 have h:=tG (ann:=wb) (agg:=false) (cs:=(.one (.sl pd))) I8 va Tryz.func120 (by kernel_rfl) (by kernel_rfl:Tryz.f120.body=some (qN Tryz.f120));rw[zW]at h;exact h
def wO:List (FuncId×sY):=(120,wa)::wN
theorem FG:∀f M,oS wO f=some M->r7 Tryz.prog f M:=sq FF zX
theorem I9:rp Tryz.prog ⟨tis,a9,wO,true⟩:=aE.trees FG
def cY (k1_1:Int) (i5:Int) (l:List pm):Option ((Int×Int×List pm)⊕(Int×List pm)) :=
 cond (decide (i5<(l.length:Int)))
 ((ix l.length i5).bind λj15 =>
 (l[j15]?).bind λx =>
 let ls:List pm:=l.set j15 (k1_1,x.2.1,x.2.2)
 (ix ls.length i5).bind λj22 =>
 (ls[j22]?).bind λx_1 =>
 let ls_1:List pm:=ls.set j22 (x_1.1,oT (k1_1+1),x_1.2.2)
 let k1_2:=oT ((oT (k1_1+1))+1)
 (ix ls_1.length i5).bind λj29 =>
 (ls_1[j29]?).bind λx_2 =>
 let ls_2:List pm:=ls_1.set j29 (x_2.1,x_2.2.1,k1_2)
 some (.inl (oT (k1_2+1),oT (i5+1),ls_2)))
 (some (.inr (k1_1,l)))
def cf (a0:List pm) (k1:Int):Option ((List pm)×Int) :=
 (loop (λz=>cY z.1 z.2.1 z.2.2) (k1,0,a0)).bind λd =>
 some (d.2,d.1)
def wd:sY:=⟨false,(.one (.sl pV)),λa k=>cf a k⟩
def we:List (Nat×p3):=[(0,⟨⟨[(1,false,[dI]),(5,false,[dI])],[(1,.tree pV)]⟩,
 ⟨[(1,false,[dI])],[(1,.tree pV)]⟩,none⟩)]
theorem zY:sL ⟨tis,a9,wO,true⟩ we Tryz.f227 (qN Tryz.f227) false (.one (.sl pV))=λa k=>cf a k:=by kernel_rfl
theorem zZ:r7 Tryz.prog 227 wd:=by
 have h:=tG (ann:=we) (agg:=false) (cs:=(.one (.sl pV))) I9 va Tryz.func227 (by kernel_rfl) (by kernel_rfl:Tryz.f227.body=some (qN Tryz.f227));rw[zY]at h;exact h
def wP:List (FuncId×sY):=(227,wd)::wO
theorem FH:∀f M,oS wP f=some M->r7 Tryz.prog f M:=sq FG zZ
theorem Ia:rp Tryz.prog ⟨tis,a9,wP,true⟩:=aE.trees FH
def cZ (k1_1:Int) (i5:Int) (l:List Int):Option ((Int×Int×List Int)⊕(Int×List Int)) :=
 cond (decide (i5<(l.length:Int)))
 ((ix l.length i5).bind λj15 =>
 (l[j15]?).bind λx =>
 let ls:List Int:=l.set j15 k1_1
 some (.inl (oT (k1_1+1),oT (i5+1),ls)))
 (some (.inr (k1_1,l)))
def cg (a0:List Int) (k1:Int):Option ((List Int)×Int) :=
 (loop (λz=>cZ z.1 z.2.1 z.2.2) (k1,0,a0)).bind λd =>
 some (d.2,d.1)
def wQ:sY:=⟨false,rC,λa k=>cg a k⟩
def wR:List (Nat×p3):=[(0,⟨⟨[(1,false,[dI]),(5,false,[dI])],[(1,.tree p4)]⟩,
 ⟨[(1,false,[dI])],[(1,.tree p4)]⟩,none⟩)]
theorem AJ:sL ⟨tis,a9,wP,true⟩ wR Tryz.f228 (qN Tryz.f228) false rC=λa k=>cg a k:=by kernel_rfl
theorem AK:r7 Tryz.prog 228 wQ:=by
 have h:=tG (ann:=wR) (agg:=false) (cs:=rC) Ia va Tryz.func228 (by kernel_rfl) (by kernel_rfl:Tryz.f228.body=some (qN Tryz.f228));rw[AJ]at h;exact h
def wS:List (FuncId×sY):=(228,wQ)::wP
theorem FI:∀f M,oS wS f=some M->r7 Tryz.prog f M:=sq FH AK
theorem Ib:rp Tryz.prog ⟨tis,a9,wS,true⟩:=aE.trees FI
def d6 (a0:pO) (k1:Int):Option (pO×Int) :=
 (cf a0.1 k1).bind λz =>
 (cg a0.2 z.2).bind λz_1 =>
 some ((z.1,z_1.1),z_1.2)
def wT:sY:=⟨true,qv,λa k=>d6 a k⟩
theorem AL:sL ⟨tis,a9,wS,true⟩ [] Tryz.f121 (qN Tryz.f121) true qv=λa k=>d6 a k:=by kernel_rfl
theorem AM:r7 Tryz.prog 121 wT:=by
 have h:=tG (ann:=[]) (agg:=true) (cs:=qv) Ib va Tryz.func121 (by kernel_rfl) (by kernel_rfl:Tryz.f121.body=some (qN Tryz.f121));rw[AL]at h;exact h
def wU:List (FuncId×sY):=(121,wT)::wS
theorem FJ:∀f M,oS wU f=some M->r7 Tryz.prog f M:=sq FI AM
theorem Id:rp Tryz.prog ⟨tis,a9,wU,true⟩:=aE.trees FJ
def bz (a0:oU) (k1:Int):Option (oU×Int) :=
 (cc a0.2.2.1 k1).bind λz =>
 (ce a0.2.2.2.1 z.2).bind λz_1 =>
 (d6 (a0.2.2.2.2.1,a0.2.2.2.2.2.1) z_1.2).bind λz_2 =>
 some ((a0.1,a0.2.1,z.1,z_1.1,z_2.1.1,z_2.1.2,a0.2.2.2.2.2.2.1,a0.2.2.2.2.2.2.2.1,a0.2.2.2.2.2.2.2.2.1,a0.2.2.2.2.2.2.2.2.2.1,a0.2.2.2.2.2.2.2.2.2.2),z_2.2)
def vo:sY:=⟨true,p9,λa k=>bz a k⟩
theorem zu:sL ⟨tis,a9,wU,true⟩ [] Tryz.f34 (qN Tryz.f34) true p9=λa k=>bz a k:=by kernel_rfl
theorem zv:r7 Tryz.prog 34 vo:=by
 have h:=tG (ann:=[]) (agg:=true) (cs:=p9) Id va Tryz.func34 (by kernel_rfl) (by kernel_rfl:Tryz.f34.body=some (qN Tryz.f34));rw[zu]at h;exact h
def yd:List (FuncId×sY):=(34,vo)::wU
theorem H4:∀f M,oS yd f=some M->r7 Tryz.prog f M:=sq FJ zv
theorem IY:rp Tryz.prog ⟨tis,a9,yd,true⟩:=aE.trees H4
def d7 (k1_1:Int) (i5:Int) (l:List Int):Option ((Int×Int×List Int)⊕(Int×List Int)) :=
 cond (decide (i5<(l.length:Int)))
 ((ix l.length i5).bind λj16 =>
 (l[j16]?).bind λx =>
 let ls:List Int:=l.set j16 (IntKind.u8.wrap (k1_1))
 some (.inl (oT (k1_1+1),oT (i5+1),ls)))
 (some (.inr (k1_1,l)))
def bA (a0:List Int) (k1:Int):Option ((List Int)×Int) :=
 (loop (λz=>d7 z.1 z.2.1 z.2.2) (k1,0,a0)).bind λd =>
 some (d.2,d.1)
def wg:sY:=⟨false,rQ,λa k=>bA a k⟩
def wh:List (Nat×p3):=[(0,⟨⟨[(1,false,[dI]),(5,false,[dI])],[(1,.tree (.one (.int .u8)))]⟩,
 ⟨[(1,false,[dI])],[(1,.tree (.one (.int .u8)))]⟩,none⟩)]
theorem A0:sL ⟨tis,a9,yd,true⟩ wh Tryz.f122 (qN Tryz.f122) false rQ=λa k=>bA a k:=by kernel_rfl
theorem A1:r7 Tryz.prog 122 wg:=by
 have h:=tG (ann:=wh) (agg:=false) (cs:=rQ) IY va Tryz.func122 (by kernel_rfl) (by kernel_rfl:Tryz.f122.body=some (qN Tryz.f122));rw[A0]at h;exact h
def wV:List (FuncId×sY):=(122,wg)::yd
theorem FK:∀f M,oS wV f=some M->r7 Tryz.prog f M:=sq H4 A1
theorem Ie:rp Tryz.prog ⟨tis,a9,wV,true⟩:=aE.trees FK
def d8 (i1:Int) (t5:Int) (l:List Act):Option ((Int×Int×List Act)⊕(Int×List Act)) :=
 cond (decide (t5<(l.length:Int)))
 ((ix l.length t5).bind λj15 =>
 (l[j15]?).bind λx =>
 let ls:List Act:=l.set j15 (i1,x.2.1,x.2.2.1,x.2.2.2.1,x.2.2.2.2.1,x.2.2.2.2.2.1,x.2.2.2.2.2.2.1,x.2.2.2.2.2.2.2.1,x.2.2.2.2.2.2.2.2.1,x.2.2.2.2.2.2.2.2.2.1,x.2.2.2.2.2.2.2.2.2.2.1,x.2.2.2.2.2.2.2.2.2.2.2.1,x.2.2.2.2.2.2.2.2.2.2.2.2)
 (ix ls.length t5).bind λj22 =>
 (ls[j22]?).bind λx_1 =>
 let ls_1:List Act:=ls.set j22 (x_1.1,oT (i1+1),x_1.2.2.1,x_1.2.2.2.1,x_1.2.2.2.2.1,x_1.2.2.2.2.2.1,x_1.2.2.2.2.2.2.1,x_1.2.2.2.2.2.2.2.1,x_1.2.2.2.2.2.2.2.2.1,x_1.2.2.2.2.2.2.2.2.2.1,x_1.2.2.2.2.2.2.2.2.2.2.1,x_1.2.2.2.2.2.2.2.2.2.2.2.1,x_1.2.2.2.2.2.2.2.2.2.2.2.2)
 (ix ls_1.length t5).bind λj31 =>
 (ls_1[j31]?).bind λx_2 =>
 let ls_2:List Act:=ls_1.set j31 (x_2.1,x_2.2.1,((oT ((oT (i1+1))+1)).tmod 3)==0,x_2.2.2.2.1,x_2.2.2.2.2.1,x_2.2.2.2.2.2.1,x_2.2.2.2.2.2.2.1,x_2.2.2.2.2.2.2.2.1,x_2.2.2.2.2.2.2.2.2.1,x_2.2.2.2.2.2.2.2.2.2.1,x_2.2.2.2.2.2.2.2.2.2.2.1,x_2.2.2.2.2.2.2.2.2.2.2.2.1,x_2.2.2.2.2.2.2.2.2.2.2.2.2)
 let i1_1:=oT ((oT ((oT (i1+1))+1))+1)
 (ix ls_2.length t5).bind λj37 =>
 (ls_2[j37]?).bind λx39 =>
 (ls_2[j37]?).bind λx_3 =>
 (bA x_3.2.2.2.1 i1_1).bind λz =>
 let ls_3:List Act:=ls_2.set j37 (x_3.1,x_3.2.1,x_3.2.2.1,z.1,x_3.2.2.2.2.1,x_3.2.2.2.2.2.1,x_3.2.2.2.2.2.2.1,x_3.2.2.2.2.2.2.2.1,x_3.2.2.2.2.2.2.2.2.1,x_3.2.2.2.2.2.2.2.2.2.1,x_3.2.2.2.2.2.2.2.2.2.2.1,x_3.2.2.2.2.2.2.2.2.2.2.2.1,x_3.2.2.2.2.2.2.2.2.2.2.2.2)
 (ix ls_3.length t5).bind λj45 =>
 (ls_3[j45]?).bind λx_4 =>
 let ls_4:List Act:=ls_3.set j45 (x_4.1,x_4.2.1,x_4.2.2.1,x_4.2.2.2.1,z.2,x_4.2.2.2.2.2.1,x_4.2.2.2.2.2.2.1,x_4.2.2.2.2.2.2.2.1,x_4.2.2.2.2.2.2.2.2.1,x_4.2.2.2.2.2.2.2.2.2.1,x_4.2.2.2.2.2.2.2.2.2.2.1,x_4.2.2.2.2.2.2.2.2.2.2.2.1,x_4.2.2.2.2.2.2.2.2.2.2.2.2)
 (ix ls_4.length t5).bind λj53 =>
 (ls_4[j53]?).bind λx_5 =>
 let ls_5:List Act:=ls_4.set j53 (x_5.1,x_5.2.1,x_5.2.2.1,x_5.2.2.2.1,x_5.2.2.2.2.1,oT (z.2+1),x_5.2.2.2.2.2.2.1,x_5.2.2.2.2.2.2.2.1,x_5.2.2.2.2.2.2.2.2.1,x_5.2.2.2.2.2.2.2.2.2.1,x_5.2.2.2.2.2.2.2.2.2.2.1,x_5.2.2.2.2.2.2.2.2.2.2.2.1,x_5.2.2.2.2.2.2.2.2.2.2.2.2)
 let i1_2:=oT ((oT (z.2+1))+1)
 (ix ls_5.length t5).bind λj61 =>
 (ls_5[j61]?).bind λx_6 =>
 let ls_6:List Act:=ls_5.set j61 (x_6.1,x_6.2.1,x_6.2.2.1,x_6.2.2.2.1,x_6.2.2.2.2.1,x_6.2.2.2.2.2.1,i1_2,x_6.2.2.2.2.2.2.2.1,x_6.2.2.2.2.2.2.2.2.1,x_6.2.2.2.2.2.2.2.2.2.1,x_6.2.2.2.2.2.2.2.2.2.2.1,x_6.2.2.2.2.2.2.2.2.2.2.2.1,x_6.2.2.2.2.2.2.2.2.2.2.2.2)
 (ix ls_6.length t5).bind λj68 =>
 (ls_6[j68]?).bind λx71 =>
 (ls_6[j68]?).bind λx_7 =>
 (bA x_7.2.2.2.2.2.2.2.1 (oT (i1_2+1))).bind λz_1 =>
 let ls_7:List Act:=ls_6.set j68 (x_7.1,x_7.2.1,x_7.2.2.1,x_7.2.2.2.1,x_7.2.2.2.2.1,x_7.2.2.2.2.2.1,x_7.2.2.2.2.2.2.1,z_1.1,x_7.2.2.2.2.2.2.2.2.1,x_7.2.2.2.2.2.2.2.2.2.1,x_7.2.2.2.2.2.2.2.2.2.2.1,x_7.2.2.2.2.2.2.2.2.2.2.2.1,x_7.2.2.2.2.2.2.2.2.2.2.2.2)
 (ix ls_7.length t5).bind λj77 =>
 (ls_7[j77]?).bind λx_8 =>
 let ls_8:List Act:=ls_7.set j77 (x_8.1,x_8.2.1,x_8.2.2.1,x_8.2.2.2.1,x_8.2.2.2.2.1,x_8.2.2.2.2.2.1,x_8.2.2.2.2.2.2.1,x_8.2.2.2.2.2.2.2.1,z_1.2,x_8.2.2.2.2.2.2.2.2.2.1,x_8.2.2.2.2.2.2.2.2.2.2.1,x_8.2.2.2.2.2.2.2.2.2.2.2.1,x_8.2.2.2.2.2.2.2.2.2.2.2.2)
 (ix ls_8.length t5).bind λj85 =>
 (ls_8[j85]?).bind λx_9 =>
 let ls_9:List Act:=ls_8.set j85 (x_9.1,x_9.2.1,x_9.2.2.1,x_9.2.2.2.1,x_9.2.2.2.2.1,x_9.2.2.2.2.2.1,x_9.2.2.2.2.2.2.1,x_9.2.2.2.2.2.2.2.1,x_9.2.2.2.2.2.2.2.2.1,oT (z_1.2+1),x_9.2.2.2.2.2.2.2.2.2.2.1,x_9.2.2.2.2.2.2.2.2.2.2.2.1,x_9.2.2.2.2.2.2.2.2.2.2.2.2)
 let i1_3:=oT ((oT (z_1.2+1))+1)
 (ix ls_9.length t5).bind λj93 =>
 (ls_9[j93]?).bind λx_10 =>
 let ls_10:List Act:=ls_9.set j93 (x_10.1,x_10.2.1,x_10.2.2.1,x_10.2.2.2.1,x_10.2.2.2.2.1,x_10.2.2.2.2.2.1,x_10.2.2.2.2.2.2.1,x_10.2.2.2.2.2.2.2.1,x_10.2.2.2.2.2.2.2.2.1,x_10.2.2.2.2.2.2.2.2.2.1,i1_3,x_10.2.2.2.2.2.2.2.2.2.2.2.1,x_10.2.2.2.2.2.2.2.2.2.2.2.2)
 (ix ls_10.length t5).bind λj101 =>
 (ls_10[j101]?).bind λx_11 =>
 let ls_11:List Act:=ls_10.set j101 (x_11.1,x_11.2.1,x_11.2.2.1,x_11.2.2.2.1,x_11.2.2.2.2.1,x_11.2.2.2.2.2.1,x_11.2.2.2.2.2.2.1,x_11.2.2.2.2.2.2.2.1,x_11.2.2.2.2.2.2.2.2.1,x_11.2.2.2.2.2.2.2.2.2.1,x_11.2.2.2.2.2.2.2.2.2.2.1,oT (i1_3+1),x_11.2.2.2.2.2.2.2.2.2.2.2.2)
 let i1_4:=oT ((oT (i1_3+1))+1)
 (ix ls_11.length t5).bind λj109 =>
 (ls_11[j109]?).bind λx_12 =>
 let ls_12:List Act:=ls_11.set j109 (x_12.1,x_12.2.1,x_12.2.2.1,x_12.2.2.2.1,x_12.2.2.2.2.1,x_12.2.2.2.2.2.1,x_12.2.2.2.2.2.2.1,x_12.2.2.2.2.2.2.2.1,x_12.2.2.2.2.2.2.2.2.1,x_12.2.2.2.2.2.2.2.2.2.1,x_12.2.2.2.2.2.2.2.2.2.2.1,x_12.2.2.2.2.2.2.2.2.2.2.2.1,i1_4)
 some (.inl (oT (i1_4+1),oT (t5+1),ls_12)))
 (some (.inr (i1,l)))
def ch (a0:List Act) (k1:Int):Option ((List Act)×Int) :=
 (loop (λz=>d8 z.1 z.2.1 z.2.2) (k1,0,a0)).bind λd =>
 some (d.2,d.1)
def wW:sY:=⟨false,(.one (.sl qF)),λa k=>ch a k⟩
def wX:List (Nat×p3):=[(0,⟨⟨[(1,false,[dI]),(5,false,[dI])],[(1,.tree qF)]⟩,
 ⟨[(1,false,[dI])],[(1,.tree qF)]⟩,none⟩)]
theorem AN:sL ⟨tis,a9,wV,true⟩ wX Tryz.f35 (qN Tryz.f35) false (.one (.sl qF))=λa k=>ch a k:=by kernel_rfl
theorem AO:r7 Tryz.prog 35 wW:=by
 have h:=tG (ann:=wX) (agg:=false) (cs:=(.one (.sl qF))) Ie va Tryz.func35 (by kernel_rfl) (by kernel_rfl:Tryz.f35.body=some (qN Tryz.f35));rw[AN]at h;exact h
def A2:List (FuncId×sY):=(35,wW)::wV
theorem IZ:∀f M,oS A2 f=some M->r7 Tryz.prog f M:=sq FK AO
theorem J0:rp Tryz.prog ⟨tis,a9,A2,true⟩:=aE.trees IZ
def rD (p0:oU) (i1:List Act):Option Bool :=
 (dY p0 1048576).bind λt16 =>
 cond (decide (t16<0))
 (some true)
 ((dZ i1 t16).bind λt21 =>
 cond (decide (t21<0))
 (some true)
 ((bb p0).bind λt25 =>
 (bB i1).bind λt27 =>
 (d9 t25 t27).bind λt28 =>
 (bb p0).bind λt30 =>
 (bB i1).bind λt32 =>
 (bU t30 t32).bind λt35 =>
 (ba t35 t28).bind λt38 =>
 cond (!t38)
 (some false)
 ((bb p0).bind λt42 =>
 (ba t30 t42).bind λt43 =>
 cond (!t43)
 (some false)
 ((bB i1).bind λt47 =>
 (dW t32 t47).bind λt48 =>
 cond (!t48)
 (some false)
 ((bz t30 1).bind λz =>
 (ch t32 z.2).bind λz_1 =>
 (cond (decide (z_1.2<0))
 (some true)
 ((ba t35 t28).bind λt61 =>
 some (!t61))).bind λt63 =>
 cond t63
 (some false)
 ((bz t35 1).bind λz_2 =>
 (cb (t35.1,t35.2.1,z_2.1.2.2.1,z_2.1.2.2.2.1,z_2.1.2.2.2.2.1,z_2.1.2.2.2.2.2.1,t35.2.2.2.2.2.2.1,t35.2.2.2.2.2.2.2.1,t35.2.2.2.2.2.2.2.2.1,t35.2.2.2.2.2.2.2.2.2.1,t35.2.2.2.2.2.2.2.2.2.2) 1).bind λt69 =>
 cond (decide (t69<0))
 (some false)
 (cond (t69 != z_2.2)
 (some false)
 ((bb p0).bind λt76 =>
 (bB i1).bind λt78 =>
 (bU t76 t78).bind λt79 =>
 (ba t79 t28).bind λt82 =>
 cond (!t82)
 (some false)
 ((cb (t35.1,t35.2.1,z_2.1.2.2.1,z_2.1.2.2.2.1,z_2.1.2.2.2.2.1,z_2.1.2.2.2.2.2.1,t35.2.2.2.2.2.2.1,t35.2.2.2.2.2.2.2.1,t35.2.2.2.2.2.2.2.2.1,t35.2.2.2.2.2.2.2.2.2.1,t35.2.2.2.2.2.2.2.2.2.2) 1).bind λt86 =>
 cond (decide (t86<0)) (some false) (cond (t86 != z_2.2) (some false) (some true)))))))))))
def wi:Fn:=⟨[.val true p9 false,.val false (.one (.sl qF)) false],[.val false pN (some true)],λa=>rD a.1 a.2⟩
theorem wj:za ⟨tis,a9,A2,true⟩ [] Tryz.f5 (qN Tryz.f5) [.val true p9 false,.val false (.one (.sl qF)) false] [.val false pN (some true)]=λa=>rD a.1 a.2:=by kernel_rfl
theorem m_laws_FnExactBridgeOnly:vC Tryz.prog 5 wi:=by
 have h:=CC (ann:=[]) (ps:=[.val true p9 false,.val false (.one (.sl qF)) false]) (rs:=[.val false pN (some true)]) J0 va Tryz.func5 (by kernel_rfl) (by kernel_rfl:Tryz.f5.body=some (qN Tryz.f5));rw[wj]at h;exact h
end
end Go.V.W

