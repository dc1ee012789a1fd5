/- The law FnExactWork: part of the proof that for every input it returns true. No condition. -/
import Derived.Test.YthcdcolihokdmaaGreatFnExactWorkP1
set_option linter.unusedVariables false
set_option linter.unusedSimpArgs false
namespace Go.V.W
open Go.Proofs
noncomputable section
def iR (p0:um) (t35_1:Int):Option (Int⊕(Unit⊕Bool)) :=
 cond (decide (t35_1<(p0.2.2.2.2.length:Int)))
 ((at? p0.2.2.2.2 t35_1).bind λx38_1 =>
 (cond (decide (t35_1>=10))
 (some true)
 ((ah x38_1.1).bind λt45_1 =>
 some (!t45_1))).bind λt47_1 =>
 (cond t47_1
 (some true)
 ((ai x38_1.2).bind λt51_1 =>
 some (!t51_1))).bind λt53_1 =>
 cond t53_1 (some (.inr (.inr false))) (some (.inl (tP (t35_1+1)))))
 (some (.inr (.inl ())))
def iS (p0:um) (t35_2:Int):Option (Int⊕(Unit⊕Bool)) :=
 cond (decide (t35_2<(p0.2.2.2.2.length:Int)))
 ((at? p0.2.2.2.2 t35_2).bind λx38_2 =>
 (cond (decide (t35_2>=10))
 (some true)
 ((ah x38_2.1).bind λt45_2 =>
 some (!t45_2))).bind λt47_2 =>
 (cond t47_2
 (some true)
 ((ai x38_2.2).bind λt51_2 =>
 some (!t51_2))).bind λt53_2 =>
 cond t53_2 (some (.inr (.inr false))) (some (.inl (tP (t35_2+1)))))
 (some (.inr (.inl ())))
def iT (p0:um) (t35_3:Int):Option (Int⊕(Unit⊕Bool)) :=
 cond (decide (t35_3<(p0.2.2.2.2.length:Int)))
 ((at? p0.2.2.2.2 t35_3).bind λx38_3 =>
 (cond (decide (t35_3>=10))
 (some true)
 ((ah x38_3.1).bind λt45_3 =>
 some (!t45_3))).bind λt47_3 =>
 (cond t47_3
 (some true)
 ((ai x38_3.2).bind λt51_3 =>
 some (!t51_3))).bind λt53_3 =>
 cond t53_3 (some (.inr (.inr false))) (some (.inl (tP (t35_3+1)))))
 (some (.inr (.inl ())))
def iU (p0:um) (t35_4:Int):Option (Int⊕(Unit⊕Bool)) :=
 cond (decide (t35_4<(p0.2.2.2.2.length:Int)))
 ((at? p0.2.2.2.2 t35_4).bind λx38_4 =>
 (cond (decide (t35_4>=10))
 (some true)
 ((ah x38_4.1).bind λt45_4 =>
 some (!t45_4))).bind λt47_4 =>
 (cond t47_4
 (some true)
 ((ai x38_4.2).bind λt51_4 =>
 some (!t51_4))).bind λt53_4 =>
 cond t53_4 (some (.inr (.inr false))) (some (.inl (tP (t35_4+1)))))
 (some (.inr (.inl ())))
def iV (p0:um) (t35_5:Int):Option (Int⊕(Unit⊕Bool)) :=
 cond (decide (t35_5<(p0.2.2.2.2.length:Int)))
 ((at? p0.2.2.2.2 t35_5).bind λx38_5 =>
 (cond (decide (t35_5>=10))
 (some true)
 ((ah x38_5.1).bind λt45_5 =>
 some (!t45_5))).bind λt47_5 =>
 (cond t47_5
 (some true)
 ((ai x38_5.2).bind λt51_5 =>
 some (!t51_5))).bind λt53_5 =>
 cond t53_5 (some (.inr (.inr false))) (some (.inl (tP (t35_5+1)))))
 (some (.inr (.inl ())))
def iW (p0:um) (t35_6:Int):Option (Int⊕(Unit⊕Bool)) :=
 cond (decide (t35_6<(p0.2.2.2.2.length:Int)))
 ((at? p0.2.2.2.2 t35_6).bind λx38_6 =>
 (cond (decide (t35_6>=10))
 (some true)
 ((ah x38_6.1).bind λt45_6 =>
 some (!t45_6))).bind λt47_6 =>
 (cond t47_6
 (some true)
 ((ai x38_6.2).bind λt51_6 =>
 some (!t51_6))).bind λt53_6 =>
 cond t53_6 (some (.inr (.inr false))) (some (.inl (tP (t35_6+1)))))
 (some (.inr (.inl ())))
def iX (p0:um) (t35_7:Int):Option (Int⊕(Unit⊕Bool)) :=
 cond (decide (t35_7<(p0.2.2.2.2.length:Int)))
 ((at? p0.2.2.2.2 t35_7).bind λx38_7 =>
 (cond (decide (t35_7>=10))
 (some true)
 ((ah x38_7.1).bind λt45_7 =>
 some (!t45_7))).bind λt47_7 =>
 (cond t47_7
 (some true)
 ((ai x38_7.2).bind λt51_7 =>
 some (!t51_7))).bind λt53_7 =>
 cond t53_7 (some (.inr (.inr false))) (some (.inl (tP (t35_7+1)))))
 (some (.inr (.inl ())))
def iY (p0:um) (t35_8:Int):Option (Int⊕(Unit⊕Bool)) :=
 cond (decide (t35_8<(p0.2.2.2.2.length:Int)))
 ((at? p0.2.2.2.2 t35_8).bind λx38_8 =>
 (cond (decide (t35_8>=10))
 (some true)
 ((ah x38_8.1).bind λt45_8 =>
 some (!t45_8))).bind λt47_8 =>
 (cond t47_8
 (some true)
 ((ai x38_8.2).bind λt51_8 =>
 some (!t51_8))).bind λt53_8 =>
 cond t53_8 (some (.inr (.inr false))) (some (.inl (tP (t35_8+1)))))
 (some (.inr (.inl ())))
def bL (p0:um):Option Bool :=
 cond (p0.1==160)
 (cond (p0.1==160)
 ((cond (p0.2.2.1 != 0) (some true) (some (p0.2.2.2.1 != 0))).bind λt18 =>
 cond t18
 (some false)
 ((loop (λz=>eT p0 z) 0).bind (Sum.elim (λd =>
 (av p0.2.1).bind λt57 =>
 some t57) (λr=>some r))))
 (cond (p0.1==162)
 (cond (p0.1==162)
 ((aa p0.2.2.1 0 1000).bind λt24 =>
 (cond (!t24)
 (some true)
 ((aa p0.2.2.2.1 0 1000).bind λt29 =>
 some (!t29))).bind λt31 =>
 cond t31
 (some false)
 ((loop (λz=>iR p0 z) 0).bind (Sum.elim (λd_1 =>
 (av p0.2.1).bind λt57_1 =>
 some t57_1) (λr_1=>some r_1))))
 (some false))
 (cond (p0.1==165)
 ((aa p0.2.2.1 0 1000).bind λt24_1 =>
 (cond (!t24_1)
 (some true)
 ((aa p0.2.2.2.1 0 1000).bind λt29_1 =>
 some (!t29_1))).bind λt31_1 =>
 cond t31_1
 (some false)
 ((loop (λz=>iS p0 z) 0).bind (Sum.elim (λd_2 =>
 (av p0.2.1).bind λt57_2 =>
 some t57_2) (λr_2=>some r_2))))
 (some false))))
 (cond (p0.1==161)
 (cond (p0.1==161)
 ((cond (p0.2.2.1 != 0) (some true) (some (p0.2.2.2.1 != 0))).bind λt18_1 =>
 cond t18_1
 (some false)
 ((loop (λz=>iT p0 z) 0).bind (Sum.elim (λd_3 =>
 (av p0.2.1).bind λt57_3 =>
 some t57_3) (λr_3=>some r_3))))
 (cond (p0.1==162)
 (cond (p0.1==162)
 ((aa p0.2.2.1 0 1000).bind λt24_2 =>
 (cond (!t24_2)
 (some true)
 ((aa p0.2.2.2.1 0 1000).bind λt29_2 =>
 some (!t29_2))).bind λt31_2 =>
 cond t31_2
 (some false)
 ((loop (λz=>iU p0 z) 0).bind (Sum.elim (λd_4 =>
 (av p0.2.1).bind λt57_4 =>
 some t57_4) (λr_4=>some r_4))))
 (some false))
 (cond (p0.1==165)
 ((aa p0.2.2.1 0 1000).bind λt24_3 =>
 (cond (!t24_3)
 (some true)
 ((aa p0.2.2.2.1 0 1000).bind λt29_3 =>
 some (!t29_3))).bind λt31_3 =>
 cond t31_3
 (some false)
 ((loop (λz=>iV p0 z) 0).bind (Sum.elim (λd_5 =>
 (av p0.2.1).bind λt57_5 =>
 some t57_5) (λr_5=>some r_5))))
 (some false))))
 (cond (p0.1==163)
 ((cond (p0.2.2.1 != 0) (some true) (some (p0.2.2.2.1 != 0))).bind λt18_2 =>
 cond t18_2
 (some false)
 ((loop (λz=>iW p0 z) 0).bind (Sum.elim (λd_6 =>
 (av p0.2.1).bind λt57_6 =>
 some t57_6) (λr_6=>some r_6))))
 (cond (p0.1==162)
 (cond (p0.1==162)
 ((aa p0.2.2.1 0 1000).bind λt24_4 =>
 (cond (!t24_4)
 (some true)
 ((aa p0.2.2.2.1 0 1000).bind λt29_4 =>
 some (!t29_4))).bind λt31_4 =>
 cond t31_4
 (some false)
 ((loop (λz=>iX p0 z) 0).bind (Sum.elim (λd_7 =>
 (av p0.2.1).bind λt57_7 =>
 some t57_7) (λr_7=>some r_7))))
 (some false))
 (cond (p0.1==165)
 ((aa p0.2.2.1 0 1000).bind λt24_5 =>
 (cond (!t24_5)
 (some true)
 ((aa p0.2.2.2.1 0 1000).bind λt29_5 =>
 some (!t29_5))).bind λt31_5 =>
 cond t31_5
 (some false)
 ((loop (λz=>iY p0 z) 0).bind (Sum.elim (λd_8 =>
 (av p0.2.1).bind λt57_8 =>
 some t57_8) (λr_8=>some r_8))))
 (some false)))))
def iZ:FL:=(227,⟨[.val true vT false],[.val false uD (some true)],λa=>bL a⟩)::ja
theorem oc:Gd iZ:=tX od 227 Tryz.f227 [(1,⟨⟨(35,false,[dI])::us 43 4 (us 49 4 []),[]⟩,
 ⟨[],[]⟩,some ⟨[(2,false,[dB])],[]⟩⟩)] Tryz.func227
def dl (j0:ur):Option Bool :=
 (aa j0.2.2.1 0 2).bind λt5 =>
 (cond (!t5)
 (some true)
 ((aa j0.2.2.2.2.2.2.2.2.2.2.2.2.2.2.2.2.2.2.2.1 0 (j0.2.2.2.2.2.2.2.1.length:Int)).bind λt14 =>
 some (!t14))).bind λt16 =>
 (cond t16
 (some true)
 ((aa j0.2.2.2.2.2.2.2.2.2.2.2.2.2.2.2.2.2.2.2.2 0 3).bind λt20 =>
 some (!t20))).bind λt22 =>
 cond t22
 (some false)
 ((cond (j0.2.2.1==0)
 (some true)
 ((bL (j0.2.2.2.1,j0.2.2.2.2.1,j0.2.2.2.2.2.1,j0.2.2.2.2.2.2.1,j0.2.2.2.2.2.2.2.1)).bind λt29 =>
 (cond t29 (some (j0.2.2.2.1 != 162)) (some false)).bind λt35 =>
 (cond t35
 ((aM (j0.2.2.2.2.2.2.2.2.1,j0.2.2.2.2.2.2.2.2.2.1,j0.2.2.2.2.2.2.2.2.2.2.1,j0.2.2.2.2.2.2.2.2.2.2.2.1,j0.2.2.2.2.2.2.2.2.2.2.2.2.1,j0.2.2.2.2.2.2.2.2.2.2.2.2.2.1,j0.2.2.2.2.2.2.2.2.2.2.2.2.2.2.1,j0.2.2.2.2.2.2.2.2.2.2.2.2.2.2.2.1,j0.2.2.2.2.2.2.2.2.2.2.2.2.2.2.2.2.1,j0.2.2.2.2.2.2.2.2.2.2.2.2.2.2.2.2.2.1,j0.2.2.2.2.2.2.2.2.2.2.2.2.2.2.2.2.2.2.1)).bind λt39 =>
 some t39)
 (some false)).bind λt40 =>
 some t40)).bind λt41 =>
 some t41)
def jb:FL:=(147,⟨[.val true vU false],[.val false uD (some true)],λa=>dl a⟩)::iZ
theorem oe:Gd jb:=tX oc 147 Tryz.f147 [] Tryz.func147
def gK (p0:ue) (t36:Int):Option (Int⊕(Unit⊕Bool)) :=
 cond (decide (t36<(p0.2.2.2.2.2.2.2.2.2.2.2.2.1.length:Int)))
 ((at? p0.2.2.2.2.2.2.2.2.2.2.2.2.1 t36).bind λx39 =>
 (aa x39.1 1 p0.2.2.2.2.2.2.2.2.2.2.2.2.2.2).bind λt45 =>
 (cond (!t45)
 (some true)
 ((cond (decide (t36>0))
 ((at? p0.2.2.2.2.2.2.2.2.2.2.2.2.1 (tP (t36-1))).bind λx55 =>
 some (decide (x55.1>=x39.1)))
 (some false)).bind λt61 =>
 some t61)).bind λt62 =>
 (cond t62
 (some true)
 ((dl x39).bind λt65 =>
 some (!t65))).bind λt67 =>
 cond t67 (some (.inr (.inr false))) (some (.inl (tP (t36+1)))))
 (some (.inr (.inl ())))
def eU (p0:ue):Option Bool :=
 (aM (p0.1,p0.2.1,p0.2.2.1,p0.2.2.2.1,p0.2.2.2.2.1,p0.2.2.2.2.2.1,p0.2.2.2.2.2.2.1,p0.2.2.2.2.2.2.2.1,p0.2.2.2.2.2.2.2.2.1,p0.2.2.2.2.2.2.2.2.2.1,p0.2.2.2.2.2.2.2.2.2.2.1)).bind λt7 =>
 (cond (!t7)
 (some true)
 (some (decide ((p0.2.2.2.2.2.2.2.2.2.2.2.1.length:Int)>20)))).bind λt14 =>
 (cond t14
 (some true)
 (some (decide ((p0.2.2.2.2.2.2.2.2.2.2.2.2.1.length:Int)>6)))).bind λt20 =>
 (cond t20
 (some true)
 ((aN p0.2.2.2.2.2.2.2.2.2.2.2.2.2.1).bind λt24 =>
 some (!t24))).bind λt26 =>
 (cond t26
 (some true)
 ((aN p0.2.2.2.2.2.2.2.2.2.2.2.2.2.2).bind λt30 =>
 some (!t30))).bind λt32 =>
 cond t32
 (some false)
 ((loop (λz=>gK p0 z) 0).bind (Sum.elim (λd =>
 some true) (λr=>some r)))
def jc:FL:=(73,⟨[.val true uN false],[.val false uD (some true)],λa=>eU a⟩)::jb
theorem og:Gd jc:=tX oe 73 Tryz.f73 [(0,⟨⟨(36,false,[dI])::us 48 14 (us 64 3 []),[]⟩,
 ⟨[],[]⟩,some ⟨[(2,false,[dB])],[]⟩⟩)] Tryz.func73
def bM (p0:List Int) (i1:Int):Option (Int×(List Int)×Int×Bool) :=
 (cond (decide (i1<0)) (some true) (some (decide (i1>(tP ((p0.length:Int)-2)))))).bind λt18 =>
 cond t18
 (some (0,[],0,false))
 ((at? p0 (tP (i1+1))).bind λx22 =>
 cond (decide ((tP (x22))>=128))
 ((cond ((tP (x22)) != 129) (some true) (some (decide ((tP (i1+2))>=(p0.length:Int))))).bind λt36 =>
 (cond t36
 (some true)
 ((at? p0 (tP (i1+2))).bind λx40 =>
 some (decide (x40<128)))).bind λt43 =>
 cond t43
 (some (0,[],0,false))
 ((at? p0 (tP (i1+2))).bind λx46 =>
 (cond (decide ((tP (x46))>250))
 (some true)
 (some (decide ((tP (x46))>(tP ((p0.length:Int)-(tP ((tP (i1+2))+1)))))))).bind λt60 =>
 cond t60
 (some (0,[],0,false))
 ((at? p0 i1).bind λx63 =>
 (cut p0 (tP ((tP (i1+2))+1)) (tP ((tP ((tP (i1+2))+1))+(tP (x46))))).bind λt71 =>
 (bt t71).bind λt72 =>
 let t6:=tP ((tP ((tP (i1+2))+1))+(tP (x46)))
 some (tP (x63),t72,t6,true))))
 ((cond (decide ((tP (x22))>250))
 (some true)
 (some (decide ((tP (x22))>(tP ((p0.length:Int)-(tP (i1+2)))))))).bind λt60_1 =>
 cond t60_1
 (some (0,[],0,false))
 ((at? p0 i1).bind λx63_1 =>
 (cut p0 (tP (i1+2)) (tP ((tP (i1+2))+(tP (x22))))).bind λt71_1 =>
 (bt t71_1).bind λt72_1 =>
 let t6_1:=tP ((tP (i1+2))+(tP (x22)))
 some (tP (x63_1),t72_1,t6_1,true))))
def jd:FL:=(68,⟨[.val false vd false,.val false tU false],[.val false tU (some true),.val false vd (some true),.val false tU (some true),.val false uD (some true)],λa=>bM a.1 a.2⟩)::jc
theorem oh:Gd jd:=tX og 68 Tryz.f68 [] Tryz.func68
def ba (r0:wa) (tag1:Int):Option (wa×List Int) :=
 (bM r0.1 r0.2.1).bind λt18 =>
 (cond r0.2.2 (some true) (some (!t18.2.2.2))).bind λt30 =>
 (cond t30 (some true) (some (t18.1 != tag1))).bind λt35 =>
 cond t35
 (some ((r0.1,r0.2.1,true),[]))
 (some ((r0.1,t18.2.2.1,r0.2.2),t18.2.1))
def je:FL:=(70,⟨[.ptr yA none,.val false tU false],[.val false vd (some true)],λa=>ba a.1 a.2⟩)::jd
theorem oi:Gd je:=tX oh 70 Tryz.f70 [] Tryz.func70
def aC (n0_1:Int) (k3:Int):Option (Int⊕Int) :=
 (cond (decide (k3<4))
 ((shl .i64 (-1) (tP ((tP (8*k3))-1))).bind λt16 =>
 (shl .i64 1 (tP ((tP (8*k3))-1))).bind λt20 =>
 (aa n0_1 t16 (tP (t20-1))).bind λt22 =>
 some (!t22))
 (some false)).bind λt24 =>
 cond t24 (some (.inl (tP (k3+1)))) (some (.inr k3))
def aw (n0_1:Int) (i5:Int) (out4:List Int):Option ((Int×List Int)⊕(List Int)) :=
 cond (decide (i5>=0))
 ((shr .i64 n0_1 (tP (8*i5))).bind λt37 =>
 (ut out4 [IntKind.u8.wrap (t37)]).bind λzs40 =>
 some (.inl (tP (i5-1),zs40)))
 (some (.inr out4))
def cq (n0:Int):Option (List Int) :=
 let n0_1:=max2 (-2147483648) (min2 n0 2147483647)
 (loop (λz=>aC n0_1 z) 1).bind λd =>
 (loop (λz=>aw n0_1 z.1 z.2) (tP (d-1),[])).bind λd_1 =>
 some d_1
def jf:FL:=(224,⟨[.val false tU false],[.val false vd (some true)],λa=>cq a⟩)::je
theorem oj:Gd jf:=tX oi 224 Tryz.f224 [(0,⟨⟨(3,false,[dI])::us 12 12 [],[]⟩,
 ⟨[(3,false,[dI])],[]⟩,none⟩),
 (2,⟨⟨[(4,false,[.own 1000002000]),(5,false,[dI])],[(1000002000,.root (.one (.int .u8)) true)]⟩,
 ⟨[(4,false,[.own 1000002300])],[(1000002300,.root (.one (.int .u8)) true)]⟩,none⟩)] Tryz.func224
def cr (t17:List Int) (n4_1:Int) (t19:Int):Option ((Int×Int)⊕Int) :=
 cond (decide (t19<(t17.length:Int)))
 ((at? t17 t19).bind λx21 =>
 let n4_2:=B9 .i64 (tP (n4_1*2^8)) (tP (x21))
 some (.inl (n4_2,tP (t19+1))))
 (some (.inr n4_1))
def dp (b0:List Int):Option (Int×Bool) :=
 (aa (b0.length:Int) 1 4).bind λt9 =>
 cond (!t9)
 (some (0,false))
 ((at? b0 0).bind λx12 =>
 let n4:=tP (IntKind.i8.wrap (x12))
 (cut b0 1 (b0.length:Int)).bind λt17 =>
 (loop (λz=>cr t17 z.1 z.2) (n4,0)).bind λd =>
 (cq d).bind λt30 =>
 cond ((t30.length:Int) != (b0.length:Int)) (some (0,false)) (some (d,true)))
def jg:FL:=(139,⟨[.val false vd false],[.val false tU (some true),.val false uD (some true)],λa=>dp a⟩)::jf
theorem om:Gd jg:=tX oj 139 Tryz.f139 [(0,⟨⟨[(4,false,[dI]),(19,false,[dI])],[]⟩,
 ⟨[(4,false,[dI])],[]⟩,none⟩)] Tryz.func139
def bN (r0:wa) (tag1:Int):Option (wa×Int) :=
 (ba r0 tag1).bind λt10 =>
 (dp t10.2).bind λt11 =>
 (cond t10.1.2.2 (some true) (some (!t11.2))).bind λt22 =>
 some ((t10.1.1,t10.1.2.1,t22),t11.1)
def jh:FL:=(69,⟨[.ptr yA none,.val false tU false],[.val false tU (some true)],λa=>bN a.1 a.2⟩)::jg
theorem oo:Gd jh:=tX om 69 Tryz.f69 [] Tryz.func69
def gL (r0:wa):Option (wa×Bool) :=
 (cond (!r0.2.2) (some (r0.2.1==(r0.1.length:Int))) (some false)).bind λt19 =>
 some (r0,t19)
def ji:FL:=(140,⟨[.ptr yA none],[.val false uD (some true)],λa=>gL a⟩)::jh
theorem oq:Gd ji:=tX oo 140 Tryz.f140 [] Tryz.func140
def bu (x14:Int) (k6:Int):Option (Int⊕Int) :=
 (shr .i64 x14 (tP (7*k6))).bind λt19 =>
 cond (decide (t19>127)) (some (.inl (tP (k6+1)))) (some (.inr k6))
def bO (x14:Int) (k6_2:Int) (out3_1:List Int):Option ((Int×List Int)⊕(List Int)) :=
 cond (decide (k6_2>0))
 ((shr .i64 x14 (tP (7*k6_2))).bind λt31 =>
 (ut out3_1 [IntKind.u8.wrap (tP ((yJ .i64 t31 127)+128))]).bind λzs36 =>
 some (.inl (tP (k6_2-1),zs36)))
 (some (.inr out3_1))
def ct (o0:List Int) (t12:Int) (out3:List Int):Option ((Int×List Int)⊕(List Int)) :=
 cond (decide (t12<(o0.length:Int)))
 ((at? o0 t12).bind λx14 =>
 (loop (λz=>bu x14 z) 0).bind λd =>
 (loop (λz=>bO x14 z.1 z.2) (d,out3)).bind λd_1 =>
 (ut d_1 [IntKind.u8.wrap (yJ .i64 x14 127)]).bind λzs42 =>
 some (.inl (tP (t12+1),zs42)))
 (some (.inr out3))
def bP (o0:List Int):Option (List Int) :=
 (ah o0).bind λt8 =>
 cond (!t8)
 (some [])
 ((loop (λz=>ct o0 z.1 z.2) (0,[])).bind λd_2 =>
 some d_2)
def jj:FL:=(231,⟨[.val false vR false],[.val false vd (some true)],λa=>bP a⟩)::ji
theorem ot:Gd jj:=tX oq 231 Tryz.f231 [(0,⟨⟨[(3,false,[.own 1000000000]),(12,false,[dI])],[(1000000000,.root (.one (.int .u8)) true)]⟩,
 ⟨[(3,false,[.own 1000000300])],[(1000000300,.root (.one (.int .u8)) true)]⟩,none⟩),
 (2,⟨⟨[(6,false,[dI])],[]⟩,
 ⟨[(6,false,[dI])],[]⟩,none⟩),
 (4,⟨⟨[(3,false,[.own 1000004000]),(6,false,[dI])],[(1000004000,.root (.one (.int .u8)) true)]⟩,
 ⟨[(3,false,[.own 1000004300])],[(1000004300,.root (.one (.int .u8)) true)]⟩,none⟩)] Tryz.func231
def aq (b0:List Int) (n5:Int) (t11:Int) (out4:List Int):Option ((Int×Int×List Int)⊕((List Int)⊕(Bool×List Int))) :=
 cond (decide (t11<(b0.length:Int)))
 ((at? b0 t11).bind λx14 =>
 cond (decide (t11>=40))
 (some (.inr (.inr (false,[]))))
 (let n5_1:=B9 .i64 (tP ((min2 n5 1048576)*2^7)) (tP (yJ .u8 x14 127))
 cond (decide (x14<128))
 ((ut out4 [n5_1]).bind λzs30 =>
 some (.inl (0,tP (t11+1),zs30)))
 (some (.inl (n5_1,tP (t11+1),out4)))))
 (some (.inr (.inl out4)))
def bv (b0:List Int):Option ((List Int)×Bool) :=
 (loop (λz=>aq b0 z.1 z.2.1 z.2.2) (0,0,[])).bind (Sum.elim (λd =>
 (bP d).bind λt33 =>
 (cond ((t33.length:Int)==0) (some true) (some (!((uT t33)==(uT b0))))).bind λt43 =>
 cond t43 (some ([],false)) (some (d,true))) (λr=>some (r.2,r.1)))
def jk:FL:=(225,⟨[.val false vd false],[.val false vR (some true),.val false uD (some true)],λa=>bv a⟩)::jj
theorem ou:Gd jk:=tX ot 225 Tryz.f225 [(0,⟨⟨[(4,false,[.own 1000000000]),(5,false,[dI]),(11,false,[dI])],[(1000000000,.root tU true)]⟩,
 ⟨[(4,false,[.own 1000000300])],[(1000000300,.root tU true)]⟩,some ⟨[(2,false,[.own 1000000600]),(3,false,[dB])],[(1000000600,.root tU true)]⟩⟩)] Tryz.func225
def eV (b0:List Int) (at1:Int):Option (wJ×Int×Bool) :=
 (bM b0 at1).bind λt15 =>
 cond (!t15.2.2.2)
 (some ((0,0,[],[]),0,false))
 (cond (t15.1==2)
 ((dp t15.2.1).bind λt33 =>
 (cond (!t33.2)
 (some true)
 ((ai (t15.1,t33.1,[],[])).bind λt54 =>
 some (!t54))).bind λt56 =>
 cond t56
 (some ((0,0,[],[]),0,false))
 (some ((t15.1,t33.1,[],[]),t15.2.2.1,true)))
 (cond (t15.1==4)
 ((cond (!t15.2.2.2)
 (some true)
 ((ai (t15.1,0,uT t15.2.1,[])).bind λt54_1 =>
 some (!t54_1))).bind λt56_1 =>
 cond t56_1
 (some ((0,0,[],[]),0,false))
 (some ((t15.1,0,uT t15.2.1,[]),t15.2.2.1,true)))
 (cond (t15.1==6)
 ((bv t15.2.1).bind λt46 =>
 (cond (!t46.2)
 (some true)
 ((ai (t15.1,0,[],t46.1)).bind λt54_2 =>
 some (!t54_2))).bind λt56_2 =>
 cond t56_2
 (some ((0,0,[],[]),0,false))
 (some ((t15.1,0,[],t46.1),t15.2.2.1,true)))
 (let ok10:=(t15.2.1.length:Int)==0
 (cond (!ok10)
 (some true)
 ((ai (t15.1,0,[],[])).bind λt54_3 =>
 some (!t54_3))).bind λt56_3 =>
 cond t56_3
 (some ((0,0,[],[]),0,false))
 (some ((t15.1,0,[],[]),t15.2.2.1,true))))))
def jl:FL:=(226,⟨[.val false vd false,.val false tU false],[.val true xQ (some true),.val false tU (some true),.val false uD (some true)],λa=>eV a.1 a.2⟩)::jk
theorem ov:Gd jl:=tX ou 226 Tryz.f226 [] Tryz.func226
def eW (b0:List Int):Option (tQ×Bool) :=
 (ba (b0,0,false) 6).bind λt15 =>
 (bv t15.2).bind λt16 =>
 (eV b0 t15.1.2.1).bind λt25 =>
 (cond t15.1.2.2 (some true) (some (!t16.2))).bind λt36 =>
 (cond t36 (some true) (some (!t25.2.2))).bind λt40 =>
 (cond t40 (some true) (some (t25.2.1 != (b0.length:Int)))).bind λt46 =>
 cond t46
 (some (([],0,0,[],[]),false))
 (some ((t16.1,t25.1.1,t25.1.2.1,t25.1.2.2.1,t25.1.2.2.2),true))
def jm:FL:=(141,⟨[.val false vd false],[.val true u5 (some true),.val false uD (some true)],λa=>eW a⟩)::jl
theorem ow:Gd jm:=tX ov 141 Tryz.f141 [] Tryz.func141
def bQ (tag0:Int) (body1:List Int):Option ((List Int)×Bool) :=
 (aa tag0 0 255).bind λt8 =>
 (cond (!t8) (some true) (some (decide ((body1.length:Int)>250)))).bind λt14 =>
 cond t14
 (some ([],false))
 (cond (decide ((body1.length:Int)>=128))
 ((ut [IntKind.u8.wrap (tag0)] ([129]:List Int)).bind λzs23 =>
 (ut zs23 [IntKind.u8.wrap ((body1.length:Int))]).bind λzs29 =>
 (ut zs29 body1).bind λzs31 =>
 some (zs31,true))
 ((ut [IntKind.u8.wrap (tag0)] [IntKind.u8.wrap ((body1.length:Int))]).bind λzs29_1 =>
 (ut zs29_1 body1).bind λzs31_1 =>
 some (zs31_1,true)))
def jn:FL:=(228,⟨[.val false tU false,.val false vd false],[.val false vd (some true),.val false uD (some true)],λa=>bQ a.1 a.2⟩)::jm
theorem ox:Gd jn:=tX ow 228 Tryz.f228 [] Tryz.func228
def aO (b0:List Int) (tag1:Int) (body2:List Int):Option (List Int) :=
 (bQ tag1 body2).bind λt12 =>
 (bt b0).bind λt16 =>
 (ut t16 t12.1).bind λzs18 =>
 some zs18
def jo:FL:=(230,⟨[.val false vd false,.val false tU false,.val false vd false],[.val false vd (some true)],λa=>aO a.1 a.2.1 a.2.2⟩)::jn
theorem oy:Gd jo:=tX ox 230 Tryz.f230 [] Tryz.func230
def eX (b0:List Int) (v1:wJ):Option (List Int) :=
 (ai v1).bind λt7 =>
 cond (!t7)
 ((bt b0).bind λt10 =>
 some t10)
 (cond (v1.1==2)
 ((cq v1.2.1).bind λt17 =>
 (aO b0 v1.1 t17).bind λt32 =>
 some t32)
 (cond (v1.1==4)
 ((aO b0 v1.1 (yo v1.2.2.1)).bind λt32_1 =>
 some t32_1)
 (cond (v1.1==6)
 ((bP v1.2.2.2).bind λt27 =>
 (aO b0 v1.1 t27).bind λt32_2 =>
 some t32_2)
 ((aO b0 v1.1 []).bind λt32_3 =>
 some t32_3))))
def jp:FL:=(229,⟨[.val false vd false,.val true xQ false],[.val false vd (some true)],λa=>eX a.1 a.2⟩)::jo
theorem oz:Gd jp:=tX oy 229 Tryz.f229 [] Tryz.func229
def cu (out0:List Int) (tag1:Int) (n2:Int):Option (List Int) :=
 (cq n2).bind λt10 =>
 (aO out0 tag1 t10).bind λt11 =>
 some t11
def jq:FL:=(232,⟨[.val false vd false,.val false tU false,.val false tU false],[.val false vd (some true)],λa=>cu a.1 a.2.1 a.2.2⟩)::jp
theorem oA:Gd jq:=tX oz 232 Tryz.f232 [] Tryz.func232
def cw (p0:um) (t18:Int) (t3:List Int):Option ((Int×List Int)⊕((List Int)⊕(List Int))) :=
 cond (decide (t18<(p0.2.2.2.2.length:Int)))
 ((at? p0.2.2.2.2 t18).bind λx20 =>
 (bP x20.1).bind λt25 =>
 (aO [] 6 t25).bind λt26 =>
 (eX t26 x20.2).bind λt29 =>
 (bQ 48 t29).bind λt30 =>
 cond (!t30.2)
 (some (.inr (.inr [])))
 ((ut t3 t30.1).bind λzs37 =>
 some (.inl (tP (t18+1),zs37))))
 (some (.inr (.inl t3)))
def dq (p0:um):Option (List Int) :=
 (bL p0).bind λt13 =>
 cond (!t13)
 (some [])
 ((loop (λz=>cw p0 z.1 z.2) (0,[])).bind (Sum.elim (λd =>
 (bQ 48 d).bind λt41 =>
 cond (!t41.2)
 (some [])
 ((cu [] 2 p0.2.1).bind λt51 =>
 (cu t51 2 p0.2.2.1).bind λt54 =>
 (cu t54 2 p0.2.2.2.1).bind λt57 =>
 (ut t57 t41.1).bind λzs59 =>
 (bQ p0.1 zs59).bind λt60 =>
 cond (!t60.2) (some []) (some t60.1))) (λr=>some r)))
def jr:FL:=(142,⟨[.val true vT false],[.val false vd (some true)],λa=>dq a⟩)::jq
theorem oB:Gd jr:=tX oA 142 Tryz.f142 [(0,⟨⟨[(3,false,[.own 1000000000]),(18,false,[dI])],[(1000000000,.root (.one (.int .u8)) true)]⟩,
 ⟨[(3,false,[.own 1000000300])],[(1000000300,.root (.one (.int .u8)) true)]⟩,some ⟨[(2,false,[.own 1000000600])],[(1000000600,.root (.one (.int .u8)) true)]⟩⟩)] Tryz.func142
def ax (b0:Int) (b1:Int) (b2:Int) (b3:Int) (b0_1:Int) (b1_1:Int) (b2_1:Int) (b3_1:Int) (b0_2:List Int) (b1_2:Int) (b2_2:Bool) (b4:List tQ) (b4_1:List tQ):Option ((Int×Int×Int×Int×Int×Int×Int×Int×List Int×Int×Bool×List tQ×List tQ)⊕((Int×Int×Int×Int×Int×Int×Int×Int×List Int×Int×Bool×List tQ×List tQ)⊕(Bool×Int×Int×Int×Int×List tQ))) :=
 cond (decide (b1_2<(b0_2.length:Int)))
 ((ba (b0_2,b1_2,b2_2) 48).bind λt64 =>
 (eW t64.2).bind λt65 =>
 (cond (!t65.2) (some true) (some (decide ((b4_1.length:Int)>=10)))).bind λt75 =>
 cond t75
 (some (.inr (.inr (false,0,0,0,0,[]))))
 ((ut b4_1 [t65.1]).bind λzs81 =>
 some (.inl (b0,b1,b2,b3,b0_1,b1_1,b2_1,b3_1,t64.1.1,t64.1.2.1,t64.1.2.2,b4,zs81))))
 (some (.inr (.inl (b0,b1,b2,b3,b0_1,b1_1,b2_1,b3_1,b0_2,b1_2,b2_2,b4,b4_1))))
def eY (p0:List Int):Option (um×Bool) :=
 (bM p0 0).bind λt16 =>
 (cond (!t16.2.2.2) (some true) (some (t16.2.2.1 != (p0.length:Int)))).bind λt28 =>
 cond t28
 (some ((0,0,0,0,[]),false))
 ((bN (t16.2.1,0,false) 2).bind λt36 =>
 (bN t36.1 2).bind λt39 =>
 (bN t39.1 2).bind λt42 =>
 (ba t42.1 48).bind λt45 =>
 (gL t45.1).bind λt49 =>
 cond (!t49.2)
 (some ((0,0,0,0,[]),false))
 ((loop (λz=>ax z.1 z.2.1 z.2.2.1 z.2.2.2.1 z.2.2.2.2.1 z.2.2.2.2.2.1 z.2.2.2.2.2.2.1 z.2.2.2.2.2.2.2.1 z.2.2.2.2.2.2.2.2.1 z.2.2.2.2.2.2.2.2.2.1 z.2.2.2.2.2.2.2.2.2.2.1 z.2.2.2.2.2.2.2.2.2.2.2.1 z.2.2.2.2.2.2.2.2.2.2.2.2) (0,0,0,0,t16.1,t36.2,t39.2,t42.2,t45.2,0,false,[],[])).bind (Sum.elim (λd =>
 (dq (d.2.2.2.2.1,d.2.2.2.2.2.1,d.2.2.2.2.2.2.1,d.2.2.2.2.2.2.2.1,d.2.2.2.2.2.2.2.2.2.2.2.2)).bind λt84 =>
 (cond ((t84.length:Int)==0) (some true) (some (!((uT t84)==(uT p0))))).bind λt94 =>
 cond t94
 (some ((0,0,0,0,[]),false))
 (some ((d.2.2.2.2.1,d.2.2.2.2.2.1,d.2.2.2.2.2.2.1,d.2.2.2.2.2.2.2.1,d.2.2.2.2.2.2.2.2.2.2.2.2),true))) (λr=>some (r.2,r.1)))))
def js:FL:=(71,⟨[.val false vd false],[.val true vT (some true),.val false uD (some true)],λa=>eY a⟩)::jr
theorem oC:Gd js:=tX oB 71 Tryz.f71 [(0,⟨⟨us 71 4 [],[(1024,.box [dI,dI,dI,dI,.own 1000000000]),(1051648,.box [dI,dI,dI,dI,.own 1000000001]),(2363392,.box [.dat (.sl (.one (.int .u8))),dI,dB]),(1000000000,.root u5 true),(1000000001,.root u5 true)]⟩,
 ⟨[],[(1024,.box [dI,dI,dI,dI,.own 1000000300]),(1051648,.box [dI,dI,dI,dI,.own 1000000301]),(2363392,.box [.dat (.sl (.one (.int .u8))),dI,dB]),(1000000300,.root u5 true),(1000000301,.root u5 true)]⟩,some ⟨[(3,false,[dB])],[(1024,.box [dI,dI,dI,dI,.own 1000000600]),(1000000600,.root u5 true)]⟩⟩)] Tryz.func71
def cz (p0:List UInt8) (i1:List Int):Option (um×Int) :=
 (bM i1 0).bind λt17 =>
 (cond (!t17.2.2.2) (some true) (some (t17.1 != 48))).bind λt27 =>
 (cond t27 (some true) (some (t17.2.2.1 != (i1.length:Int)))).bind λt33 =>
 cond t33
 (some ((0,0,0,0,[]),1))
 ((bN (t17.2.1,0,false) 2).bind λt39 =>
 (ba t39.1 4).bind λt41 =>
 cond t41.1.2.2
 (some ((0,0,0,0,[]),1))
 (cond (t39.2 != 1)
 (some ((0,0,0,0,[]),2))
 (cond (!((uT t41.2)==p0))
 (some ((0,0,0,0,[]),3))
 ((cut t17.2.1 t41.1.2.1 (t17.2.1.length:Int)).bind λt64 =>
 (eY t64).bind λt65 =>
 cond (!t65.2) (some ((0,0,0,0,[]),1)) (some (t65.1,0))))))
def jt:FL:=(12,⟨[.val false Pl false,.val false vd false],[.val true vT (some true),.val false tU (some true)],λa=>cz a.1 a.2⟩)::js
theorem oD:Gd jt:=tX oC 12 Tryz.f12 [] Tryz.func12
def bb (n0:Int):Option Int :=
 let t2:=min2 (tP (n0+1)) 1000000
 some t2
def ju:FL:=(76,⟨[.val false tU false],[.val false tU (some true)],λa=>bb a⟩)::jt
theorem oE:Gd ju:=tX oD 76 Tryz.f76 [] Tryz.func76
def bx (a0:ue) (k1:Int):Option ue :=
 (vC a0.2.2.2.2.2.2.2.2.2.2.2.2.1.length 0 k1).bind λp =>
 (vC a0.2.2.2.2.2.2.2.2.2.2.2.2.1.length (tP (k1+1)) (a0.2.2.2.2.2.2.2.2.2.2.2.2.1.length:Int)).bind λp_1 =>
 (EG a0.2.2.2.2.2.2.2.2.2.2.2.2.1 p.1 p.2 p_1.1 p_1.2).bind λzs18 =>
 some (a0.1,a0.2.1,a0.2.2.1,a0.2.2.2.1,a0.2.2.2.2.1,a0.2.2.2.2.2.1,a0.2.2.2.2.2.2.1,a0.2.2.2.2.2.2.2.1,a0.2.2.2.2.2.2.2.2.1,a0.2.2.2.2.2.2.2.2.2.1,a0.2.2.2.2.2.2.2.2.2.2.1,a0.2.2.2.2.2.2.2.2.2.2.2.1,zs18,a0.2.2.2.2.2.2.2.2.2.2.2.2.2.1,a0.2.2.2.2.2.2.2.2.2.2.2.2.2.2)
def jv:FL:=(239,⟨[.ptr uN (some true),.val false tU false],[],λa=>bx a.1 a.2⟩)::ju
theorem oF:Gd jv:=tX oE 239 Tryz.f239 [] Tryz.func239
def dt (a0:ue) (k1:Int):Option ue :=
 (ix a0.2.2.2.2.2.2.2.2.2.2.2.2.1.length k1).bind λj10 =>
 (aj (a0.1,a0.2.1,a0.2.2.1,a0.2.2.2.1,a0.2.2.2.2.1,a0.2.2.2.2.2.1,a0.2.2.2.2.2.2.1,a0.2.2.2.2.2.2.2.1,a0.2.2.2.2.2.2.2.2.1,a0.2.2.2.2.2.2.2.2.2.1,a0.2.2.2.2.2.2.2.2.2.2.1)).bind λt18 =>
 (a0.2.2.2.2.2.2.2.2.2.2.2.2.1[j10]?).bind λx =>
 ((a0.2.2.2.2.2.2.2.2.2.2.2.2.1.set j10 (x.1,x.2.1,1,x.2.2.2.1,x.2.2.2.2.1,x.2.2.2.2.2.1,x.2.2.2.2.2.2.1,x.2.2.2.2.2.2.2.1,x.2.2.2.2.2.2.2.2.1,x.2.2.2.2.2.2.2.2.2.1,x.2.2.2.2.2.2.2.2.2.2.1,x.2.2.2.2.2.2.2.2.2.2.2.1,x.2.2.2.2.2.2.2.2.2.2.2.2.1,x.2.2.2.2.2.2.2.2.2.2.2.2.2.1,x.2.2.2.2.2.2.2.2.2.2.2.2.2.2.1,x.2.2.2.2.2.2.2.2.2.2.2.2.2.2.2.1,x.2.2.2.2.2.2.2.2.2.2.2.2.2.2.2.2.1,x.2.2.2.2.2.2.2.2.2.2.2.2.2.2.2.2.2.1,x.2.2.2.2.2.2.2.2.2.2.2.2.2.2.2.2.2.2.1,x.2.2.2.2.2.2.2.2.2.2.2.2.2.2.2.2.2.2.2.1,x.2.2.2.2.2.2.2.2.2.2.2.2.2.2.2.2.2.2.2.2))[j10]?).bind λx_1 =>
 (((a0.2.2.2.2.2.2.2.2.2.2.2.2.1.set j10 (x.1,x.2.1,1,x.2.2.2.1,x.2.2.2.2.1,x.2.2.2.2.2.1,x.2.2.2.2.2.2.1,x.2.2.2.2.2.2.2.1,x.2.2.2.2.2.2.2.2.1,x.2.2.2.2.2.2.2.2.2.1,x.2.2.2.2.2.2.2.2.2.2.1,x.2.2.2.2.2.2.2.2.2.2.2.1,x.2.2.2.2.2.2.2.2.2.2.2.2.1,x.2.2.2.2.2.2.2.2.2.2.2.2.2.1,x.2.2.2.2.2.2.2.2.2.2.2.2.2.2.1,x.2.2.2.2.2.2.2.2.2.2.2.2.2.2.2.1,x.2.2.2.2.2.2.2.2.2.2.2.2.2.2.2.2.1,x.2.2.2.2.2.2.2.2.2.2.2.2.2.2.2.2.2.1,x.2.2.2.2.2.2.2.2.2.2.2.2.2.2.2.2.2.2.1,x.2.2.2.2.2.2.2.2.2.2.2.2.2.2.2.2.2.2.2.1,x.2.2.2.2.2.2.2.2.2.2.2.2.2.2.2.2.2.2.2.2)).set j10 (x_1.1,x_1.2.1,x_1.2.2.1,x_1.2.2.2.1,x_1.2.2.2.2.1,x_1.2.2.2.2.2.1,x_1.2.2.2.2.2.2.1,x_1.2.2.2.2.2.2.2.1,x_1.2.2.2.2.2.2.2.2.1,x_1.2.2.2.2.2.2.2.2.2.1,x_1.2.2.2.2.2.2.2.2.2.2.1,x_1.2.2.2.2.2.2.2.2.2.2.2.1,x_1.2.2.2.2.2.2.2.2.2.2.2.2.1,x_1.2.2.2.2.2.2.2.2.2.2.2.2.2.1,x_1.2.2.2.2.2.2.2.2.2.2.2.2.2.2.1,x_1.2.2.2.2.2.2.2.2.2.2.2.2.2.2.2.1,x_1.2.2.2.2.2.2.2.2.2.2.2.2.2.2.2.2.1,x_1.2.2.2.2.2.2.2.2.2.2.2.2.2.2.2.2.2.1,x_1.2.2.2.2.2.2.2.2.2.2.2.2.2.2.2.2.2.2.1,0,x_1.2.2.2.2.2.2.2.2.2.2.2.2.2.2.2.2.2.2.2.2))[j10]?).bind λx_2 =>
 some (a0.1,a0.2.1,a0.2.2.1,a0.2.2.2.1,a0.2.2.2.2.1,a0.2.2.2.2.2.1,a0.2.2.2.2.2.2.1,a0.2.2.2.2.2.2.2.1,a0.2.2.2.2.2.2.2.2.1,a0.2.2.2.2.2.2.2.2.2.1,a0.2.2.2.2.2.2.2.2.2.2.1,a0.2.2.2.2.2.2.2.2.2.2.2.1,((a0.2.2.2.2.2.2.2.2.2.2.2.2.1.set j10 (x.1,x.2.1,1,x.2.2.2.1,x.2.2.2.2.1,x.2.2.2.2.2.1,x.2.2.2.2.2.2.1,x.2.2.2.2.2.2.2.1,x.2.2.2.2.2.2.2.2.1,x.2.2.2.2.2.2.2.2.2.1,x.2.2.2.2.2.2.2.2.2.2.1,x.2.2.2.2.2.2.2.2.2.2.2.1,x.2.2.2.2.2.2.2.2.2.2.2.2.1,x.2.2.2.2.2.2.2.2.2.2.2.2.2.1,x.2.2.2.2.2.2.2.2.2.2.2.2.2.2.1,x.2.2.2.2.2.2.2.2.2.2.2.2.2.2.2.1,x.2.2.2.2.2.2.2.2.2.2.2.2.2.2.2.2.1,x.2.2.2.2.2.2.2.2.2.2.2.2.2.2.2.2.2.1,x.2.2.2.2.2.2.2.2.2.2.2.2.2.2.2.2.2.2.1,x.2.2.2.2.2.2.2.2.2.2.2.2.2.2.2.2.2.2.2.1,x.2.2.2.2.2.2.2.2.2.2.2.2.2.2.2.2.2.2.2.2)).set j10 (x_1.1,x_1.2.1,x_1.2.2.1,x_1.2.2.2.1,x_1.2.2.2.2.1,x_1.2.2.2.2.2.1,x_1.2.2.2.2.2.2.1,x_1.2.2.2.2.2.2.2.1,x_1.2.2.2.2.2.2.2.2.1,x_1.2.2.2.2.2.2.2.2.2.1,x_1.2.2.2.2.2.2.2.2.2.2.1,x_1.2.2.2.2.2.2.2.2.2.2.2.1,x_1.2.2.2.2.2.2.2.2.2.2.2.2.1,x_1.2.2.2.2.2.2.2.2.2.2.2.2.2.1,x_1.2.2.2.2.2.2.2.2.2.2.2.2.2.2.1,x_1.2.2.2.2.2.2.2.2.2.2.2.2.2.2.2.1,x_1.2.2.2.2.2.2.2.2.2.2.2.2.2.2.2.2.1,x_1.2.2.2.2.2.2.2.2.2.2.2.2.2.2.2.2.2.1,x_1.2.2.2.2.2.2.2.2.2.2.2.2.2.2.2.2.2.2.1,0,x_1.2.2.2.2.2.2.2.2.2.2.2.2.2.2.2.2.2.2.2.2)).set j10 (x_2.1,x_2.2.1,x_2.2.2.1,x_2.2.2.2.1,x_2.2.2.2.2.1,x_2.2.2.2.2.2.1,x_2.2.2.2.2.2.2.1,x_2.2.2.2.2.2.2.2.1,t18.1,t18.2.1,t18.2.2.1,t18.2.2.2.1,t18.2.2.2.2.1,t18.2.2.2.2.2.1,t18.2.2.2.2.2.2.1,t18.2.2.2.2.2.2.2.1,t18.2.2.2.2.2.2.2.2.1,t18.2.2.2.2.2.2.2.2.2.1,t18.2.2.2.2.2.2.2.2.2.2,x_2.2.2.2.2.2.2.2.2.2.2.2.2.2.2.2.2.2.2.2.1,x_2.2.2.2.2.2.2.2.2.2.2.2.2.2.2.2.2.2.2.2.2),a0.2.2.2.2.2.2.2.2.2.2.2.2.2.1,a0.2.2.2.2.2.2.2.2.2.2.2.2.2.2)
def jw:FL:=(240,⟨[.ptr uN (some true),.val false tU false],[],λa=>dt a.1 a.2⟩)::jv
theorem oG:Gd jw:=tX oF 240 Tryz.f240 [] Tryz.func240
def du (p0:ue) (i1:Int):Option ue :=
 (ix p0.2.2.2.2.2.2.2.2.2.2.2.2.1.length i1).bind λj16 =>
 (p0.2.2.2.2.2.2.2.2.2.2.2.2.1[j16]?).bind λx18 =>
 (cz p0.2.2.2.2.2.2.2.2.2.2.2.1 x18.2.1).bind λt19 =>
 cond (t19.2==3)
 ((bb p0.2.2.2.2.2.2.2.2.1).bind λt42 =>
 (bx (p0.1,p0.2.1,p0.2.2.1,p0.2.2.2.1,p0.2.2.2.2.1,p0.2.2.2.2.2.1,p0.2.2.2.2.2.2.1,p0.2.2.2.2.2.2.2.1,t42,p0.2.2.2.2.2.2.2.2.2.1,p0.2.2.2.2.2.2.2.2.2.2.1,p0.2.2.2.2.2.2.2.2.2.2.2.1,p0.2.2.2.2.2.2.2.2.2.2.2.2.1,p0.2.2.2.2.2.2.2.2.2.2.2.2.2.1,p0.2.2.2.2.2.2.2.2.2.2.2.2.2.2) i1).bind λt48 =>
 some t48)
 ((cond (t19.2 != 0) (some true) (some (t19.1.1==162))).bind λt56 =>
 cond t56
 ((bb p0.2.2.2.2.2.2.2.1).bind λt63 =>
 (bx (p0.1,p0.2.1,p0.2.2.1,p0.2.2.2.1,p0.2.2.2.2.1,p0.2.2.2.2.2.1,p0.2.2.2.2.2.2.1,t63,p0.2.2.2.2.2.2.2.2.1,p0.2.2.2.2.2.2.2.2.2.1,p0.2.2.2.2.2.2.2.2.2.2.1,p0.2.2.2.2.2.2.2.2.2.2.2.1,p0.2.2.2.2.2.2.2.2.2.2.2.2.1,p0.2.2.2.2.2.2.2.2.2.2.2.2.2.1,p0.2.2.2.2.2.2.2.2.2.2.2.2.2.2) i1).bind λt69 =>
 some t69)
 ((ix p0.2.2.2.2.2.2.2.2.2.2.2.2.1.length i1).bind λj28 =>
 (p0.2.2.2.2.2.2.2.2.2.2.2.2.1[j28]?).bind λx =>
 (dt (p0.1,p0.2.1,p0.2.2.1,p0.2.2.2.1,p0.2.2.2.2.1,p0.2.2.2.2.2.1,p0.2.2.2.2.2.2.1,p0.2.2.2.2.2.2.2.1,p0.2.2.2.2.2.2.2.2.1,p0.2.2.2.2.2.2.2.2.2.1,p0.2.2.2.2.2.2.2.2.2.2.1,p0.2.2.2.2.2.2.2.2.2.2.2.1,p0.2.2.2.2.2.2.2.2.2.2.2.2.1.set j28 (x.1,x.2.1,x.2.2.1,t19.1.1,t19.1.2.1,t19.1.2.2.1,t19.1.2.2.2.1,t19.1.2.2.2.2,x.2.2.2.2.2.2.2.2.1,x.2.2.2.2.2.2.2.2.2.1,x.2.2.2.2.2.2.2.2.2.2.1,x.2.2.2.2.2.2.2.2.2.2.2.1,x.2.2.2.2.2.2.2.2.2.2.2.2.1,x.2.2.2.2.2.2.2.2.2.2.2.2.2.1,x.2.2.2.2.2.2.2.2.2.2.2.2.2.2.1,x.2.2.2.2.2.2.2.2.2.2.2.2.2.2.2.1,x.2.2.2.2.2.2.2.2.2.2.2.2.2.2.2.2.1,x.2.2.2.2.2.2.2.2.2.2.2.2.2.2.2.2.2.1,x.2.2.2.2.2.2.2.2.2.2.2.2.2.2.2.2.2.2.1,x.2.2.2.2.2.2.2.2.2.2.2.2.2.2.2.2.2.2.2.1,x.2.2.2.2.2.2.2.2.2.2.2.2.2.2.2.2.2.2.2.2),p0.2.2.2.2.2.2.2.2.2.2.2.2.2.1,p0.2.2.2.2.2.2.2.2.2.2.2.2.2.2) i1).bind λt32 =>
 some t32))
def jx:FL:=(148,⟨[.ptr uN (some true),.val false tU false],[],λa=>du a.1 a.2⟩)::jw
theorem oH:Gd jx:=tX oG 148 Tryz.f148 [] Tryz.func148
def ay (v0:wJ) (name1:List Int):Option tQ :=
 (ut ([1,3,1]:List Int) name1).bind λzs7 =>
 some (zs7,v0.1,v0.2.1,v0.2.2.1,v0.2.2.2)
def jy:FL:=(372,⟨[.val true xQ true,.val false vR false],[.val true u5 (some true)],λa=>ay a.1 a.2⟩)::jx
theorem oI:Gd jy:=tX oH 372 Tryz.f372 [] Tryz.func372
def aI (n0:Int):Option wJ :=
 some (2,n0,[],[])
def jz:FL:=(373,⟨[.val false tU false],[.val true xQ (some true)],λa=>aI a⟩)::jy
theorem oJ:Gd jz:=tX oI 373 Tryz.f373 [] Tryz.func373
def cA (a0:zz) (b1:zz):Option Bool :=
 cond (a0.1 != b1.1)
 (some (decide (a0.1<b1.1)))
 (cond (a0.2.1 != b1.2.1)
 (some (decide (a0.2.1<b1.2.1)))
 (cond (a0.2.2.2.1 != b1.2.2.2.1)
 (let t4:=decide (a0.2.2.2.1<b1.2.2.2.1)
 some t4)
 (let t4_1:=decide (a0.2.2.2.2<b1.2.2.2.2)
 some t4_1)))
def jA:FL:=(361,⟨[.val true yD false,.val true yD false],[.val false uD (some true)],λa=>cA a.1 a.2⟩)::jz
theorem oK:Gd jA:=tX oJ 361 Tryz.f361 [] Tryz.func361
def dv (v0:zz) (cost1:Int):Option (zz×Bool) :=
 (bR v0).bind λt8 =>
 (cond (!t8)
 (some true)
 ((aa cost1 1 1000).bind λt12 =>
 some (!t12))).bind λt14 =>
 cond t14
 (some (v0,false))
 ((bR (v0.1,tP (v0.2.1+cost1),tP (v0.2.2.1+1),v0.2.2.2.1,v0.2.2.2.2)).bind λt27 =>
 cond (!t27)
 (some (v0,false))
 (some ((v0.1,tP (v0.2.1+cost1),tP (v0.2.2.1+1),v0.2.2.2.1,v0.2.2.2.2),true)))
def jC:FL:=(378,⟨[.val true yD false,.val false tU false],[.val true yD (some true),.val false uD (some true)],λa=>dv a.1 a.2⟩)::jA
theorem oL:Gd jC:=tX oK 378 Tryz.f378 [] Tryz.func378
def cB (p0:Int) (i1:List Pt) (t7:Int) (t18:Int) (b0:Int) (b1:Int) (b2:Int) (b3:Int) (b4:Int) (b0_1:Int) (b1_1:Int) (b2_1:Int) (b3_1:Int) (b4_1:Int):Option ((Int×Int×Int×Int×Int×Int×Int×Int×Int×Int×Int×Int)⊕(Int×Int×Int×Int×Int×Int×Int×Int×Int×Int×Int)) :=
 cond (decide (t18<(i1.length:Int)))
 ((at? i1 t18).bind λx21 =>
 (cond (!x21.1) (some true) (some (!x21.2.2.1))).bind λt30 =>
 cond t30
 (some (.inl (t7,tP (t18+1),b0,b1,b2,b3,b4,b0_1,b1_1,b2_1,b3_1,b4_1)))
 ((dv x21.2.2.2 x21.2.1).bind λt36 =>
 (cond t36.2 (some (decide (t36.1.1<p0))) (some false)).bind λt45 =>
 (cond t45
 ((cond (decide (t7<0))
 (some true)
 ((cA t36.1 (b0_1,b1_1,b2_1,b3_1,b4_1)).bind λt52 =>
 some t52)).bind λt53 =>
 some t53)
 (some false)).bind λt54 =>
 cond t54
 (some (.inl (t18,tP (t18+1),t36.1.1,t36.1.2.1,t36.1.2.2.1,p0,0,t36.1.1,t36.1.2.1,t36.1.2.2.1,t36.1.2.2.2.1,t36.1.2.2.2.2)))
 (some (.inl (t7,tP (t18+1),b0,b1,b2,b3,b4,b0_1,b1_1,b2_1,b3_1,b4_1)))))
 (some (.inr (t7,b0,b1,b2,b3,b4,b0_1,b1_1,b2_1,b3_1,b4_1)))
def bc (p0:Int) (i1:List Pt):Option (zz×Int) :=
 (loop (λz=>cB p0 i1 z.1 z.2.1 z.2.2.1 z.2.2.2.1 z.2.2.2.2.1 z.2.2.2.2.2.1 z.2.2.2.2.2.2.1 z.2.2.2.2.2.2.2.1 z.2.2.2.2.2.2.2.2.1 z.2.2.2.2.2.2.2.2.2.1 z.2.2.2.2.2.2.2.2.2.2.1 z.2.2.2.2.2.2.2.2.2.2.2) ((-1),0,p0,0,0,p0,0,0,0,0,0,0)).bind λd =>
 some ((d.2.1,d.2.2.1,d.2.2.2.1,d.2.2.2.2.1,d.2.2.2.2.2.1),d.1)
def jD:FL:=(360,⟨[.val false tU false,.val false (.one (.sl vV)) false],[.val true yD (some true),.val false tU (some true)],λa=>bc a.1 a.2⟩)::jC
theorem oM:Gd jD:=tX oL 360 Tryz.f360 [(0,⟨⟨(7,false,[dI])::(18,false,[dI])::us 27 3 (us 41 4 (us 47 7 [])),[(266240,.box [dI,dI,dI,dI,dI]),(525312,.box [dI,dI,dI,dI,dI])]⟩,
 ⟨[(7,false,[dI])],[(266240,.box [dI,dI,dI,dI,dI]),(525312,.box [dI,dI,dI,dI,dI])]⟩,none⟩)] Tryz.func360
def dw (id0:Int) (l1:List Pt) (port2:Int):Option zz :=
 (bc id0 l1).bind λt12 =>
 some (t12.1.1,t12.1.2.1,t12.1.2.2.1,t12.1.2.2.2.1,port2)
def jE:FL:=(362,⟨[.val false tU false,.val false (.one (.sl vV)) false,.val false tU false],[.val true yD (some true)],λa=>dw a.1 a.2.1 a.2.2⟩)::jD
theorem oN:Gd jE:=tX oM 362 Tryz.f362 [] Tryz.func362
def aD (id0:Int) (l1:List Pt) (port2:Int):Option Int :=
 (aa port2 0 (tP ((l1.length:Int)-1))).bind λt13 =>
 (cond (!t13)
 (some true)
 ((at? l1 port2).bind λx18 =>
 some (!x18.1))).bind λt22 =>
 cond t22
 (some 4)
 ((bc id0 l1).bind λt26 =>
 cond (t26.2==port2)
 (some 1)
 ((at? l1 port2).bind λx36 =>
 (cond (!x36.2.2.1)
 (some true)
 ((dw id0 l1 port2).bind λt44 =>
 (at? l1 port2).bind λx47 =>
 (cA t44 x47.2.2.2).bind λt50 =>
 some t50)).bind λt51 =>
 cond t51 (some 2) (some 3)))
def jF:FL:=(325,⟨[.val false tU false,.val false (.one (.sl vV)) false,.val false tU false],[.val false tU (some true)],λa=>aD a.1 a.2.1 a.2.2⟩)::jE
theorem oO:Gd jF:=tX oN 325 Tryz.f325 [] Tryz.func325
def dx (is0:Bool):Option Int :=
 cond is0 (some 1) (some 0)
def jG:FL:=(388,⟨[.val false uD false],[.val false tU (some true)],λa=>dx a⟩)::jF
theorem oP:Gd jG:=tX oO 388 Tryz.f388 [] Tryz.func388
def bz (b0:tO) (c1:Int) (p2:Int):Option Int :=
 cond (c1==1)
 ((at? b0.2.2.1 p2).bind λx13 =>
 (dx x13.1).bind λt16 =>
 some t16)
 (cond (c1==2)
 ((at? b0.2.2.1 p2).bind λx22 =>
 some x22.2.1)
 (cond (c1==3)
 ((aD b0.1 b0.2.2.1 p2).bind λt32 =>
 some t32)
 ((at? b0.2.2.2.2.2.1 p2).bind λx37 =>
 some x37)))
def jH:FL:=(374,⟨[.val true uc false,.val false tU false,.val false tU false],[.val false tU (some true)],λa=>bz a.1 a.2.1 a.2.2⟩)::jG
theorem oQ:Gd jH:=tX oP 374 Tryz.f374 [] Tryz.func374
def jI (p0:tO) (t32:Int) (t3:List tQ):Option ((Int×List tQ)⊕(List tQ)) :=
 cond (decide (t32<([p0.2.2.2.2.2.2.1,p0.2.2.2.2.2.2.2.1,p0.2.2.2.2.2.2.2.2.1,p0.2.2.2.2.2.2.2.2.2.1].length:Int)))
 ((ix [p0.2.2.2.2.2.2.1,p0.2.2.2.2.2.2.2.1,p0.2.2.2.2.2.2.2.2.1,p0.2.2.2.2.2.2.2.2.2.1].length t32).bind λj35 =>
 ([p0.2.2.2.2.2.2.1,p0.2.2.2.2.2.2.2.1,p0.2.2.2.2.2.2.2.2.1,p0.2.2.2.2.2.2.2.2.2.1][j35]?).bind λx36 =>
 (aI x36).bind λt39 =>
 (ay t39 [1,tP (t32+2)]).bind λt43 =>
 (ut t3 [t43]).bind λzs45 =>
 some (.inl (tP (t32+1),zs45)))
 (some (.inr t3))
def bf (p0:tO) (t6:Int) (t54:Int) (t3_3:List tQ):Option ((Int×List tQ)⊕(List tQ)) :=
 cond (decide (t54<(p0.2.2.1.length:Int)))
 ((bz p0 t6 t54).bind λt61 =>
 (aI t61).bind λt62 =>
 (ay t62 [2,t6,tP (t54+1)]).bind λt67 =>
 (ut t3_3 [t67]).bind λzs69 =>
 some (.inl (tP (t54+1),zs69)))
 (some (.inr t3_3))
def bA (p0:tO) (t6:Int) (t3_2:List tQ):Option ((Int×List tQ)⊕(List tQ)) :=
 cond (decide (t6<=4))
 ((loop (λz=>bf p0 t6 z.1 z.2) (0,t3_2)).bind λd_1 =>
 some (.inl (tP (t6+1),d_1)))
 (some (.inr t3_2))
def bg (p0:tO) (t8:Int) (t79:Int) (t3_7:List tQ):Option ((Int×List tQ)⊕(List tQ)) :=
 cond (decide (t79<(p0.2.2.2.2.1.length:Int)))
 ((at? p0.2.2.2.2.1 t79).bind λx81 =>
 (ix [1,x81.2.1,x81.2.2].length (tP (t8-1))).bind λj91 =>
 ([1,x81.2.1,x81.2.2][j91]?).bind λx92 =>
 (aI x92).bind λt93 =>
 (ay t93 [3,t8,x81.1]).bind λt98 =>
 (ut t3_7 [t98]).bind λzs100 =>
 some (.inl (tP (t79+1),zs100)))
 (some (.inr t3_7))
def bB (p0:tO) (t8:Int) (t3_6:List tQ):Option ((Int×List tQ)⊕(List tQ)) :=
 cond (decide (t8<=3))
 ((loop (λz=>bg p0 t8 z.1 z.2) (0,t3_6)).bind λd_3 =>
 some (.inl (tP (t8+1),d_3)))
 (some (.inr t3_6))
def aP (p0:tO) (t105:Int) (t3_10:List tQ):Option ((Int×List tQ)⊕(List tQ)) :=
 cond (decide (t105<(p0.2.2.2.1.length:Int)))
 ((at? p0.2.2.2.1 t105).bind λx107 =>
 (aI (tP (x107.2.2.1+1))).bind λt113 =>
 (ay t113 [4,1,x107.1,x107.2.1]).bind λt119 =>
 (ut t3_10 [t119]).bind λzs121 =>
 some (.inl (tP (t105+1),zs121)))
 (some (.inr t3_10))
def bh (p0:tO):Option (List tQ) :=
 (aM p0).bind λt14 =>
 cond (!t14)
 (some [])
 ((ay (4,0,p0.2.1,[]) ([1,1]:List Int)).bind λt20 =>
 (loop (λz=>jI p0 z.1 z.2) (0,[t20])).bind λd =>
 (loop (λz=>bA p0 z.1 z.2) (1,d)).bind λd_2 =>
 (loop (λz=>bB p0 z.1 z.2) (1,d_2)).bind λd_4 =>
 (loop (λz=>aP p0 z.1 z.2) (0,d_4)).bind λd_5 =>
 some d_5)
def jJ:FL:=(356,⟨[.val true uc false],[.val false (.one (.sl u5)) (some true)],λa=>bh a⟩)::jH
theorem oR:Gd jJ:=tX oQ 356 Tryz.f356 [(0,⟨⟨[(3,false,[.own 1000000000]),(32,false,[dI])],[(1000000000,.root u5 true)]⟩,
 ⟨[(3,false,[.own 1000000300])],[(1000000300,.root u5 true)]⟩,none⟩),
 (2,⟨⟨[(3,false,[.own 1000002000]),(6,false,[dI])],[(1000002000,.root u5 true)]⟩,
 ⟨[(3,false,[.own 1000002300])],[(1000002300,.root u5 true)]⟩,none⟩),
 (4,⟨⟨[(3,false,[.own 1000004000]),(54,false,[dI])],[(1000004000,.root u5 true)]⟩,
 ⟨[(3,false,[.own 1000004300])],[(1000004300,.root u5 true)]⟩,none⟩),
 (6,⟨⟨[(3,false,[.own 1000006000]),(8,false,[dI])],[(1000006000,.root u5 true)]⟩,
 ⟨[(3,false,[.own 1000006300])],[(1000006300,.root u5 true)]⟩,none⟩),
 (8,⟨⟨[(3,false,[.own 1000008000]),(79,false,[dI])],[(1000008000,.root u5 true)]⟩,
 ⟨[(3,false,[.own 1000008300])],[(1000008300,.root u5 true)]⟩,none⟩),
 (10,⟨⟨[(3,false,[.own 1000010000]),(105,false,[dI])],[(1000010000,.root u5 true)]⟩,
 ⟨[(3,false,[.own 1000010300])],[(1000010300,.root u5 true)]⟩,none⟩)] Tryz.func356
def aQ (o1:List Int) (t8:List tQ) (t10:Int) (b0_1:Int) (b1:Int) (b2:List UInt8) (b3:List Int):Option ((Int×Int×Int×List UInt8×List Int)⊕((Int×Int×List UInt8×List Int)⊕(Int×Int×List UInt8×List Int))) :=
 cond (decide (t10<(t8.length:Int)))
 ((ix t8.length t10).bind λj12 =>
 (t8[j12]?).bind λx13 =>
 (az x13.1 o1).bind λt17 =>
 cond t17
 (some (.inr (.inr x13.2)))
 (some (.inl (tP (t10+1),b0_1,b1,b2,b3))))
 (some (.inr (.inl (b0_1,b1,b2,b3))))
def bC (b0:tO) (o1:List Int):Option wJ :=
 (bh b0).bind λt8 =>
 (loop (λz=>aQ o1 t8 z.1 z.2.1 z.2.2.1 z.2.2.2.1 z.2.2.2.2) (0,0,0,[],[])).bind (Sum.elim (λd =>
 some (128,0,[],[])) (λr=>some r))
def jK:FL:=(319,⟨[.val true uc false,.val false vR false],[.cold true xQ],λa=>bC a.1 a.2⟩)::jJ
theorem oS:Gd jK:=tX oR 319 Tryz.f319 [(0,⟨⟨[(10,false,[dI])],[(2048,.box [dI,dI,dS,.own 1000000000]),(1000000000,.root tU true)]⟩,
 ⟨[],[(2048,.box [dI,dI,dS,.own 1000000300]),(1000000300,.root tU true)]⟩,some ⟨[],[(2048,.box [dI,dI,dS,.kid 264192 4 tU])]⟩⟩),
 (1000000,⟨⟨[],[(264192,.tree u5)]⟩,⟨[],[]⟩,none⟩)] Tryz.func319
def cC (a0:List Int) (b1:List Int) (i5:Int):Option (Int⊕(Unit⊕Bool)) :=
 (cond (decide (i5<(a0.length:Int))) (some (decide (i5<(b1.length:Int)))) (some false)).bind λt15 =>
 cond t15
 ((at? a0 i5).bind λx20 =>
 (at? b1 i5).bind λx24 =>
 cond (x20 != x24)
 ((at? a0 i5).bind λx29 =>
 (at? b1 i5).bind λx33 =>
 some (.inr (.inr (decide (x29<x33)))))
 (some (.inl (tP (i5+1)))))
 (some (.inr (.inl ())))
def dy (a0:List Int) (b1:List Int):Option Bool :=
 (loop (λz=>cC a0 b1 z) 0).bind (Sum.elim (λd =>
 let t4:=decide ((a0.length:Int)<(b1.length:Int))
 some t4) (λr=>some r))
def jL:FL:=(358,⟨[.val false vR false,.val false vR false],[.val false uD (some true)],λa=>dy a.1 a.2⟩)::jK
theorem oT:Gd jL:=tX oS 358 Tryz.f358 [(0,⟨⟨(5,false,[dI])::us 11 4 [],[]⟩,
 ⟨[],[]⟩,some ⟨[(4,false,[dB])],[]⟩⟩)] Tryz.func358
def bD (o1:List Int) (t8:List tQ) (t10:Int) (b1:Int) (b2:Int) (b3:List UInt8) (b0_1:List Int) (b4:List Int):Option ((Int×Int×Int×List UInt8×List Int×List Int)⊕((Int×Int×List UInt8×List Int×List Int)⊕(List Int×Int×Int×List UInt8×List Int))) :=
 cond (decide (t10<(t8.length:Int)))
 ((ix t8.length t10).bind λj12 =>
 (t8[j12]?).bind λx13 =>
 (dy o1 x13.1).bind λt17 =>
 cond t17
 (some (.inr (.inr x13)))
 (some (.inl (tP (t10+1),b1,b2,b3,b0_1,b4))))
 (some (.inr (.inl (b1,b2,b3,b0_1,b4))))
def aJ (b0:tO) (o1:List Int):Option tQ :=
 (bh b0).bind λt8 =>
 (loop (λz=>bD o1 t8 z.1 z.2.1 z.2.2.1 z.2.2.2.1 z.2.2.2.2.1 z.2.2.2.2.2) (0,0,0,[],[],[])).bind (Sum.elim (λd =>
 (aK o1).bind λt21 =>
 some (t21,130,0,[],[])) (λr=>some r))
def jM:FL:=(320,⟨[.val true uc false,.val false vR false],[.cold true u5],λa=>aJ a.1 a.2⟩)::jL
theorem oU:Gd jM:=tX oT 320 Tryz.f320 [(0,⟨⟨[(10,false,[dI])],[(2048,.box [.own 1000000000,dI,dI,dS,.own 1000000001]),(1000000000,.root tU true),(1000000001,.root tU true)]⟩,
 ⟨[],[(2048,.box [.own 1000000300,dI,dI,dS,.own 1000000301]),(1000000300,.root tU true),(1000000301,.root tU true)]⟩,some ⟨[],[(2048,.box [.kid 264192 0 tU,dI,dI,dS,.kid 264192 4 tU])]⟩⟩),
 (1000000,⟨⟨[],[(264192,.tree u5)]⟩,⟨[],[]⟩,none⟩)] Tryz.func320
def cD (p0:tO) (t24:List tQ) (t26:Int) (t5:List tQ):Option ((Int×List tQ)⊕(List tQ)) :=
 cond (decide (t26<(t24.length:Int)))
 ((at? t24 t26).bind λx28 =>
 (aJ p0 x28.1).bind λt34 =>
 (ut t5 [t34]).bind λzs36 =>
 some (.inl (tP (t26+1),zs36)))
 (some (.inr t5))
def cE (t41:List tQ) (t43:Int) (t9:List (List Int)):Option ((Int×List (List Int))⊕(List (List Int))) :=
 cond (decide (t43<(t41.length:Int)))
 ((at? t41 t43).bind λx45 =>
 (ut t9 [x45.1]).bind λzs51 =>
 some (.inl (tP (t43+1),zs51)))
 (some (.inr t9))
def bS (p0:tO) (l:List (List Int)) (t71:Int) (t5_3:List tQ) (l_1:List (List Int)):Option ((Int×List tQ×List (List Int))⊕(List tQ×List (List Int))) :=
 cond (decide (t71<(l.length:Int)))
 (cond (decide ((t5_3.length:Int)>=10))
 (some (.inr (t5_3,l_1)))
 ((ix l_1.length t71).bind λj80 =>
 (l_1[j80]?).bind λx81 =>
 (aJ p0 x81).bind λt82 =>
 (ix l_1.length t71).bind λj87 =>
 (l_1[j87]?).bind λx =>
 (ut t5_3 [t82]).bind λzs91 =>
 some (.inl (tP (t71+1),zs91,l_1.set j87 t82.1))))
 (some (.inr (t5_3,l_1)))
def bj (p0:tO) (i1:um) (t12:Int) (t5_2:List tQ) (l:List (List Int)):Option ((Int×List tQ×List (List Int))⊕(List tQ×List (List Int))) :=
 (cond (decide (t12<i1.2.2.2.1)) (some (decide ((l.length:Int)>0))) (some false)).bind λt61 =>
 (cond t61 (some (decide ((t5_2.length:Int)<10))) (some false)).bind λt66 =>
 cond t66
 ((loop (λz=>bS p0 l z.1 z.2.1 z.2.2) (0,t5_2,l)).bind λd_2 =>
 some (.inl (tP (t12+1),d_2.1,d_2.2)))
 (some (.inr (t5_2,l)))
def eZ (p0:tO) (i1:um):Option (List tQ) :=
 let t6:=min2 i1.2.2.1 (i1.2.2.2.2.length:Int)
 (cut i1.2.2.2.2 0 t6).bind λt24 =>
 (loop (λz=>cD p0 t24 z.1 z.2) (0,[])).bind λd =>
 (cut i1.2.2.2.2 t6 (i1.2.2.2.2.length:Int)).bind λt41 =>
 (loop (λz=>cE t41 z.1 z.2) (0,[])).bind λd_1 =>
 (loop (λz=>bj p0 i1 z.1 z.2.1 z.2.2) (0,d,d_1)).bind λd_3 =>
 some d_3.1
def jN:FL:=(321,⟨[.val true uc false,.val true vT false],[.val false (.one (.sl u5)) (some true)],λa=>eZ a.1 a.2⟩)::jM
theorem oV:Gd jN:=tX oU 321 Tryz.f321 [(0,⟨⟨[(5,false,[.own 1000000000]),(26,false,[dI])],[(1000000000,.root u5 true)]⟩,
 ⟨[(5,false,[.own 1000000300])],[(1000000300,.root u5 true)]⟩,none⟩),
 (2,⟨⟨[(9,false,[.own 1000002000]),(43,false,[dI])],[(1000002000,.root vR false)]⟩,
 ⟨[(9,false,[.own 1000002300])],[(1000002300,.root vR false)]⟩,none⟩),
 (4,⟨⟨(5,false,[.own 1000004000])::(12,false,[dI])::us 58 3 (us 63 3 []),[(1000004000,.root u5 true),(1000002300,.keep vR false)]⟩,
 ⟨[(5,false,[.own 1000004300])],[(1000004300,.root u5 true),(1000002300,.keep vR false)]⟩,none⟩),
 (6,⟨⟨[(5,false,[.own 1000006000]),(71,false,[dI])],[(1000006000,.root u5 true),(1000002300,.keep vR false)]⟩,
 ⟨[(5,false,[.own 1000006300])],[(1000006300,.root u5 true),(1000002300,.keep vR false)]⟩,none⟩)] Tryz.func321
def f0 (bits0:Int) (port1:Int):Option Bool :=
 (aa port1 0 62).bind λt6 =>
 (cond t6
 ((shr .i64 bits0 port1).bind λt10 =>
 some ((yJ .i64 t10 1)==1))
 (some false)).bind λt13 =>
 some t13
def jO:FL:=(251,⟨[.val false tU false,.val false tU false],[.val false uD (some true)],λa=>f0 a.1 a.2⟩)::jN
theorem oW:Gd jO:=tX oV 251 Tryz.f251 [] Tryz.func251
def aL (id0:Int) (l1:List Pt) (bits5:Int) (port6:Int):Option ((Int×Int)⊕Int) :=
 (cond (decide (port6<(l1.length:Int))) (some (decide (port6<6))) (some false)).bind λt15 =>
 cond t15
 ((aD id0 l1 port6).bind λt21 =>
 (cond (t21==1) (some true) (some (t21==2))).bind λt27 =>
 cond t27
 ((shl .i64 1 port6).bind λt30 =>
 some (.inl (B9 .i64 bits5 t30,tP (port6+1))))
 (some (.inl (bits5,tP (port6+1)))))
 (some (.inr bits5))
def f8 (id0:Int) (l1:List Pt):Option Int :=
 (loop (λz=>aL id0 l1 z.1 z.2) (0,0)).bind λd =>
 some d
def jQ:FL:=(252,⟨[.val false tU false,.val false (.one (.sl vV)) false],[.val false tU (some true)],λa=>f8 a.1 a.2⟩)::jO
theorem oX:Gd jQ:=tX oW 252 Tryz.f252 [(0,⟨⟨[(5,false,[dI]),(6,false,[dI]),(13,false,[.undef]),(14,false,[.undef]),(25,false,[.undef]),(26,false,[.undef])],[]⟩,
 ⟨[(5,false,[dI])],[]⟩,none⟩)] Tryz.func252
def cG (l0:List tZ) (port1:Int) (t10:Int) (out5:List tZ):Option ((Int×List tZ)⊕(List tZ)) :=
 cond (decide (t10<(l0.length:Int)))
 ((at? l0 t10).bind λx12 =>
 (cond x12.2.2.2.2 (some true) (some (x12.2.2.1 != port1))).bind λt21 =>
 cond t21
 ((ut out5 [x12]).bind λzs25 =>
 some (.inl (tP (t10+1),zs25)))
 (some (.inl (tP (t10+1),out5))))
 (some (.inr out5))
def f9 (l0:List tZ) (port1:Int):Option (List tZ) :=
 (loop (λz=>cG l0 port1 z.1 z.2) (0,[])).bind λd =>
 some d
def jR:FL:=(348,⟨[.val false (.one (.sl uo)) false,.val false tU false],[.val false (.one (.sl uo)) (some true)],λa=>f9 a.1 a.2⟩)::jQ
theorem oY:Gd jR:=tX oX 348 Tryz.f348 [(0,⟨⟨(5,false,[.own 1000000000])::(10,false,[dI])::us 17 4 [],[(1000000000,.root uo true)]⟩,
 ⟨[(5,false,[.own 1000000300])],[(1000000300,.root uo true)]⟩,none⟩)] Tryz.func348
def fa (b0:tO) (t20:Int) (t26:Int) (b0_1:Int) (b1:List UInt8) (b6:Int) (b7:Int) (b8:Int) (b9:Int) (b10:Int) (b3:List tZ):Option ((Int×Int×List UInt8×Int×Int×Int×Int×Int×List tZ)⊕(Int×List UInt8×Int×Int×Int×Int×Int×List tZ)) :=
 cond (decide (t26<(b0.2.2.1.length:Int)))
 ((f0 t20 t26).bind λt31 =>
 cond (!t31)
 ((f9 b3 t26).bind λt39 =>
 some (.inl (tP (t26+1),b0_1,b1,b6,b7,b8,b9,b10,t39)))
 (some (.inl (tP (t26+1),b0_1,b1,b6,b7,b8,b9,b10,b3))))
 (some (.inr (b0_1,b1,b6,b7,b8,b9,b10,b3)))
def bE (b0:tO):Option tO :=
 (bb b0.2.2.2.2.2.2.2.2.2.2).bind λt9 =>
 (f8 b0.1 b0.2.2.1).bind λt20 =>
 (loop (λz=>fa b0 t20 z.1 z.2.1 z.2.2.1 z.2.2.2.1 z.2.2.2.2.1 z.2.2.2.2.2.1 z.2.2.2.2.2.2.1 z.2.2.2.2.2.2.2.1 z.2.2.2.2.2.2.2.2) (0,b0.1,b0.2.1,b0.2.2.2.2.2.2.1,b0.2.2.2.2.2.2.2.1,b0.2.2.2.2.2.2.2.2.1,b0.2.2.2.2.2.2.2.2.2.1,t9,b0.2.2.2.1)).bind λd =>
 some (d.1,d.2.1,b0.2.2.1,d.2.2.2.2.2.2.2,b0.2.2.2.2.1,b0.2.2.2.2.2.1,d.2.2.1,d.2.2.2.1,d.2.2.2.2.1,d.2.2.2.2.2.1,d.2.2.2.2.2.2.1)
def jS:FL:=(296,⟨[.ptr uc (some true)],[],λa=>bE a⟩)::jR
theorem oZ:Gd jS:=tX oY 296 Tryz.f296 [(0,⟨⟨[(26,false,[dI])],[(1,.box [dI,dS,.same 4,.own 1000000000,.same 6,.same 7,dI,dI,dI,dI,dI]),(1000000000,.root uo true)]⟩,
 ⟨[],[(1,.box [dI,dS,.same 4,.own 1000000300,.same 6,.same 7,dI,dI,dI,dI,dI]),(1000000300,.root uo true)]⟩,none⟩)] Tryz.func296
def aE (o0:List Int) (low1:Int) (high2:Int) (head3:List Int):Option Bool :=
 cond ((o0.length:Int)==(tP ((head3.length:Int)+4)))
 ((cut o0 0 (tP ((o0.length:Int)-1))).bind λt20 =>
 (ut ([1,3,1]:List Int) head3).bind λzs23 =>
 (az t20 zs23).bind λt24 =>
 (cond t24
 ((at? o0 (tP ((o0.length:Int)-1))).bind λx31 =>
 (aa x31 low1 high2).bind λt35 =>
 some t35)
 (some false)).bind λt36 =>
 some t36)
 ((some false).bind λt36_1 =>
 some t36_1)
def jT:FL:=(389,⟨[.val false vR false,.val false tU false,.val false tU false,.val false vR false],[.val false uD (some true)],λa=>aE a.1 a.2.1 a.2.2.1 a.2.2.2⟩)::jS
theorem p5:Gd jT:=tX oZ 389 Tryz.f389 [] Tryz.func389
def fb (b0:tO) (o1:List Int):Option Bool :=
 (aE o1 1 1 ([1]:List Int)).bind λt11 =>
 (cond t11
 (some true)
 ((aE o1 1 (b0.2.2.1.length:Int) ([2,2]:List Int)).bind λt16 =>
 some t16)).bind λt17 =>
 (cond t17
 (some true)
 ((aE o1 1 (b0.2.2.1.length:Int) ([2,4]:List Int)).bind λt22 =>
 some t22)).bind λt23 =>
 (cond t23
 (some true)
 ((aE o1 1 99 ([3,1]:List Int)).bind λt27 =>
 some t27)).bind λt28 =>
 cond t28
 (some true)
 ((aE o1 1 99 ([3,2]:List Int)).bind λt31 =>
 (cond t31
 (some true)
 ((aE o1 1 99 ([3,3]:List Int)).bind λt35 =>
 some t35)).bind λt36 =>
 (cond t36
 ((at? o1 5).bind λx41 =>
 (ar (b0.2.2.2.2.1,b0.2.2.2.2.2.1) x41).bind λt43 =>
 some (decide (t43>=0)))
 (some false)).bind λt45 =>
 some t45)
def jU:FL:=(375,⟨[.val true uc false,.val false vR false],[.val false uD (some true)],λa=>fb a.1 a.2⟩)::jT
theorem p6:Gd jU:=tX p5 375 Tryz.f375 [] Tryz.func375
def fe (v0:ve) (r1:ua) (k7:Int):Option (Int⊕Int) :=
 (cond (decide (k7<(v0.1.length:Int)))
 ((at? v0.1 k7).bind λx31 =>
 some (decide (x31.1<=r1.1)))
 (some false)).bind λt37 =>
 cond t37 (some (.inl (tP (k7+1)))) (some (.inr k7))
def dz (v0:ve) (r1:ua):Option ve :=
 (cH v0).bind λt9 =>
 (ar v0 r1.1).bind λt13 =>
 cond (decide (t13>=0))
 ((ix t9.1.length t13).bind λj20 =>
 (t9.1[j20]?).bind λx =>
 some (t9.1.set j20 r1,t9.2))
 ((loop (λz=>fe v0 r1 z) 0).bind λd =>
 (cut v0.1 0 d).bind λt43 =>
 (ut [] t43).bind λzs44 =>
 (ut zs44 [r1]).bind λzs47 =>
 (cut v0.1 d (v0.1.length:Int)).bind λt51 =>
 (ut zs47 t51).bind λzs52 =>
 some (zs52,t9.2))
def jV:FL:=(393,⟨[.val true wy false,.val true uU false],[.val true wy (some true)],λa=>dz a.1 a.2⟩)::jU
theorem p7:Gd jV:=tX p6 393 Tryz.f393 [(0,⟨⟨(7,false,[dI])::us 28 9 [],[]⟩,
 ⟨[(7,false,[dI])],[]⟩,none⟩)] Tryz.func393
def dA (v0:ve) (id1:Int):Option ve :=
 (cH v0).bind λt8 =>
 (ar v0 id1).bind λt11 =>
 cond (decide (t11>=0))
 ((cut v0.1 0 t11).bind λt17 =>
 (ut [] t17).bind λzs18 =>
 (cut v0.1 (tP (t11+1)) (v0.1.length:Int)).bind λt23 =>
 (ut zs18 t23).bind λzs24 =>
 some (zs24,t8.2))
 (some t8)
def jW:FL:=(394,⟨[.val true wy false,.val false tU false],[.val true wy (some true)],λa=>dA a.1 a.2⟩)::jV
theorem p8:Gd jW:=tX p7 394 Tryz.f394 [] Tryz.func394
def ff (p0:tO) (i1:Int) (a2:Int) (a3:Int):Option (tO×Int) :=
 (ar (p0.2.2.2.2.1,p0.2.2.2.2.2.1) a2).bind λt15 =>
 cond (i1==1)
 ((cond (a3==4) (some (decide (t15<0))) (some false)).bind λt24 =>
 (cond t24 (some (decide ((p0.2.2.2.2.1.length:Int)<6))) (some false)).bind λt33 =>
 cond t33
 ((dz (p0.2.2.2.2.1,p0.2.2.2.2.2.1) (a2,0,0)).bind λt41 =>
 some ((p0.1,p0.2.1,p0.2.2.1,p0.2.2.2.1,t41.1,t41.2,p0.2.2.2.2.2.2.1,p0.2.2.2.2.2.2.2.1,p0.2.2.2.2.2.2.2.2.1,p0.2.2.2.2.2.2.2.2.2.1,p0.2.2.2.2.2.2.2.2.2.2),0))
 ((cond (a3==6) (some (decide (t15>=0))) (some false)).bind λt50 =>
 cond t50
 ((dA (p0.2.2.2.2.1,p0.2.2.2.2.2.1) a2).bind λt57 =>
 some ((p0.1,p0.2.1,p0.2.2.1,p0.2.2.2.1,t57.1,t57.2,p0.2.2.2.2.2.2.1,p0.2.2.2.2.2.2.2.1,p0.2.2.2.2.2.2.2.2.1,p0.2.2.2.2.2.2.2.2.2.1,p0.2.2.2.2.2.2.2.2.2.2),0))
 (some (p0,2))))
 ((dC (p0.2.2.1.length:Int)).bind λt66 =>
 (aa a3 0 t66).bind λt67 =>
 cond (!t67)
 (some (p0,2))
 (cond (i1==2)
 ((ix p0.2.2.2.2.1.length t15).bind λj78 =>
 (p0.2.2.2.2.1[j78]?).bind λx =>
 some ((p0.1,p0.2.1,p0.2.2.1,p0.2.2.2.1,p0.2.2.2.2.1.set j78 (x.1,a3,x.2.2),p0.2.2.2.2.2.1,p0.2.2.2.2.2.2.1,p0.2.2.2.2.2.2.2.1,p0.2.2.2.2.2.2.2.2.1,p0.2.2.2.2.2.2.2.2.2.1,p0.2.2.2.2.2.2.2.2.2.2),0))
 ((ix p0.2.2.2.2.1.length t15).bind λj87 =>
 (p0.2.2.2.2.1[j87]?).bind λx_1 =>
 some ((p0.1,p0.2.1,p0.2.2.1,p0.2.2.2.1,p0.2.2.2.2.1.set j87 (x_1.1,x_1.2.1,a3),p0.2.2.2.2.2.1,p0.2.2.2.2.2.2.1,p0.2.2.2.2.2.2.2.1,p0.2.2.2.2.2.2.2.2.1,p0.2.2.2.2.2.2.2.2.2.1,p0.2.2.2.2.2.2.2.2.2.2),0))))
def jX:FL:=(390,⟨[.ptr uc (some true),.val false tU false,.val false tU false,.val false tU false],[.val false tU (some true)],λa=>ff a.1 a.2.1 a.2.2.1 a.2.2.2⟩)::jW
theorem p9:Gd jX:=tX p8 390 Tryz.f390 [] Tryz.func390
def gM (p0:tO) (i1:List Int) (a2:wJ):Option (tO×Int) :=
 (at? i1 3).bind λx9 =>
 (cond (x9==1) (some (a2.1 != 4)) (some false)).bind λt17 =>
 (cond t17
 (some true)
 ((cond (!(x9==1)) (some (a2.1 != 2)) (some false)).bind λt25 =>
 some t25)).bind λt26 =>
 cond t26
 (some (p0,1))
 (cond (x9==1)
 (cond (decide ((a2.2.2.1.length:Int)>10))
 (some (p0,2))
 (some ((p0.1,a2.2.2.1,p0.2.2.1,p0.2.2.2.1,p0.2.2.2.2.1,p0.2.2.2.2.2.1,p0.2.2.2.2.2.2.1,p0.2.2.2.2.2.2.2.1,p0.2.2.2.2.2.2.2.2.1,p0.2.2.2.2.2.2.2.2.2.1,p0.2.2.2.2.2.2.2.2.2.2),0)))
 ((at? i1 3).bind λx52 =>
 cond (x52==3)
 ((at? i1 4).bind λx57 =>
 (at? i1 5).bind λx60 =>
 (ff p0 x57 x60 a2.2.1).bind λt64 =>
 some t64)
 ((at? i1 4).bind λx67 =>
 cond (x67==2)
 ((aa a2.2.1 1 1000).bind λt72 =>
 cond (!t72)
 (some (p0,2))
 ((at? i1 5).bind λx79 =>
 (ix p0.2.2.1.length (tP (x79-1))).bind λj84 =>
 (p0.2.2.1[j84]?).bind λx =>
 some ((p0.1,p0.2.1,p0.2.2.1.set j84 (x.1,a2.2.1,x.2.2.1,x.2.2.2.1,x.2.2.2.2.1,x.2.2.2.2.2.1,x.2.2.2.2.2.2.1,x.2.2.2.2.2.2.2),p0.2.2.2.1,p0.2.2.2.2.1,p0.2.2.2.2.2.1,p0.2.2.2.2.2.2.1,p0.2.2.2.2.2.2.2.1,p0.2.2.2.2.2.2.2.2.1,p0.2.2.2.2.2.2.2.2.2.1,p0.2.2.2.2.2.2.2.2.2.2),0)))
 ((at? i1 5).bind λx33 =>
 (ix p0.2.2.2.2.2.1.length (tP (x33-1))).bind λj38 =>
 (p0.2.2.2.2.2.1[j38]?).bind λx_1 =>
 some ((p0.1,p0.2.1,p0.2.2.1,p0.2.2.2.1,p0.2.2.2.2.1,p0.2.2.2.2.2.1.set j38 a2.2.1,p0.2.2.2.2.2.2.1,p0.2.2.2.2.2.2.2.1,p0.2.2.2.2.2.2.2.2.1,p0.2.2.2.2.2.2.2.2.2.1,p0.2.2.2.2.2.2.2.2.2.2),0)))))
def jY:FL:=(376,⟨[.ptr uc (some true),.val false vR false,.val true xQ false],[.val false tU (some true)],λa=>gM a.1 a.2.1 a.2.2⟩)::jX
theorem pa:Gd jY:=tX p9 376 Tryz.f376 [] Tryz.func376
def bT (l0:List tZ) (tag1:Int) (mac2:Int) (t11:Int):Option (Int⊕(Unit⊕Int)) :=
 cond (decide (t11<(l0.length:Int)))
 ((at? l0 t11).bind λx14 =>
 (cond (x14.1==tag1) (some (x14.2.1==mac2)) (some false)).bind λt25 =>
 cond t25 (some (.inr (.inr t11))) (some (.inl (tP (t11+1)))))
 (some (.inr (.inl ())))
def fg (l0:List tZ) (tag1:Int) (mac2:Int):Option Int :=
 (loop (λz=>bT l0 tag1 mac2 z) 0).bind (Sum.elim (λd =>
 some (-1)) (λr=>some r))
def jZ:FL:=(326,⟨[.val false (.one (.sl uo)) false,.val false tU false,.val false tU false],[.val false tU (some true)],λa=>fg a.1 a.2.1 a.2.2⟩)::jY
theorem pb:Gd jZ:=tX pa 326 Tryz.f326 [(0,⟨⟨(11,false,[dI])::us 21 4 [],[]⟩,
 ⟨[],[]⟩,some ⟨[(6,false,[dI])],[]⟩⟩)] Tryz.func326
def fh (b0:tO) (o1:List Int):Option Bool :=
 (aE o1 2 5 ([1]:List Int)).bind λt11 =>
 (cond t11
 (some true)
 ((aE o1 1 (b0.2.2.1.length:Int) ([2,1]:List Int)).bind λt16 =>
 some t16)).bind λt17 =>
 (cond t17
 (some true)
 ((aE o1 1 (b0.2.2.1.length:Int) ([2,3]:List Int)).bind λt22 =>
 some t22)).bind λt23 =>
 cond t23
 (some true)
 ((cond ((o1.length:Int)==7)
 ((cut o1 0 5).bind λt29 =>
 (az t29 ([1,3,1,4,1]:List Int)).bind λt31 =>
 some t31)
 (some false)).bind λt32 =>
 (cond t32
 ((at? o1 5).bind λx37 =>
 (at? o1 6).bind λx40 =>
 (fg b0.2.2.2.1 x37 x40).bind λt42 =>
 some (decide (t42>=0)))
 (some false)).bind λt44 =>
 some t44)
def kc:FL:=(377,⟨[.val true uc false,.val false vR false],[.val false uD (some true)],λa=>fh a.1 a.2⟩)::jZ
theorem pc:Gd kc:=tX pb 377 Tryz.f377 [] Tryz.func377
def bU (b0:tO) (x1:tQ):Option (tO×Int) :=
 (fb b0 x1.1).bind λt11 =>
 cond t11
 ((gM b0 x1.1 x1.2).bind λt17 =>
 some t17)
 ((fh b0 x1.1).bind λt24 =>
 cond t24 (some (b0,4)) (some (b0,3)))
def ke:FL:=(359,⟨[.ptr uc (some true),.val true u5 false],[.val false tU (some true)],λa=>bU a.1 a.2⟩)::kc
theorem pf:Gd ke:=tX pc 359 Tryz.f359 [] Tryz.func359
def dD (p0:tO) (t25:Int) (x28:tQ) (t32:List tQ) (t34:Int) (b0_2:Int) (b1_2:List UInt8) (b6_2:Int) (b7_2:Int) (b8_2:Int) (b9_2:Int) (b10_2:Int):Option ((Int×Int×List UInt8×Int×Int×Int×Int×Int)⊕((Int×List UInt8×Int×Int×Int×Int×Int)⊕(Int×Int×Int×List UInt8×Int×Int×Int×Int×Int×List Pt×List tZ×List ua×List Int))) :=
 cond (decide (t34<(t32.length:Int)))
 ((at? t32 t34).bind λx36 =>
 (az x28.1 x36.1).bind λt42 =>
 cond t42
 ((aj p0).bind λt44 =>
 some (.inr (.inr (5,tP (t25+1),t44.1,t44.2.1,t44.2.2.2.2.2.2.1,t44.2.2.2.2.2.2.2.1,t44.2.2.2.2.2.2.2.2.1,t44.2.2.2.2.2.2.2.2.2.1,t44.2.2.2.2.2.2.2.2.2.2,t44.2.2.1,t44.2.2.2.1,t44.2.2.2.2.1,t44.2.2.2.2.2.1))))
 (some (.inl (tP (t34+1),b0_2,b1_2,b6_2,b7_2,b8_2,b9_2,b10_2))))
 (some (.inr (.inl (b0_2,b1_2,b6_2,b7_2,b8_2,b9_2,b10_2))))
def fi (p0:tO) (i1:List tQ) (t25:Int) (b0:Int) (b1:List UInt8) (b6:Int) (b7:Int) (b8:Int) (b9:Int) (b10:Int) (b0_1:Int) (b1_1:List UInt8) (b6_1:Int) (b7_1:Int) (b8_1:Int) (b9_1:Int) (b10_1:Int) (b2:List Pt) (b3:List tZ) (b4:List ua) (b5:List Int) (b2_1:List Pt) (b3_1:List tZ) (b4_1:List ua) (b5_1:List Int):Option ((Int×Int×List UInt8×Int×Int×Int×Int×Int×Int×List UInt8×Int×Int×Int×Int×Int×List Pt×List tZ×List ua×List Int×List Pt×List tZ×List ua×List Int)⊕((Int×List UInt8×Int×Int×Int×Int×Int×Int×List UInt8×Int×Int×Int×Int×Int×List Pt×List tZ×List ua×List Int×List Pt×List tZ×List ua×List Int)⊕(Int×Int×Int×List UInt8×Int×Int×Int×Int×Int×List Pt×List tZ×List ua×List Int))) :=
 cond (decide (t25<(i1.length:Int)))
 ((at? i1 t25).bind λx28 =>
 (cut i1 0 t25).bind λt32 =>
 (loop (λz=>dD p0 t25 x28 t32 z.1 z.2.1 z.2.2.1 z.2.2.2.1 z.2.2.2.2.1 z.2.2.2.2.2.1 z.2.2.2.2.2.2.1 z.2.2.2.2.2.2.2) (0,b0,b1,b6,b7,b8,b9,b10)).bind (Sum.elim (λd =>
 (bU (b0_1,b1_1,b2_1,b3_1,b4_1,b5_1,b6_1,b7_1,b8_1,b9_1,b10_1) x28).bind λt49 =>
 cond (t49.2 != 0)
 ((aj p0).bind λt53 =>
 some (.inr (.inr (t49.2,tP (t25+1),t53.1,t53.2.1,t53.2.2.2.2.2.2.1,t53.2.2.2.2.2.2.2.1,t53.2.2.2.2.2.2.2.2.1,t53.2.2.2.2.2.2.2.2.2.1,t53.2.2.2.2.2.2.2.2.2.2,t53.2.2.1,t53.2.2.2.1,t53.2.2.2.2.1,t53.2.2.2.2.2.1))))
 (some (.inl (tP (t25+1),d.1,d.2.1,d.2.2.1,d.2.2.2.1,d.2.2.2.2.1,d.2.2.2.2.2.1,d.2.2.2.2.2.2,t49.1.1,t49.1.2.1,t49.1.2.2.2.2.2.2.1,t49.1.2.2.2.2.2.2.2.1,t49.1.2.2.2.2.2.2.2.2.1,t49.1.2.2.2.2.2.2.2.2.2.1,t49.1.2.2.2.2.2.2.2.2.2.2,b2,b3,b4,b5,t49.1.2.2.1,t49.1.2.2.2.1,t49.1.2.2.2.2.1,t49.1.2.2.2.2.2.1)))) (λr=>some (.inr (.inr r)))))
 (some (.inr (.inl (b0,b1,b6,b7,b8,b9,b10,b0_1,b1_1,b6_1,b7_1,b8_1,b9_1,b10_1,b2,b3,b4,b5,b2_1,b3_1,b4_1,b5_1))))
def cI (p0:tO) (i1:List tQ):Option (tO×Int×Int) :=
 (aj p0).bind λt14 =>
 cond ((i1.length:Int)==0)
 (some (t14,0,0))
 ((aM p0).bind λt20 =>
 cond (!t20)
 (some (t14,3,1))
 ((loop (λz=>fi p0 i1 z.1 z.2.1 z.2.2.1 z.2.2.2.1 z.2.2.2.2.1 z.2.2.2.2.2.1 z.2.2.2.2.2.2.1 z.2.2.2.2.2.2.2.1 z.2.2.2.2.2.2.2.2.1 z.2.2.2.2.2.2.2.2.2.1 z.2.2.2.2.2.2.2.2.2.2.1 z.2.2.2.2.2.2.2.2.2.2.2.1 z.2.2.2.2.2.2.2.2.2.2.2.2.1 z.2.2.2.2.2.2.2.2.2.2.2.2.2.1 z.2.2.2.2.2.2.2.2.2.2.2.2.2.2.1 z.2.2.2.2.2.2.2.2.2.2.2.2.2.2.2.1 z.2.2.2.2.2.2.2.2.2.2.2.2.2.2.2.2.1 z.2.2.2.2.2.2.2.2.2.2.2.2.2.2.2.2.2.1 z.2.2.2.2.2.2.2.2.2.2.2.2.2.2.2.2.2.2.1 z.2.2.2.2.2.2.2.2.2.2.2.2.2.2.2.2.2.2.2.1 z.2.2.2.2.2.2.2.2.2.2.2.2.2.2.2.2.2.2.2.2.1 z.2.2.2.2.2.2.2.2.2.2.2.2.2.2.2.2.2.2.2.2.2.1 z.2.2.2.2.2.2.2.2.2.2.2.2.2.2.2.2.2.2.2.2.2.2) (0,0,[],0,0,0,0,0,t14.1,t14.2.1,t14.2.2.2.2.2.2.1,t14.2.2.2.2.2.2.2.1,t14.2.2.2.2.2.2.2.2.1,t14.2.2.2.2.2.2.2.2.2.1,t14.2.2.2.2.2.2.2.2.2.2,[],[],[],[],t14.2.2.1,t14.2.2.2.1,t14.2.2.2.2.1,t14.2.2.2.2.2.1)).bind (Sum.elim (λd_1 =>
 (cJ d_1.2.2.2.2.2.2.2.2.2.2.2.2.2.2.2.2.2.2.2.2 (d_1.2.2.2.2.2.2.2.2.2.2.2.2.2.2.2.2.2.2.1.length:Int)).bind λt63 =>
 cond (!t63)
 ((aj p0).bind λt66 =>
 some (t66,5,(i1.length:Int)))
 ((bE (d_1.2.2.2.2.2.2.2.1,d_1.2.2.2.2.2.2.2.2.1,d_1.2.2.2.2.2.2.2.2.2.2.2.2.2.2.2.2.2.2.1,d_1.2.2.2.2.2.2.2.2.2.2.2.2.2.2.2.2.2.2.2.1,d_1.2.2.2.2.2.2.2.2.2.2.2.2.2.2.2.2.2.2.2.2.1,d_1.2.2.2.2.2.2.2.2.2.2.2.2.2.2.2.2.2.2.2.2.2,d_1.2.2.2.2.2.2.2.2.2.1,d_1.2.2.2.2.2.2.2.2.2.2.1,d_1.2.2.2.2.2.2.2.2.2.2.2.1,d_1.2.2.2.2.2.2.2.2.2.2.2.2.1,d_1.2.2.2.2.2.2.2.2.2.2.2.2.2.1)).bind λt69 =>
 some (t69,0,0))) (λr_1=>some ((r_1.2.2.1,r_1.2.2.2.1,r_1.2.2.2.2.2.2.2.2.2.1,r_1.2.2.2.2.2.2.2.2.2.2.1,r_1.2.2.2.2.2.2.2.2.2.2.2.1,r_1.2.2.2.2.2.2.2.2.2.2.2.2,r_1.2.2.2.2.1,r_1.2.2.2.2.2.1,r_1.2.2.2.2.2.2.1,r_1.2.2.2.2.2.2.2.1,r_1.2.2.2.2.2.2.2.2.1),r_1.1,r_1.2.1)))))
def kf:FL:=(322,⟨[.val true uc false,.val false (.one (.sl u5)) false],[.val true uc (some true),.val false tU (some true),.val false tU (some true)],λa=>cI a.1 a.2⟩)::ke
theorem pj:Gd kf:=tX pf 322 Tryz.f322 [(0,⟨⟨[(25,false,[dI])],[(2048,.box [dI,dS,.own 1000000000,.own 1000000001,.own 1000000002,.own 1000000003,dI,dI,dI,dI,dI]),(265216,.box [dI,dS,.own 1000000004,.own 1000000005,.own 1000000006,.own 1000000007,dI,dI,dI,dI,dI]),(1000000000,.root vV true),(1000000001,.root uo true),(1000000002,.root uU true),(1000000003,.root tU true),(1000000004,.root vV true),(1000000005,.root uo true),(1000000006,.root uU true),(1000000007,.root tU true)]⟩,
 ⟨[],[(2048,.box [dI,dS,.own 1000000300,.own 1000000301,.own 1000000302,.own 1000000303,dI,dI,dI,dI,dI]),(265216,.box [dI,dS,.own 1000000304,.own 1000000305,.own 1000000306,.own 1000000307,dI,dI,dI,dI,dI]),(1000000300,.root vV true),(1000000301,.root uo true),(1000000302,.root uU true),(1000000303,.root tU true),(1000000304,.root vV true),(1000000305,.root uo true),(1000000306,.root uU true),(1000000307,.root tU true)]⟩,some ⟨[(5,false,[dI]),(6,false,[dI])],[(2048,.box [dI,dS,.own 1000000600,.own 1000000601,.own 1000000602,.own 1000000603,dI,dI,dI,dI,dI]),(1000000600,.root vV true),(1000000601,.root uo true),(1000000602,.root uU true),(1000000603,.root tU true)]⟩⟩),
 (2,⟨⟨[(34,false,[dI])],[(2048,.box [dI,dS,.same 1000000000,.same 1000000001,.same 1000000002,.same 1000000003,dI,dI,dI,dI,dI])]⟩,
 ⟨[],[(2048,.box [dI,dS,.same 1000000000,.same 1000000001,.same 1000000002,.same 1000000003,dI,dI,dI,dI,dI])]⟩,some ⟨[(5,false,[dI]),(6,false,[dI])],[(2048,.box [dI,dS,.own 1000002600,.own 1000002601,.own 1000002602,.own 1000002603,dI,dI,dI,dI,dI]),(1000002600,.root vV true),(1000002601,.root uo true),(1000002602,.root uU true),(1000002603,.root tU true)]⟩⟩)] Tryz.func322
def aF (p0:um):Option Bool :=
 (dq p0).bind λt4 =>
 (aa (t4.length:Int) 1 120).bind λt6 =>
 some t6
def kg:FL:=(323,⟨[.val true vT false],[.val false uD (some true)],λa=>aF a⟩)::kf
theorem pk:Gd kg:=tX pj 323 Tryz.f323 [] Tryz.func323
def dE (p0:tO) (i1:um) (t54:Int) (b0:Int) (b1:Int) (b2:Int) (b3:Int) (b4:List tQ):Option ((Int×Int×Int×Int×Int×List tQ)⊕(Int×Int×Int×Int×List tQ)) :=
 cond (decide (t54<(i1.2.2.2.2.length:Int)))
 ((at? i1.2.2.2.2 t54).bind λx56 =>
 (aK x56.1).bind λt62 =>
 (bC p0 x56.1).bind λt66 =>
 (ut b4 [(t62,t66.1,t66.2.1,t66.2.2.1,t66.2.2.2)]).bind λzs69 =>
 some (.inl (tP (t54+1),b0,b1,b2,b3,zs69)))
 (some (.inr (b0,b1,b2,b3,b4)))
def kh (i1:um) (b0_2:Int) (b1_2:List UInt8) (b6:Int) (b7:Int) (b8:Int) (b9:Int) (b10:Int) (b0_3:Int) (b1_3:Int) (b2_2:Int) (b3_2:Int) (b0_4:Int) (b1_4:List UInt8) (b6_1:Int) (b7_1:Int) (b8_1:Int) (b9_1:Int) (b10_1:Int) (b0_5:Int) (b1_5:Int) (b2_3:Int) (b3_3:Int) (b2_4:List Pt) (b3_4:List tZ) (b4_2:List ua) (b5:List Int) (b4_3:List tQ) (b2_5:List Pt) (b3_5:List tZ) (b4_4:List ua) (b5_1:List Int) (b4_5:List tQ):Option ((Int×List UInt8×Int×Int×Int×Int×Int×Int×Int×Int×Int×Int×List UInt8×Int×Int×Int×Int×Int×Int×Int×Int×Int×List Pt×List tZ×List ua×List Int×List tQ×List Pt×List tZ×List ua×List Int×List tQ)⊕((Int×List UInt8×Int×Int×Int×Int×Int×Int×Int×Int×Int×Int×List UInt8×Int×Int×Int×Int×Int×Int×Int×Int×Int×List Pt×List tZ×List ua×List Int×List tQ×List Pt×List tZ×List ua×List Int×List tQ)⊕(Bool×Int×List UInt8×Int×Int×Int×Int×Int×Int×Int×Int×Int×List Pt×List tZ×List ua×List Int×List tQ))) :=
 (cond (i1.1==165) (some (decide ((b4_5.length:Int)>0))) (some false)).bind λt109 =>
 cond t109
 ((vC b4_5.length 0 (tP ((b4_5.length:Int)-1))).bind λp =>
 (aF (b0_5,b1_5,b2_3,b3_3,(b4_5.take p.2).drop p.1)).bind λt119 =>
 cond t119
 (some (.inr (.inr (true,b0_4,b1_4,b6_1,b7_1,b8_1,b9_1,b10_1,b0_5,b1_5,b2_3,b3_3,b2_5,b3_5,b4_4,b5_1,(b4_5.take p.2).drop p.1))))
 (some (.inl (b0_2,b1_2,b6,b7,b8,b9,b10,b0_3,b1_3,b2_2,b3_2,b0_4,b1_4,b6_1,b7_1,b8_1,b9_1,b10_1,b0_5,b1_5,b2_3,b3_3,b2_4,b3_4,b4_2,b5,b4_3,b2_5,b3_5,b4_4,b5_1,(b4_5.take p.2).drop p.1))))
 (some (.inr (.inl (b0_2,b1_2,b6,b7,b8,b9,b10,b0_3,b1_3,b2_2,b3_2,b0_4,b1_4,b6_1,b7_1,b8_1,b9_1,b10_1,b0_5,b1_5,b2_3,b3_3,b2_4,b3_4,b4_2,b5,b4_3,b2_5,b3_5,b4_4,b5_1,b4_5))))
def dG (p0:tO) (i1:um) (t77:Int) (b0_10:Int) (b1_10:Int) (b2_10:Int) (b3_10:Int) (b4_10:List tQ):Option ((Int×Int×Int×Int×Int×List tQ)⊕(Int×Int×Int×Int×List tQ)) :=
 cond (decide (t77<(i1.2.2.2.2.length:Int)))
 ((at? i1.2.2.2.2 t77).bind λx79 =>
 (aJ p0 x79.1).bind λt86 =>
 (ut b4_10 [t86]).bind λzs88 =>
 some (.inl (tP (t77+1),b0_10,b1_10,b2_10,b3_10,zs88)))
 (some (.inr (b0_10,b1_10,b2_10,b3_10,b4_10)))
def ki (i1:um) (b0_12:Int) (b1_12:List UInt8) (b6_4:Int) (b7_4:Int) (b8_4:Int) (b9_4:Int) (b10_4:Int) (b0_13:Int) (b1_13:Int) (b2_12:Int) (b3_12:Int) (b0_14:Int) (b1_14:List UInt8) (b6_5:Int) (b7_5:Int) (b8_5:Int) (b9_5:Int) (b10_5:Int) (b0_15:Int) (b1_15:Int) (b2_13:Int) (b3_13:Int) (b2_14:List Pt) (b3_14:List tZ) (b4_12:List ua) (b5_4:List Int) (b4_13:List tQ) (b2_15:List Pt) (b3_15:List tZ) (b4_14:List ua) (b5_5:List Int) (b4_15:List tQ):Option ((Int×List UInt8×Int×Int×Int×Int×Int×Int×Int×Int×Int×Int×List UInt8×Int×Int×Int×Int×Int×Int×Int×Int×Int×List Pt×List tZ×List ua×List Int×List tQ×List Pt×List tZ×List ua×List Int×List tQ)⊕((Int×List UInt8×Int×Int×Int×Int×Int×Int×Int×Int×Int×Int×List UInt8×Int×Int×Int×Int×Int×Int×Int×Int×Int×List Pt×List tZ×List ua×List Int×List tQ×List Pt×List tZ×List ua×List Int×List tQ)⊕(Bool×Int×List UInt8×Int×Int×Int×Int×Int×Int×Int×Int×Int×List Pt×List tZ×List ua×List Int×List tQ))) :=
 (cond (i1.1==165) (some (decide ((b4_15.length:Int)>0))) (some false)).bind λt109_1 =>
 cond t109_1
 ((vC b4_15.length 0 (tP ((b4_15.length:Int)-1))).bind λp_1 =>
 (aF (b0_15,b1_15,b2_13,b3_13,(b4_15.take p_1.2).drop p_1.1)).bind λt119_1 =>
 cond t119_1
 (some (.inr (.inr (true,b0_14,b1_14,b6_5,b7_5,b8_5,b9_5,b10_5,b0_15,b1_15,b2_13,b3_13,b2_15,b3_15,b4_14,b5_5,(b4_15.take p_1.2).drop p_1.1))))
 (some (.inl (b0_12,b1_12,b6_4,b7_4,b8_4,b9_4,b10_4,b0_13,b1_13,b2_12,b3_12,b0_14,b1_14,b6_5,b7_5,b8_5,b9_5,b10_5,b0_15,b1_15,b2_13,b3_13,b2_14,b3_14,b4_12,b5_4,b4_13,b2_15,b3_15,b4_14,b5_5,(b4_15.take p_1.2).drop p_1.1))))
 (some (.inr (.inl (b0_12,b1_12,b6_4,b7_4,b8_4,b9_4,b10_4,b0_13,b1_13,b2_12,b3_12,b0_14,b1_14,b6_5,b7_5,b8_5,b9_5,b10_5,b0_15,b1_15,b2_13,b3_13,b2_14,b3_14,b4_12,b5_4,b4_13,b2_15,b3_15,b4_14,b5_5,b4_15))))
def dH (i1:um) (b0_20:Int) (b1_20:List UInt8) (b6_8:Int) (b7_8:Int) (b8_8:Int) (b9_8:Int) (b10_8:Int) (b0_21:Int) (b1_21:Int) (b2_20:Int) (b3_20:Int) (b0_22:Int) (b1_22:List UInt8) (b6_9:Int) (b7_9:Int) (b8_9:Int) (b9_9:Int) (b10_9:Int) (b0_23:Int) (b1_23:Int) (b2_21:Int) (b3_21:Int) (b2_22:List Pt) (b3_22:List tZ) (b4_20:List ua) (b5_8:List Int) (b4_21:List tQ) (b2_23:List Pt) (b3_23:List tZ) (b4_22:List ua) (b5_9:List Int) (b4_23:List tQ):Option ((Int×List UInt8×Int×Int×Int×Int×Int×Int×Int×Int×Int×Int×List UInt8×Int×Int×Int×Int×Int×Int×Int×Int×Int×List Pt×List tZ×List ua×List Int×List tQ×List Pt×List tZ×List ua×List Int×List tQ)⊕((Int×List UInt8×Int×Int×Int×Int×Int×Int×Int×Int×Int×Int×List UInt8×Int×Int×Int×Int×Int×Int×Int×Int×Int×List Pt×List tZ×List ua×List Int×List tQ×List Pt×List tZ×List ua×List Int×List tQ)⊕(Bool×Int×List UInt8×Int×Int×Int×Int×Int×Int×Int×Int×Int×List Pt×List tZ×List ua×List Int×List tQ))) :=
 (cond (i1.1==165) (some (decide ((b4_23.length:Int)>0))) (some false)).bind λt109_2 =>
 cond t109_2
 ((vC b4_23.length 0 (tP ((b4_23.length:Int)-1))).bind λp_2 =>
 (aF (b0_23,b1_23,b2_21,b3_21,(b4_23.take p_2.2).drop p_2.1)).bind λt119_2 =>
 cond t119_2
 (some (.inr (.inr (true,b0_22,b1_22,b6_9,b7_9,b8_9,b9_9,b10_9,b0_23,b1_23,b2_21,b3_21,b2_23,b3_23,b4_22,b5_9,(b4_23.take p_2.2).drop p_2.1))))
 (some (.inl (b0_20,b1_20,b6_8,b7_8,b8_8,b9_8,b10_8,b0_21,b1_21,b2_20,b3_20,b0_22,b1_22,b6_9,b7_9,b8_9,b9_9,b10_9,b0_23,b1_23,b2_21,b3_21,b2_22,b3_22,b4_20,b5_8,b4_21,b2_23,b3_23,b4_22,b5_9,(b4_23.take p_2.2).drop p_2.1))))
 (some (.inr (.inl (b0_20,b1_20,b6_8,b7_8,b8_8,b9_8,b10_8,b0_21,b1_21,b2_20,b3_20,b0_22,b1_22,b6_9,b7_9,b8_9,b9_9,b10_9,b0_23,b1_23,b2_21,b3_21,b2_22,b3_22,b4_20,b5_8,b4_21,b2_23,b3_23,b4_22,b5_9,b4_23))))
def kj (i1:um) (b0_28:Int) (b1_28:List UInt8) (b6_12:Int) (b7_12:Int) (b8_12:Int) (b9_12:Int) (b10_12:Int) (b0_29:Int) (b1_29:Int) (b2_28:Int) (b3_28:Int) (b0_30:Int) (b1_30:List UInt8) (b6_13:Int) (b7_13:Int) (b8_13:Int) (b9_13:Int) (b10_13:Int) (b0_31:Int) (b1_31:Int) (b2_29:Int) (b3_29:Int) (b2_30:List Pt) (b3_30:List tZ) (b4_28:List ua) (b5_12:List Int) (b4_29:List tQ) (b2_31:List Pt) (b3_31:List tZ) (b4_30:List ua) (b5_13:List Int) (b4_31:List tQ):Option ((Int×List UInt8×Int×Int×Int×Int×Int×Int×Int×Int×Int×Int×List UInt8×Int×Int×Int×Int×Int×Int×Int×Int×Int×List Pt×List tZ×List ua×List Int×List tQ×List Pt×List tZ×List ua×List Int×List tQ)⊕((Int×List UInt8×Int×Int×Int×Int×Int×Int×Int×Int×Int×Int×List UInt8×Int×Int×Int×Int×Int×Int×Int×Int×Int×List Pt×List tZ×List ua×List Int×List tQ×List Pt×List tZ×List ua×List Int×List tQ)⊕(Bool×Int×List UInt8×Int×Int×Int×Int×Int×Int×Int×Int×Int×List Pt×List tZ×List ua×List Int×List tQ))) :=
 (cond (i1.1==165) (some (decide ((b4_31.length:Int)>0))) (some false)).bind λt109_3 =>
 cond t109_3
 ((vC b4_31.length 0 (tP ((b4_31.length:Int)-1))).bind λp_3 =>
 (aF (b0_31,b1_31,b2_29,b3_29,(b4_31.take p_3.2).drop p_3.1)).bind λt119_3 =>
 cond t119_3
 (some (.inr (.inr (true,b0_30,b1_30,b6_13,b7_13,b8_13,b9_13,b10_13,b0_31,b1_31,b2_29,b3_29,b2_31,b3_31,b4_30,b5_13,(b4_31.take p_3.2).drop p_3.1))))
 (some (.inl (b0_28,b1_28,b6_12,b7_12,b8_12,b9_12,b10_12,b0_29,b1_29,b2_28,b3_28,b0_30,b1_30,b6_13,b7_13,b8_13,b9_13,b10_13,b0_31,b1_31,b2_29,b3_29,b2_30,b3_30,b4_28,b5_12,b4_29,b2_31,b3_31,b4_30,b5_13,(b4_31.take p_3.2).drop p_3.1))))
 (some (.inr (.inl (b0_28,b1_28,b6_12,b7_12,b8_12,b9_12,b10_12,b0_29,b1_29,b2_28,b3_28,b0_30,b1_30,b6_13,b7_13,b8_13,b9_13,b10_13,b0_31,b1_31,b2_29,b3_29,b2_30,b3_30,b4_28,b5_12,b4_29,b2_31,b3_31,b4_30,b5_13,b4_31))))
def bV (p0:tO) (i1:um):Option (tO×um×Bool) :=
 (aj p0).bind λt14 =>
 (aM p0).bind λt16 =>
 (cond (!t16)
 (some true)
 ((bL i1).bind λt20 =>
 some (!t20))).bind λt22 =>
 (cond t22 (some true) (some (i1.1==162))).bind λt27 =>
 cond t27
 (some (t14,(0,0,0,0,[]),false))
 (cond (i1.1==160)
 ((loop (λz=>dE p0 i1 z.1 z.2.1 z.2.2.1 z.2.2.2.1 z.2.2.2.2.1 z.2.2.2.2.2) (0,162,i1.2.1,0,0,[])).bind λd =>
 (aF d).bind λt98 =>
 cond t98
 (some (t14,d,true))
 ((loop (λz=>kh i1 z.1 z.2.1 z.2.2.1 z.2.2.2.1 z.2.2.2.2.1 z.2.2.2.2.2.1 z.2.2.2.2.2.2.1 z.2.2.2.2.2.2.2.1 z.2.2.2.2.2.2.2.2.1 z.2.2.2.2.2.2.2.2.2.1 z.2.2.2.2.2.2.2.2.2.2.1 z.2.2.2.2.2.2.2.2.2.2.2.1 z.2.2.2.2.2.2.2.2.2.2.2.2.1 z.2.2.2.2.2.2.2.2.2.2.2.2.2.1 z.2.2.2.2.2.2.2.2.2.2.2.2.2.2.1 z.2.2.2.2.2.2.2.2.2.2.2.2.2.2.2.1 z.2.2.2.2.2.2.2.2.2.2.2.2.2.2.2.2.1 z.2.2.2.2.2.2.2.2.2.2.2.2.2.2.2.2.2.1 z.2.2.2.2.2.2.2.2.2.2.2.2.2.2.2.2.2.2.1 z.2.2.2.2.2.2.2.2.2.2.2.2.2.2.2.2.2.2.2.1 z.2.2.2.2.2.2.2.2.2.2.2.2.2.2.2.2.2.2.2.2.1 z.2.2.2.2.2.2.2.2.2.2.2.2.2.2.2.2.2.2.2.2.2.1 z.2.2.2.2.2.2.2.2.2.2.2.2.2.2.2.2.2.2.2.2.2.2.1 z.2.2.2.2.2.2.2.2.2.2.2.2.2.2.2.2.2.2.2.2.2.2.2.1 z.2.2.2.2.2.2.2.2.2.2.2.2.2.2.2.2.2.2.2.2.2.2.2.2.1 z.2.2.2.2.2.2.2.2.2.2.2.2.2.2.2.2.2.2.2.2.2.2.2.2.2.1 z.2.2.2.2.2.2.2.2.2.2.2.2.2.2.2.2.2.2.2.2.2.2.2.2.2.2.1 z.2.2.2.2.2.2.2.2.2.2.2.2.2.2.2.2.2.2.2.2.2.2.2.2.2.2.2.1 z.2.2.2.2.2.2.2.2.2.2.2.2.2.2.2.2.2.2.2.2.2.2.2.2.2.2.2.2.1 z.2.2.2.2.2.2.2.2.2.2.2.2.2.2.2.2.2.2.2.2.2.2.2.2.2.2.2.2.2.1 z.2.2.2.2.2.2.2.2.2.2.2.2.2.2.2.2.2.2.2.2.2.2.2.2.2.2.2.2.2.2.1 z.2.2.2.2.2.2.2.2.2.2.2.2.2.2.2.2.2.2.2.2.2.2.2.2.2.2.2.2.2.2.2) (0,[],0,0,0,0,0,0,0,0,0,t14.1,t14.2.1,t14.2.2.2.2.2.2.1,t14.2.2.2.2.2.2.2.1,t14.2.2.2.2.2.2.2.2.1,t14.2.2.2.2.2.2.2.2.2.1,t14.2.2.2.2.2.2.2.2.2.2,d.1,d.2.1,d.2.2.1,d.2.2.2.1,[],[],[],[],[],t14.2.2.1,t14.2.2.2.1,t14.2.2.2.2.1,t14.2.2.2.2.2.1,d.2.2.2.2)).bind (Sum.elim (λd_1 =>
 (aj p0).bind λt123 =>
 some (t123,(162,i1.2.1,7,0,[]),true)) (λr=>some ((r.2.1,r.2.2.1,r.2.2.2.2.2.2.2.2.2.2.2.2.1,r.2.2.2.2.2.2.2.2.2.2.2.2.2.1,r.2.2.2.2.2.2.2.2.2.2.2.2.2.2.1,r.2.2.2.2.2.2.2.2.2.2.2.2.2.2.2.1,r.2.2.2.1,r.2.2.2.2.1,r.2.2.2.2.2.1,r.2.2.2.2.2.2.1,r.2.2.2.2.2.2.2.1),(r.2.2.2.2.2.2.2.2.1,r.2.2.2.2.2.2.2.2.2.1,r.2.2.2.2.2.2.2.2.2.2.1,r.2.2.2.2.2.2.2.2.2.2.2.1,r.2.2.2.2.2.2.2.2.2.2.2.2.2.2.2.2),r.1)))))
 (cond (i1.1==161)
 ((loop (λz=>dG p0 i1 z.1 z.2.1 z.2.2.1 z.2.2.2.1 z.2.2.2.2.1 z.2.2.2.2.2) (0,162,i1.2.1,0,0,[])).bind λd_2 =>
 (aF d_2).bind λt98_1 =>
 cond t98_1
 (some (t14,d_2,true))
 ((loop (λz=>ki i1 z.1 z.2.1 z.2.2.1 z.2.2.2.1 z.2.2.2.2.1 z.2.2.2.2.2.1 z.2.2.2.2.2.2.1 z.2.2.2.2.2.2.2.1 z.2.2.2.2.2.2.2.2.1 z.2.2.2.2.2.2.2.2.2.1 z.2.2.2.2.2.2.2.2.2.2.1 z.2.2.2.2.2.2.2.2.2.2.2.1 z.2.2.2.2.2.2.2.2.2.2.2.2.1 z.2.2.2.2.2.2.2.2.2.2.2.2.2.1 z.2.2.2.2.2.2.2.2.2.2.2.2.2.2.1 z.2.2.2.2.2.2.2.2.2.2.2.2.2.2.2.1 z.2.2.2.2.2.2.2.2.2.2.2.2.2.2.2.2.1 z.2.2.2.2.2.2.2.2.2.2.2.2.2.2.2.2.2.1 z.2.2.2.2.2.2.2.2.2.2.2.2.2.2.2.2.2.2.1 z.2.2.2.2.2.2.2.2.2.2.2.2.2.2.2.2.2.2.2.1 z.2.2.2.2.2.2.2.2.2.2.2.2.2.2.2.2.2.2.2.2.1 z.2.2.2.2.2.2.2.2.2.2.2.2.2.2.2.2.2.2.2.2.2.1 z.2.2.2.2.2.2.2.2.2.2.2.2.2.2.2.2.2.2.2.2.2.2.1 z.2.2.2.2.2.2.2.2.2.2.2.2.2.2.2.2.2.2.2.2.2.2.2.1 z.2.2.2.2.2.2.2.2.2.2.2.2.2.2.2.2.2.2.2.2.2.2.2.2.1 z.2.2.2.2.2.2.2.2.2.2.2.2.2.2.2.2.2.2.2.2.2.2.2.2.2.1 z.2.2.2.2.2.2.2.2.2.2.2.2.2.2.2.2.2.2.2.2.2.2.2.2.2.2.1 z.2.2.2.2.2.2.2.2.2.2.2.2.2.2.2.2.2.2.2.2.2.2.2.2.2.2.2.1 z.2.2.2.2.2.2.2.2.2.2.2.2.2.2.2.2.2.2.2.2.2.2.2.2.2.2.2.2.1 z.2.2.2.2.2.2.2.2.2.2.2.2.2.2.2.2.2.2.2.2.2.2.2.2.2.2.2.2.2.1 z.2.2.2.2.2.2.2.2.2.2.2.2.2.2.2.2.2.2.2.2.2.2.2.2.2.2.2.2.2.2.1 z.2.2.2.2.2.2.2.2.2.2.2.2.2.2.2.2.2.2.2.2.2.2.2.2.2.2.2.2.2.2.2) (0,[],0,0,0,0,0,0,0,0,0,t14.1,t14.2.1,t14.2.2.2.2.2.2.1,t14.2.2.2.2.2.2.2.1,t14.2.2.2.2.2.2.2.2.1,t14.2.2.2.2.2.2.2.2.2.1,t14.2.2.2.2.2.2.2.2.2.2,d_2.1,d_2.2.1,d_2.2.2.1,d_2.2.2.2.1,[],[],[],[],[],t14.2.2.1,t14.2.2.2.1,t14.2.2.2.2.1,t14.2.2.2.2.2.1,d_2.2.2.2.2)).bind (Sum.elim (λd_3 =>
 (aj p0).bind λt123_1 =>
 some (t123_1,(162,i1.2.1,7,0,[]),true)) (λr_1=>some ((r_1.2.1,r_1.2.2.1,r_1.2.2.2.2.2.2.2.2.2.2.2.2.1,r_1.2.2.2.2.2.2.2.2.2.2.2.2.2.1,r_1.2.2.2.2.2.2.2.2.2.2.2.2.2.2.1,r_1.2.2.2.2.2.2.2.2.2.2.2.2.2.2.2.1,r_1.2.2.2.1,r_1.2.2.2.2.1,r_1.2.2.2.2.2.1,r_1.2.2.2.2.2.2.1,r_1.2.2.2.2.2.2.2.1),(r_1.2.2.2.2.2.2.2.2.1,r_1.2.2.2.2.2.2.2.2.2.1,r_1.2.2.2.2.2.2.2.2.2.2.1,r_1.2.2.2.2.2.2.2.2.2.2.2.1,r_1.2.2.2.2.2.2.2.2.2.2.2.2.2.2.2.2),r_1.1)))))
 (cond (i1.1==165)
 ((eZ p0 i1).bind λt95 =>
 (aF (162,i1.2.1,0,0,t95)).bind λt98_2 =>
 cond t98_2
 (some (t14,(162,i1.2.1,0,0,t95),true))
 ((loop (λz=>dH i1 z.1 z.2.1 z.2.2.1 z.2.2.2.1 z.2.2.2.2.1 z.2.2.2.2.2.1 z.2.2.2.2.2.2.1 z.2.2.2.2.2.2.2.1 z.2.2.2.2.2.2.2.2.1 z.2.2.2.2.2.2.2.2.2.1 z.2.2.2.2.2.2.2.2.2.2.1 z.2.2.2.2.2.2.2.2.2.2.2.1 z.2.2.2.2.2.2.2.2.2.2.2.2.1 z.2.2.2.2.2.2.2.2.2.2.2.2.2.1 z.2.2.2.2.2.2.2.2.2.2.2.2.2.2.1 z.2.2.2.2.2.2.2.2.2.2.2.2.2.2.2.1 z.2.2.2.2.2.2.2.2.2.2.2.2.2.2.2.2.1 z.2.2.2.2.2.2.2.2.2.2.2.2.2.2.2.2.2.1 z.2.2.2.2.2.2.2.2.2.2.2.2.2.2.2.2.2.2.1 z.2.2.2.2.2.2.2.2.2.2.2.2.2.2.2.2.2.2.2.1 z.2.2.2.2.2.2.2.2.2.2.2.2.2.2.2.2.2.2.2.2.1 z.2.2.2.2.2.2.2.2.2.2.2.2.2.2.2.2.2.2.2.2.2.1 z.2.2.2.2.2.2.2.2.2.2.2.2.2.2.2.2.2.2.2.2.2.2.1 z.2.2.2.2.2.2.2.2.2.2.2.2.2.2.2.2.2.2.2.2.2.2.2.1 z.2.2.2.2.2.2.2.2.2.2.2.2.2.2.2.2.2.2.2.2.2.2.2.2.1 z.2.2.2.2.2.2.2.2.2.2.2.2.2.2.2.2.2.2.2.2.2.2.2.2.2.1 z.2.2.2.2.2.2.2.2.2.2.2.2.2.2.2.2.2.2.2.2.2.2.2.2.2.2.1 z.2.2.2.2.2.2.2.2.2.2.2.2.2.2.2.2.2.2.2.2.2.2.2.2.2.2.2.1 z.2.2.2.2.2.2.2.2.2.2.2.2.2.2.2.2.2.2.2.2.2.2.2.2.2.2.2.2.1 z.2.2.2.2.2.2.2.2.2.2.2.2.2.2.2.2.2.2.2.2.2.2.2.2.2.2.2.2.2.1 z.2.2.2.2.2.2.2.2.2.2.2.2.2.2.2.2.2.2.2.2.2.2.2.2.2.2.2.2.2.2.1 z.2.2.2.2.2.2.2.2.2.2.2.2.2.2.2.2.2.2.2.2.2.2.2.2.2.2.2.2.2.2.2) (0,[],0,0,0,0,0,0,0,0,0,t14.1,t14.2.1,t14.2.2.2.2.2.2.1,t14.2.2.2.2.2.2.2.1,t14.2.2.2.2.2.2.2.2.1,t14.2.2.2.2.2.2.2.2.2.1,t14.2.2.2.2.2.2.2.2.2.2,162,i1.2.1,0,0,[],[],[],[],[],t14.2.2.1,t14.2.2.2.1,t14.2.2.2.2.1,t14.2.2.2.2.2.1,t95)).bind (Sum.elim (λd_4 =>
 (aj p0).bind λt123_2 =>
 some (t123_2,(162,i1.2.1,7,0,[]),true)) (λr_2=>some ((r_2.2.1,r_2.2.2.1,r_2.2.2.2.2.2.2.2.2.2.2.2.2.1,r_2.2.2.2.2.2.2.2.2.2.2.2.2.2.1,r_2.2.2.2.2.2.2.2.2.2.2.2.2.2.2.1,r_2.2.2.2.2.2.2.2.2.2.2.2.2.2.2.2.1,r_2.2.2.2.1,r_2.2.2.2.2.1,r_2.2.2.2.2.2.1,r_2.2.2.2.2.2.2.1,r_2.2.2.2.2.2.2.2.1),(r_2.2.2.2.2.2.2.2.2.1,r_2.2.2.2.2.2.2.2.2.2.1,r_2.2.2.2.2.2.2.2.2.2.2.1,r_2.2.2.2.2.2.2.2.2.2.2.2.1,r_2.2.2.2.2.2.2.2.2.2.2.2.2.2.2.2.2),r_2.1)))))
 ((cI p0 i1.2.2.2.2).bind λt39 =>
 (cK i1.2.2.2.2).bind λt47 =>
 (aF (162,i1.2.1,t39.2.1,t39.2.2,t47)).bind λt98_3 =>
 cond t98_3
 (some (t39.1,(162,i1.2.1,t39.2.1,t39.2.2,t47),true))
 ((loop (λz=>kj i1 z.1 z.2.1 z.2.2.1 z.2.2.2.1 z.2.2.2.2.1 z.2.2.2.2.2.1 z.2.2.2.2.2.2.1 z.2.2.2.2.2.2.2.1 z.2.2.2.2.2.2.2.2.1 z.2.2.2.2.2.2.2.2.2.1 z.2.2.2.2.2.2.2.2.2.2.1 z.2.2.2.2.2.2.2.2.2.2.2.1 z.2.2.2.2.2.2.2.2.2.2.2.2.1 z.2.2.2.2.2.2.2.2.2.2.2.2.2.1 z.2.2.2.2.2.2.2.2.2.2.2.2.2.2.1 z.2.2.2.2.2.2.2.2.2.2.2.2.2.2.2.1 z.2.2.2.2.2.2.2.2.2.2.2.2.2.2.2.2.1 z.2.2.2.2.2.2.2.2.2.2.2.2.2.2.2.2.2.1 z.2.2.2.2.2.2.2.2.2.2.2.2.2.2.2.2.2.2.1 z.2.2.2.2.2.2.2.2.2.2.2.2.2.2.2.2.2.2.2.1 z.2.2.2.2.2.2.2.2.2.2.2.2.2.2.2.2.2.2.2.2.1 z.2.2.2.2.2.2.2.2.2.2.2.2.2.2.2.2.2.2.2.2.2.1 z.2.2.2.2.2.2.2.2.2.2.2.2.2.2.2.2.2.2.2.2.2.2.1 z.2.2.2.2.2.2.2.2.2.2.2.2.2.2.2.2.2.2.2.2.2.2.2.1 z.2.2.2.2.2.2.2.2.2.2.2.2.2.2.2.2.2.2.2.2.2.2.2.2.1 z.2.2.2.2.2.2.2.2.2.2.2.2.2.2.2.2.2.2.2.2.2.2.2.2.2.1 z.2.2.2.2.2.2.2.2.2.2.2.2.2.2.2.2.2.2.2.2.2.2.2.2.2.2.1 z.2.2.2.2.2.2.2.2.2.2.2.2.2.2.2.2.2.2.2.2.2.2.2.2.2.2.2.1 z.2.2.2.2.2.2.2.2.2.2.2.2.2.2.2.2.2.2.2.2.2.2.2.2.2.2.2.2.1 z.2.2.2.2.2.2.2.2.2.2.2.2.2.2.2.2.2.2.2.2.2.2.2.2.2.2.2.2.2.1 z.2.2.2.2.2.2.2.2.2.2.2.2.2.2.2.2.2.2.2.2.2.2.2.2.2.2.2.2.2.2.1 z.2.2.2.2.2.2.2.2.2.2.2.2.2.2.2.2.2.2.2.2.2.2.2.2.2.2.2.2.2.2.2) (0,[],0,0,0,0,0,0,0,0,0,t39.1.1,t39.1.2.1,t39.1.2.2.2.2.2.2.1,t39.1.2.2.2.2.2.2.2.1,t39.1.2.2.2.2.2.2.2.2.1,t39.1.2.2.2.2.2.2.2.2.2.1,t39.1.2.2.2.2.2.2.2.2.2.2,162,i1.2.1,t39.2.1,t39.2.2,[],[],[],[],[],t39.1.2.2.1,t39.1.2.2.2.1,t39.1.2.2.2.2.1,t39.1.2.2.2.2.2.1,t47)).bind (Sum.elim (λd_5 =>
 (aj p0).bind λt123_3 =>
 some (t123_3,(162,i1.2.1,7,0,[]),true)) (λr_3=>some ((r_3.2.1,r_3.2.2.1,r_3.2.2.2.2.2.2.2.2.2.2.2.2.1,r_3.2.2.2.2.2.2.2.2.2.2.2.2.2.1,r_3.2.2.2.2.2.2.2.2.2.2.2.2.2.2.1,r_3.2.2.2.2.2.2.2.2.2.2.2.2.2.2.2.1,r_3.2.2.2.1,r_3.2.2.2.2.1,r_3.2.2.2.2.2.1,r_3.2.2.2.2.2.2.1,r_3.2.2.2.2.2.2.2.1),(r_3.2.2.2.2.2.2.2.2.1,r_3.2.2.2.2.2.2.2.2.2.1,r_3.2.2.2.2.2.2.2.2.2.2.1,r_3.2.2.2.2.2.2.2.2.2.2.2.1,r_3.2.2.2.2.2.2.2.2.2.2.2.2.2.2.2.2),r_3.1))))))))
def kk:FL:=(241,⟨[.val true uc false,.val true vT false],[.val true uc (some true),.val true vT (some true),.val false uD (some true)],λa=>bV a.1 a.2⟩)::kg
theorem pm:Gd kk:=tX pk 241 Tryz.f241 [(1,⟨⟨[(54,false,[dI])],[(1052672,.box [dI,dI,dI,dI,.own 1000001000]),(1000001000,.root u5 true)]⟩,
 ⟨[],[(1052672,.box [dI,dI,dI,dI,.own 1000001300]),(1000001300,.root u5 true)]⟩,none⟩),
 (3,⟨⟨[(77,false,[dI])],[(1052672,.box [dI,dI,dI,dI,.own 1000003000]),(1000003000,.root u5 true)]⟩,
 ⟨[],[(1052672,.box [dI,dI,dI,dI,.own 1000003300]),(1000003300,.root u5 true)]⟩,none⟩),
 (5,⟨⟨us 105 4 [],[(3072,.box [dI,dS,.own 1000005000,.own 1000005001,.own 1000005002,.own 1000005003,dI,dI,dI,dI,dI]),(4096,.box [dI,dI,dI,dI,.own 1000005004]),(265216,.box [dI,dS,.own 1000005005,.own 1000005006,.own 1000005007,.own 1000005008,dI,dI,dI,dI,dI]),(1052672,.box [dI,dI,dI,dI,.own 1000005009]),(1000005000,.root vV true),(1000005001,.root uo true),(1000005002,.root uU true),(1000005003,.root tU true),(1000005004,.root u5 true),(1000005005,.root vV true),(1000005006,.root uo true),(1000005007,.root uU true),(1000005008,.root tU true),(1000005009,.root u5 true)]⟩,
 ⟨[],[(3072,.box [dI,dS,.own 1000005300,.own 1000005301,.own 1000005302,.own 1000005303,dI,dI,dI,dI,dI]),(4096,.box [dI,dI,dI,dI,.own 1000005304]),(265216,.box [dI,dS,.own 1000005305,.own 1000005306,.own 1000005307,.own 1000005308,dI,dI,dI,dI,dI]),(1052672,.box [dI,dI,dI,dI,.own 1000005309]),(1000005300,.root vV true),(1000005301,.root uo true),(1000005302,.root uU true),(1000005303,.root tU true),(1000005304,.root u5 true),(1000005305,.root vV true),(1000005306,.root uo true),(1000005307,.root uU true),(1000005308,.root tU true),(1000005309,.root u5 true)]⟩,some ⟨[(6,false,[dB])],[(3072,.box [dI,dS,.own 1000005600,.own 1000005601,.own 1000005602,.own 1000005603,dI,dI,dI,dI,dI]),(4096,.box [dI,dI,dI,dI,.own 1000005604]),(1000005600,.root vV true),(1000005601,.root uo true),(1000005602,.root uU true),(1000005603,.root tU true),(1000005604,.root u5 true)]⟩⟩)] Tryz.func241
def dJ (p0:um):Option um :=
 (cK p0.2.2.2.2).bind λt8 =>
 (aF (162,p0.2.1,6,1,t8)).bind λt11 =>
 cond (!t11) (some (162,p0.2.1,7,0,[])) (some (162,p0.2.1,6,1,t8))
def kl:FL:=(242,⟨[.val true vT false],[.val true vT (some true)],λa=>dJ a⟩)::kk
theorem po:Gd kl:=tX pm 242 Tryz.f242 [] Tryz.func242
def dK (p0:ue) (i1:Int):Option (ue×List vB) :=
 (ix p0.2.2.2.2.2.2.2.2.2.2.2.2.1.length i1).bind λj12 =>
 (p0.2.2.2.2.2.2.2.2.2.2.2.2.1[j12]?).bind λx13 =>
 cond (x13.2.2.2.1 != 163)
 ((bV (x13.2.2.2.2.2.2.2.2.1,x13.2.2.2.2.2.2.2.2.2.1,x13.2.2.2.2.2.2.2.2.2.2.1,x13.2.2.2.2.2.2.2.2.2.2.2.1,x13.2.2.2.2.2.2.2.2.2.2.2.2.1,x13.2.2.2.2.2.2.2.2.2.2.2.2.2.1,x13.2.2.2.2.2.2.2.2.2.2.2.2.2.2.1,x13.2.2.2.2.2.2.2.2.2.2.2.2.2.2.2.1,x13.2.2.2.2.2.2.2.2.2.2.2.2.2.2.2.2.1,x13.2.2.2.2.2.2.2.2.2.2.2.2.2.2.2.2.2.1,x13.2.2.2.2.2.2.2.2.2.2.2.2.2.2.2.2.2.2.1) (x13.2.2.2.1,x13.2.2.2.2.1,x13.2.2.2.2.2.1,x13.2.2.2.2.2.2.1,x13.2.2.2.2.2.2.2.1)).bind λt41 =>
 (bx p0 i1).bind λt81 =>
 some (t81,[(x13.1,t41.2.1.1,t41.2.1.2.1,t41.2.1.2.2.1,t41.2.1.2.2.2.1,t41.2.1.2.2.2.2)]))
 (let t46:=p0.2.2.2.2.2.2.2.2.2.2.1==x13.2.2.2.2.2.2.2.2.2.2.2.2.2.2.2.2.2.2.1
 cond t46
 ((bV (p0.1,p0.2.1,p0.2.2.1,p0.2.2.2.1,p0.2.2.2.2.1,p0.2.2.2.2.2.1,p0.2.2.2.2.2.2.1,p0.2.2.2.2.2.2.2.1,p0.2.2.2.2.2.2.2.2.1,p0.2.2.2.2.2.2.2.2.2.1,p0.2.2.2.2.2.2.2.2.2.2.1) (x13.2.2.2.1,x13.2.2.2.2.1,x13.2.2.2.2.2.1,x13.2.2.2.2.2.2.1,x13.2.2.2.2.2.2.2.1)).bind λt64 =>
 (bx (t64.1.1,t64.1.2.1,t64.1.2.2.1,t64.1.2.2.2.1,t64.1.2.2.2.2.1,t64.1.2.2.2.2.2.1,t64.1.2.2.2.2.2.2.1,t64.1.2.2.2.2.2.2.2.1,t64.1.2.2.2.2.2.2.2.2.1,t64.1.2.2.2.2.2.2.2.2.2.1,t64.1.2.2.2.2.2.2.2.2.2.2,p0.2.2.2.2.2.2.2.2.2.2.2.1,p0.2.2.2.2.2.2.2.2.2.2.2.2.1,p0.2.2.2.2.2.2.2.2.2.2.2.2.2.1,p0.2.2.2.2.2.2.2.2.2.2.2.2.2.2) i1).bind λt81_1 =>
 some (t81_1,[(x13.1,t64.2.1.1,t64.2.1.2.1,t64.2.1.2.2.1,t64.2.1.2.2.2.1,t64.2.1.2.2.2.2)]))
 (let t71:=decide (x13.2.2.2.2.2.2.2.2.2.2.2.2.2.2.2.2.2.2.2.2>=3)
 cond t71
 ((dJ (x13.2.2.2.1,x13.2.2.2.2.1,x13.2.2.2.2.2.1,x13.2.2.2.2.2.2.1,x13.2.2.2.2.2.2.2.1)).bind λt77 =>
 (bx p0 i1).bind λt81_2 =>
 some (t81_2,[(x13.1,t77.1,t77.2.1,t77.2.2.1,t77.2.2.2.1,t77.2.2.2.2)]))
 ((ix p0.2.2.2.2.2.2.2.2.2.2.2.2.1.length i1).bind λj22 =>
 (p0.2.2.2.2.2.2.2.2.2.2.2.2.1[j22]?).bind λx24 =>
 (ix p0.2.2.2.2.2.2.2.2.2.2.2.2.1.length i1).bind λj26 =>
 (p0.2.2.2.2.2.2.2.2.2.2.2.2.1[j26]?).bind λx =>
 (dt (p0.1,p0.2.1,p0.2.2.1,p0.2.2.2.1,p0.2.2.2.2.1,p0.2.2.2.2.2.1,p0.2.2.2.2.2.2.1,p0.2.2.2.2.2.2.2.1,p0.2.2.2.2.2.2.2.2.1,p0.2.2.2.2.2.2.2.2.2.1,p0.2.2.2.2.2.2.2.2.2.2.1,p0.2.2.2.2.2.2.2.2.2.2.2.1,p0.2.2.2.2.2.2.2.2.2.2.2.2.1.set j26 (x.1,x.2.1,x.2.2.1,x.2.2.2.1,x.2.2.2.2.1,x.2.2.2.2.2.1,x.2.2.2.2.2.2.1,x.2.2.2.2.2.2.2.1,x.2.2.2.2.2.2.2.2.1,x.2.2.2.2.2.2.2.2.2.1,x.2.2.2.2.2.2.2.2.2.2.1,x.2.2.2.2.2.2.2.2.2.2.2.1,x.2.2.2.2.2.2.2.2.2.2.2.2.1,x.2.2.2.2.2.2.2.2.2.2.2.2.2.1,x.2.2.2.2.2.2.2.2.2.2.2.2.2.2.1,x.2.2.2.2.2.2.2.2.2.2.2.2.2.2.2.1,x.2.2.2.2.2.2.2.2.2.2.2.2.2.2.2.2.1,x.2.2.2.2.2.2.2.2.2.2.2.2.2.2.2.2.2.1,x.2.2.2.2.2.2.2.2.2.2.2.2.2.2.2.2.2.2.1,x.2.2.2.2.2.2.2.2.2.2.2.2.2.2.2.2.2.2.2.1,tP (x24.2.2.2.2.2.2.2.2.2.2.2.2.2.2.2.2.2.2.2.2+1)),p0.2.2.2.2.2.2.2.2.2.2.2.2.2.1,p0.2.2.2.2.2.2.2.2.2.2.2.2.2.2) i1).bind λt30 =>
 some (t30,[]))))
def ko:FL:=(149,⟨[.ptr uN (some true),.val false tU false],[.val false (.one (.sl xE)) (some true)],λa=>dK a.1 a.2⟩)::kl
theorem pp:Gd ko:=tX po 149 Tryz.f149 [] Tryz.func149
def dL (a0:ue) (k1:Int):Option (ue×List vB) :=
 (ix a0.2.2.2.2.2.2.2.2.2.2.2.2.1.length k1).bind λj11 =>
 (a0.2.2.2.2.2.2.2.2.2.2.2.2.1[j11]?).bind λx19 =>
 cond (x19.2.2.1==0)
 ((du a0 k1).bind λt23 =>
 some (t23,[]))
 ((a0.2.2.2.2.2.2.2.2.2.2.2.2.1[j11]?).bind λx28 =>
 cond (x28.2.2.1==2)
 ((dK a0 k1).bind λt32 =>
 some t32)
 ((a0.2.2.2.2.2.2.2.2.2.2.2.2.1[j11]?).bind λx37 =>
 (a0.2.2.2.2.2.2.2.2.2.2.2.2.1[j11]?).bind λx42 =>
 let t33:=decide (x37.2.2.2.2.2.2.2.2.2.2.2.2.2.2.2.2.2.2.2.1<(x42.2.2.2.2.2.2.2.1.length:Int))
 cond t33
 ((a0.2.2.2.2.2.2.2.2.2.2.2.2.1[j11]?).bind λx48 =>
 (a0.2.2.2.2.2.2.2.2.2.2.2.2.1[j11]?).bind λx =>
 some ((a0.1,a0.2.1,a0.2.2.1,a0.2.2.2.1,a0.2.2.2.2.1,a0.2.2.2.2.2.1,a0.2.2.2.2.2.2.1,a0.2.2.2.2.2.2.2.1,a0.2.2.2.2.2.2.2.2.1,a0.2.2.2.2.2.2.2.2.2.1,a0.2.2.2.2.2.2.2.2.2.2.1,a0.2.2.2.2.2.2.2.2.2.2.2.1,a0.2.2.2.2.2.2.2.2.2.2.2.2.1.set j11 (x.1,x.2.1,x.2.2.1,x.2.2.2.1,x.2.2.2.2.1,x.2.2.2.2.2.1,x.2.2.2.2.2.2.1,x.2.2.2.2.2.2.2.1,x.2.2.2.2.2.2.2.2.1,x.2.2.2.2.2.2.2.2.2.1,x.2.2.2.2.2.2.2.2.2.2.1,x.2.2.2.2.2.2.2.2.2.2.2.1,x.2.2.2.2.2.2.2.2.2.2.2.2.1,x.2.2.2.2.2.2.2.2.2.2.2.2.2.1,x.2.2.2.2.2.2.2.2.2.2.2.2.2.2.1,x.2.2.2.2.2.2.2.2.2.2.2.2.2.2.2.1,x.2.2.2.2.2.2.2.2.2.2.2.2.2.2.2.2.1,x.2.2.2.2.2.2.2.2.2.2.2.2.2.2.2.2.2.1,x.2.2.2.2.2.2.2.2.2.2.2.2.2.2.2.2.2.2.1,tP (x48.2.2.2.2.2.2.2.2.2.2.2.2.2.2.2.2.2.2.2.1+1),x.2.2.2.2.2.2.2.2.2.2.2.2.2.2.2.2.2.2.2.2),a0.2.2.2.2.2.2.2.2.2.2.2.2.2.1,a0.2.2.2.2.2.2.2.2.2.2.2.2.2.2),[]))
 ((a0.2.2.2.2.2.2.2.2.2.2.2.2.1[j11]?).bind λx_1 =>
 some ((a0.1,a0.2.1,a0.2.2.1,a0.2.2.2.1,a0.2.2.2.2.1,a0.2.2.2.2.2.1,a0.2.2.2.2.2.2.1,a0.2.2.2.2.2.2.2.1,a0.2.2.2.2.2.2.2.2.1,a0.2.2.2.2.2.2.2.2.2.1,a0.2.2.2.2.2.2.2.2.2.2.1,a0.2.2.2.2.2.2.2.2.2.2.2.1,a0.2.2.2.2.2.2.2.2.2.2.2.2.1.set j11 (x_1.1,x_1.2.1,2,x_1.2.2.2.1,x_1.2.2.2.2.1,x_1.2.2.2.2.2.1,x_1.2.2.2.2.2.2.1,x_1.2.2.2.2.2.2.2.1,x_1.2.2.2.2.2.2.2.2.1,x_1.2.2.2.2.2.2.2.2.2.1,x_1.2.2.2.2.2.2.2.2.2.2.1,x_1.2.2.2.2.2.2.2.2.2.2.2.1,x_1.2.2.2.2.2.2.2.2.2.2.2.2.1,x_1.2.2.2.2.2.2.2.2.2.2.2.2.2.1,x_1.2.2.2.2.2.2.2.2.2.2.2.2.2.2.1,x_1.2.2.2.2.2.2.2.2.2.2.2.2.2.2.2.1,x_1.2.2.2.2.2.2.2.2.2.2.2.2.2.2.2.2.1,x_1.2.2.2.2.2.2.2.2.2.2.2.2.2.2.2.2.2.1,x_1.2.2.2.2.2.2.2.2.2.2.2.2.2.2.2.2.2.2.1,x_1.2.2.2.2.2.2.2.2.2.2.2.2.2.2.2.2.2.2.2.1,x_1.2.2.2.2.2.2.2.2.2.2.2.2.2.2.2.2.2.2.2.2),a0.2.2.2.2.2.2.2.2.2.2.2.2.2.1,a0.2.2.2.2.2.2.2.2.2.2.2.2.2.2),[]))))
def kq:FL:=(75,⟨[.ptr uN (some true),.val false tU false],[.val false (.one (.sl xE)) (some true)],λa=>dL a.1 a.2⟩)::ko
theorem pq:Gd kq:=tX pp 75 Tryz.f75 [] Tryz.func75
def aR (a0:ue) (k1:Int):Option (ue×List vB) :=
 (fj a0).bind λt9 =>
 (eU a0).bind λt11 =>
 (cond (!t11)
 (some true)
 ((aa k1 0 (tP ((a0.2.2.2.2.2.2.2.2.2.2.2.2.1.length:Int)-1))).bind λt19 =>
 some (!t19))).bind λt21 =>
 cond t21
 (some (t9,[]))
 ((dL t9 k1).bind λt24 =>
 some t24)
def kt:FL:=(32,⟨[.val true uN false,.val false tU false],[.val true uN (some true),.val false (.one (.sl xE)) (some true)],λa=>aR a.1 a.2⟩)::kq
theorem pr:Gd kt:=tX pq 32 Tryz.f32 [] Tryz.func32
def fk (a0:zz) (b1:zz):Option Bool :=
 cond (a0.1 != b1.1)
 (some false)
 (cond (a0.2.1 != b1.2.1)
 (some false)
 (cond (a0.2.2.1 != b1.2.2.1)
 (some false)
 (cond (a0.2.2.2.1 != b1.2.2.2.1)
 (some false)
 (cond (a0.2.2.2.2 != b1.2.2.2.2) (some false) (some true)))))
def ku:FL:=(126,⟨[.val true yD false,.val true yD false],[.val false uD (some true)],λa=>fk a.1 a.2⟩)::kt
theorem pu:Gd ku:=tX pr 126 Tryz.f126 [] Tryz.func126
def dM (a0:Pt) (b1:Pt):Option Bool :=
 cond (!(a0.1==b1.1))
 (some false)
 (cond (a0.2.1 != b1.2.1)
 (some false)
 (cond (!(a0.2.2.1==b1.2.2.1))
 (some false)
 ((fk a0.2.2.2 b1.2.2.2).bind λt24 =>
 cond (!t24) (some false) (some true))))
def kv:FL:=(284,⟨[.val true vV false,.val true vV false],[.val false uD (some true)],λa=>dM a.1 a.2⟩)::ku
theorem pv:Gd kv:=tX pu 284 Tryz.f284 [] Tryz.func284
def pw (a0:List Pt) (b1:List Pt) (i5:Int):Option (Int⊕(Unit⊕Bool)) :=
 cond (decide (i5<(a0.length:Int)))
 ((at? a0 i5).bind λx19 =>
 (at? b1 i5).bind λx23 =>
 (dM x19 x23).bind λt25 =>
 cond (!t25) (some (.inr (.inr false))) (some (.inl (tP (i5+1)))))
 (some (.inr (.inl ())))
def gN (a0:List Pt) (b1:List Pt):Option Bool :=
 cond ((a0.length:Int) != (b1.length:Int))
 (some false)
 ((loop (λz=>pw a0 b1 z) 0).bind (Sum.elim (λd =>
 some true) (λr=>some r)))
def kw:FL:=(188,⟨[.val false (.one (.sl vV)) false,.val false (.one (.sl vV)) false],[.val false uD (some true)],λa=>gN a.1 a.2⟩)::kv
theorem pz:Gd kw:=tX pv 188 Tryz.f188 [(0,⟨⟨[(5,false,[dI])],[]⟩,
 ⟨[],[]⟩,some ⟨[(4,false,[dB])],[]⟩⟩)] Tryz.func188
def dN (a0:tZ) (b1:tZ):Option Bool :=
 cond (a0.1 != b1.1)
 (some false)
 (cond (a0.2.1 != b1.2.1)
 (some false)
 (cond (a0.2.2.1 != b1.2.2.1)
 (some false)
 (cond (a0.2.2.2.1 != b1.2.2.2.1)
 (some false)
 (cond (!(a0.2.2.2.2==b1.2.2.2.2)) (some false) (some true)))))
def kz:FL:=(285,⟨[.val true uo false,.val true uo false],[.val false uD (some true)],λa=>dN a.1 a.2⟩)::kw
theorem pA:Gd kz:=tX pz 285 Tryz.f285 [] Tryz.func285
def pB (a0:List tZ) (b1:List tZ) (i5:Int):Option (Int⊕(Unit⊕Bool)) :=
 cond (decide (i5<(a0.length:Int)))
 ((at? a0 i5).bind λx19 =>
 (at? b1 i5).bind λx23 =>
 (dN x19 x23).bind λt25 =>
 cond (!t25) (some (.inr (.inr false))) (some (.inl (tP (i5+1)))))
 (some (.inr (.inl ())))
def gO (a0:List tZ) (b1:List tZ):Option Bool :=
 cond ((a0.length:Int) != (b1.length:Int))
 (some false)
 ((loop (λz=>pB a0 b1 z) 0).bind (Sum.elim (λd =>
 some true) (λr=>some r)))
def kA:FL:=(189,⟨[.val false (.one (.sl uo)) false,.val false (.one (.sl uo)) false],[.val false uD (some true)],λa=>gO a.1 a.2⟩)::kz
theorem pC:Gd kA:=tX pA 189 Tryz.f189 [(0,⟨⟨[(5,false,[dI])],[]⟩,
 ⟨[],[]⟩,some ⟨[(4,false,[dB])],[]⟩⟩)] Tryz.func189
def dO (a0:ua) (b1:ua):Option Bool :=
 cond (a0.1 != b1.1)
 (some false)
 (cond (a0.2.1 != b1.2.1) (some false) (cond (a0.2.2 != b1.2.2) (some false) (some true)))
def kB:FL:=(342,⟨[.val true uU false,.val true uU false],[.val false uD (some true)],λa=>dO a.1 a.2⟩)::kA
theorem pD:Gd kB:=tX pC 342 Tryz.f342 [] Tryz.func342
def pE (a0:List ua) (b1:List ua) (i5:Int):Option (Int⊕(Unit⊕Bool)) :=
 cond (decide (i5<(a0.length:Int)))
 ((at? a0 i5).bind λx19 =>
 (at? b1 i5).bind λx23 =>
 (dO x19 x23).bind λt25 =>
 cond (!t25) (some (.inr (.inr false))) (some (.inl (tP (i5+1)))))
 (some (.inr (.inl ())))
def gP (a0:List ua) (b1:List ua):Option Bool :=
 cond ((a0.length:Int) != (b1.length:Int))
 (some false)
 ((loop (λz=>pE a0 b1 z) 0).bind (Sum.elim (λd =>
 some true) (λr=>some r)))
def kC:FL:=(286,⟨[.val false (.one (.sl uU)) false,.val false (.one (.sl uU)) false],[.val false uD (some true)],λa=>gP a.1 a.2⟩)::kB
theorem pF:Gd kC:=tX pD 286 Tryz.f286 [(0,⟨⟨[(5,false,[dI])],[]⟩,
 ⟨[],[]⟩,some ⟨[(4,false,[dB])],[]⟩⟩)] Tryz.func286
def pG (a0:List Int) (b1:List Int) (i5:Int):Option (Int⊕(Unit⊕Bool)) :=
 cond (decide (i5<(a0.length:Int)))
 ((at? a0 i5).bind λx19 =>
 (at? b1 i5).bind λx23 =>
 cond (x19 != x23) (some (.inr (.inr false))) (some (.inl (tP (i5+1)))))
 (some (.inr (.inl ())))
def dP (a0:List Int) (b1:List Int):Option Bool :=
 cond ((a0.length:Int) != (b1.length:Int))
 (some false)
 ((loop (λz=>pG a0 b1 z) 0).bind (Sum.elim (λd =>
 some true) (λr=>some r)))
def kD:FL:=(287,⟨[.val false vR false,.val false vR false],[.val false uD (some true)],λa=>dP a.1 a.2⟩)::kC
theorem pH:Gd kD:=tX pF 287 Tryz.f287 [(0,⟨⟨[(5,false,[dI])],[]⟩,
 ⟨[],[]⟩,some ⟨[(4,false,[dB])],[]⟩⟩)] Tryz.func287
def fm (a0:ve) (b1:ve):Option Bool :=
 (gP a0.1 b1.1).bind λt9 =>
 cond (!t9)
 (some false)
 ((dP a0.2 b1.2).bind λt15 =>
 cond (!t15) (some false) (some true))
def kE:FL:=(190,⟨[.val true wy false,.val true wy false],[.val false uD (some true)],λa=>fm a.1 a.2⟩)::kD
theorem pI:Gd kE:=tX pH 190 Tryz.f190 [] Tryz.func190
def dQ (a0:tO) (b1:tO):Option Bool :=
 cond (a0.1 != b1.1)
 (some false)
 (cond (!(a0.2.1==b1.2.1))
 (some false)
 ((gN a0.2.2.1 b1.2.2.1).bind λt19 =>
 cond (!t19)
 (some false)
 ((gO a0.2.2.2.1 b1.2.2.2.1).bind λt25 =>
 cond (!t25)
 (some false)
 ((fm (a0.2.2.2.2.1,a0.2.2.2.2.2.1) (b1.2.2.2.2.1,b1.2.2.2.2.2.1)).bind λt31 =>
 cond (!t31)
 (some false)
 (cond (a0.2.2.2.2.2.2.1 != b1.2.2.2.2.2.2.1)
 (some false)
 (cond (a0.2.2.2.2.2.2.2.1 != b1.2.2.2.2.2.2.2.1)
 (some false)
 (cond (a0.2.2.2.2.2.2.2.2.1 != b1.2.2.2.2.2.2.2.2.1)
 (some false)
 (cond (a0.2.2.2.2.2.2.2.2.2.1 != b1.2.2.2.2.2.2.2.2.2.1)
 (some false)
 (cond (a0.2.2.2.2.2.2.2.2.2.2 != b1.2.2.2.2.2.2.2.2.2.2) (some false) (some true))))))))))
def kF:FL:=(111,⟨[.val true uc false,.val true uc false],[.val false uD (some true)],λa=>dQ a.1 a.2⟩)::kE
theorem pJ:Gd kF:=tX pI 111 Tryz.f111 [] Tryz.func111
def pK (a0:List Int) (b1:List Int) (i5:Int):Option (Int⊕(Unit⊕Bool)) :=
 cond (decide (i5<(a0.length:Int)))
 ((at? a0 i5).bind λx19 =>
 (at? b1 i5).bind λx23 =>
 cond (x19 != x23) (some (.inr (.inr false))) (some (.inl (tP (i5+1)))))
 (some (.inr (.inl ())))
def gQ (a0:List Int) (b1:List Int):Option Bool :=
 cond ((a0.length:Int) != (b1.length:Int))
 (some false)
 ((loop (λz=>pK a0 b1 z) 0).bind (Sum.elim (λd =>
 some true) (λr=>some r)))
def kG:FL:=(94,⟨[.val false vd false,.val false vd false],[.val false uD (some true)],λa=>gQ a.1 a.2⟩)::kF
theorem pL:Gd kG:=tX pJ 94 Tryz.f94 [(0,⟨⟨[(5,false,[dI])],[]⟩,
 ⟨[],[]⟩,some ⟨[(4,false,[dB])],[]⟩⟩)] Tryz.func94
def fo (a0:wJ) (b1:wJ):Option Bool :=
 cond (a0.1 != b1.1)
 (some false)
 (cond (a0.2.1 != b1.2.1)
 (some false)
 (cond (!(a0.2.2.1==b1.2.2.1))
 (some false)
 ((dP a0.2.2.2 b1.2.2.2).bind λt24 =>
 cond (!t24) (some false) (some true))))
def kH:FL:=(370,⟨[.val true xQ false,.val true xQ false],[.val false uD (some true)],λa=>fo a.1 a.2⟩)::kG
theorem pM:Gd kH:=tX pL 370 Tryz.f370 [] Tryz.func370
def dR (a0:tQ) (b1:tQ):Option Bool :=
 (dP a0.1 b1.1).bind λt9 =>
 cond (!t9)
 (some false)
 ((fo a0.2 b1.2).bind λt15 =>
 cond (!t15) (some false) (some true))
def kJ:FL:=(343,⟨[.val true u5 false,.val true u5 false],[.val false uD (some true)],λa=>dR a.1 a.2⟩)::kH
theorem pN:Gd kJ:=tX pM 343 Tryz.f343 [] Tryz.func343
def pO (a0:List tQ) (b1:List tQ) (i5:Int):Option (Int⊕(Unit⊕Bool)) :=
 cond (decide (i5<(a0.length:Int)))
 ((at? a0 i5).bind λx19 =>
 (at? b1 i5).bind λx23 =>
 (dR x19 x23).bind λt25 =>
 cond (!t25) (some (.inr (.inr false))) (some (.inl (tP (i5+1)))))
 (some (.inr (.inl ())))
def gR (a0:List tQ) (b1:List tQ):Option Bool :=
 cond ((a0.length:Int) != (b1.length:Int))
 (some false)
 ((loop (λz=>pO a0 b1 z) 0).bind (Sum.elim (λd =>
 some true) (λr=>some r)))
def kK:FL:=(288,⟨[.val false (.one (.sl u5)) false,.val false (.one (.sl u5)) false],[.val false uD (some true)],λa=>gR a.1 a.2⟩)::kJ
theorem pP:Gd kK:=tX pN 288 Tryz.f288 [(0,⟨⟨[(5,false,[dI])],[]⟩,
 ⟨[],[]⟩,some ⟨[(4,false,[dB])],[]⟩⟩)] Tryz.func288
def dU (a0:um) (b1:um):Option Bool :=
 cond (a0.1 != b1.1)
 (some false)
 (cond (a0.2.1 != b1.2.1)
 (some false)
 (cond (a0.2.2.1 != b1.2.2.1)
 (some false)
 (cond (a0.2.2.2.1 != b1.2.2.2.1)
 (some false)
 ((gR a0.2.2.2.2 b1.2.2.2.2).bind λt29 =>
 cond (!t29) (some false) (some true)))))
def kL:FL:=(192,⟨[.val true vT false,.val true vT false],[.val false uD (some true)],λa=>dU a.1 a.2⟩)::kK
theorem pQ:Gd kL:=tX pP 192 Tryz.f192 [] Tryz.func192
def dV (a0:ur) (b1:ur):Option Bool :=
 cond (a0.1 != b1.1)
 (some false)
 ((gQ a0.2.1 b1.2.1).bind λt14 =>
 cond (!t14)
 (some false)
 (cond (a0.2.2.1 != b1.2.2.1)
 (some false)
 ((dU (a0.2.2.2.1,a0.2.2.2.2.1,a0.2.2.2.2.2.1,a0.2.2.2.2.2.2.1,a0.2.2.2.2.2.2.2.1) (b1.2.2.2.1,b1.2.2.2.2.1,b1.2.2.2.2.2.1,b1.2.2.2.2.2.2.1,b1.2.2.2.2.2.2.2.1)).bind λt25 =>
 cond (!t25)
 (some false)
 ((dQ (a0.2.2.2.2.2.2.2.2.1,a0.2.2.2.2.2.2.2.2.2.1,a0.2.2.2.2.2.2.2.2.2.2.1,a0.2.2.2.2.2.2.2.2.2.2.2.1,a0.2.2.2.2.2.2.2.2.2.2.2.2.1,a0.2.2.2.2.2.2.2.2.2.2.2.2.2.1,a0.2.2.2.2.2.2.2.2.2.2.2.2.2.2.1,a0.2.2.2.2.2.2.2.2.2.2.2.2.2.2.2.1,a0.2.2.2.2.2.2.2.2.2.2.2.2.2.2.2.2.1,a0.2.2.2.2.2.2.2.2.2.2.2.2.2.2.2.2.2.1,a0.2.2.2.2.2.2.2.2.2.2.2.2.2.2.2.2.2.2.1) (b1.2.2.2.2.2.2.2.2.1,b1.2.2.2.2.2.2.2.2.2.1,b1.2.2.2.2.2.2.2.2.2.2.1,b1.2.2.2.2.2.2.2.2.2.2.2.1,b1.2.2.2.2.2.2.2.2.2.2.2.2.1,b1.2.2.2.2.2.2.2.2.2.2.2.2.2.1,b1.2.2.2.2.2.2.2.2.2.2.2.2.2.2.1,b1.2.2.2.2.2.2.2.2.2.2.2.2.2.2.2.1,b1.2.2.2.2.2.2.2.2.2.2.2.2.2.2.2.2.1,b1.2.2.2.2.2.2.2.2.2.2.2.2.2.2.2.2.2.1,b1.2.2.2.2.2.2.2.2.2.2.2.2.2.2.2.2.2.2.1)).bind λt31 =>
 cond (!t31)
 (some false)
 (cond (a0.2.2.2.2.2.2.2.2.2.2.2.2.2.2.2.2.2.2.2.1 != b1.2.2.2.2.2.2.2.2.2.2.2.2.2.2.2.2.2.2.2.1)
 (some false)
 (cond (a0.2.2.2.2.2.2.2.2.2.2.2.2.2.2.2.2.2.2.2.2 != b1.2.2.2.2.2.2.2.2.2.2.2.2.2.2.2.2.2.2.2.2) (some false) (some true)))))))
def kM:FL:=(191,⟨[.val true vU false,.val true vU false],[.val false uD (some true)],λa=>dV a.1 a.2⟩)::kL
theorem pR:Gd kM:=tX pQ 191 Tryz.f191 [] Tryz.func191
def pS (a0:List ur) (b1:List ur) (i5:Int):Option (Int⊕(Unit⊕Bool)) :=
 cond (decide (i5<(a0.length:Int)))
 ((at? a0 i5).bind λx19 =>
 (at? b1 i5).bind λx23 =>
 (dV x19 x23).bind λt25 =>
 cond (!t25) (some (.inr (.inr false))) (some (.inl (tP (i5+1)))))
 (some (.inr (.inl ())))
def gS (a0:List ur) (b1:List ur):Option Bool :=
 cond ((a0.length:Int) != (b1.length:Int))
 (some false)
 ((loop (λz=>pS a0 b1 z) 0).bind (Sum.elim (λd =>
 some true) (λr=>some r)))
def kN:FL:=(112,⟨[.val false (.one (.sl vU)) false,.val false (.one (.sl vU)) false],[.val false uD (some true)],λa=>gS a.1 a.2⟩)::kM
theorem pT:Gd kN:=tX pR 112 Tryz.f112 [(0,⟨⟨[(5,false,[dI])],[]⟩,
 ⟨[],[]⟩,some ⟨[(4,false,[dB])],[]⟩⟩)] Tryz.func112
def bW (a0:ue) (b1:ue):Option Bool :=
 (dQ (a0.1,a0.2.1,a0.2.2.1,a0.2.2.2.1,a0.2.2.2.2.1,a0.2.2.2.2.2.1,a0.2.2.2.2.2.2.1,a0.2.2.2.2.2.2.2.1,a0.2.2.2.2.2.2.2.2.1,a0.2.2.2.2.2.2.2.2.2.1,a0.2.2.2.2.2.2.2.2.2.2.1) (b1.1,b1.2.1,b1.2.2.1,b1.2.2.2.1,b1.2.2.2.2.1,b1.2.2.2.2.2.1,b1.2.2.2.2.2.2.1,b1.2.2.2.2.2.2.2.1,b1.2.2.2.2.2.2.2.2.1,b1.2.2.2.2.2.2.2.2.2.1,b1.2.2.2.2.2.2.2.2.2.2.1)).bind λt9 =>
 cond (!t9)
 (some false)
 (cond (!(a0.2.2.2.2.2.2.2.2.2.2.2.1==b1.2.2.2.2.2.2.2.2.2.2.2.1))
 (some false)
 ((gS a0.2.2.2.2.2.2.2.2.2.2.2.2.1 b1.2.2.2.2.2.2.2.2.2.2.2.2.1).bind λt20 =>
 cond (!t20)
 (some false)
 (cond (a0.2.2.2.2.2.2.2.2.2.2.2.2.2.1 != b1.2.2.2.2.2.2.2.2.2.2.2.2.2.1)
 (some false)
 (cond (a0.2.2.2.2.2.2.2.2.2.2.2.2.2.2 != b1.2.2.2.2.2.2.2.2.2.2.2.2.2.2) (some false) (some true)))))
def kO:FL:=(33,⟨[.val true uN false,.val true uN false],[.val false uD (some true)],λa=>bW a.1 a.2⟩)::kN
theorem pU:Gd kO:=tX pT 33 Tryz.f33 [] Tryz.func33
def dW (a0:vB) (b1:vB):Option Bool :=
 cond (a0.1 != b1.1)
 (some false)
 ((dU a0.2 b1.2).bind λt14 =>
 cond (!t14) (some false) (some true))
def kP:FL:=(113,⟨[.val true xE false,.val true xE false],[.val false uD (some true)],λa=>dW a.1 a.2⟩)::kO
theorem pV:Gd kP:=tX pU 113 Tryz.f113 [] Tryz.func113
def pW (a0:List vB) (b1:List vB) (i5:Int):Option (Int⊕(Unit⊕Bool)) :=
 cond (decide (i5<(a0.length:Int)))
 ((at? a0 i5).bind λx19 =>
 (at? b1 i5).bind λx23 =>
 (dW x19 x23).bind λt25 =>
 cond (!t25) (some (.inr (.inr false))) (some (.inl (tP (i5+1)))))
 (some (.inr (.inl ())))
def dX (a0:List vB) (b1:List vB):Option Bool :=
 cond ((a0.length:Int) != (b1.length:Int))
 (some false)
 ((loop (λz=>pW a0 b1 z) 0).bind (Sum.elim (λd =>
 some true) (λr=>some r)))
def kQ:FL:=(34,⟨[.val false (.one (.sl xE)) false,.val false (.one (.sl xE)) false],[.val false uD (some true)],λa=>dX a.1 a.2⟩)::kP
theorem pX:Gd kQ:=tX pV 34 Tryz.f34 [(0,⟨⟨[(5,false,[dI])],[]⟩,
 ⟨[],[]⟩,some ⟨[(4,false,[dB])],[]⟩⟩)] Tryz.func34
def fp (k0_1:Int) (out3:List UInt8):Option ((Int×List UInt8)⊕(List UInt8)) :=
 cond (decide (k0_1>0))
 ((Jc (uT [IntKind.u8.wrap (tP (48+(k0_1.tmod 10)))]) out3).bind λt15 =>
 some (.inl (tP (k0_1.tdiv 10),t15)))
 (some (.inr out3))
def bY (k0:Int):Option (List UInt8) :=
 cond (decide (k0<=0))
 (some [109,48])
 ((loop (λz=>fp z.1 z.2) (k0,[])).bind λd =>
 (Jc [109] d).bind λt19 =>
 some t19)
def kR:FL:=(163,⟨[.val false tU false],[.val false Pl (some true)],λa=>bY a⟩)::kQ
theorem pY:Gd kR:=tX pX 163 Tryz.f163 [(0,⟨⟨[(0,false,[dI]),(3,false,[dS])],[]⟩,
 ⟨[(3,false,[dS])],[]⟩,none⟩)] Tryz.func163
def fq (p0:List Pt) (i1_1:Int) (t5:Int):Option ((Int×Int)⊕(Int⊕Int)) :=
 cond (decide (t5<(p0.length:Int)))
 ((at? p0 t5).bind λx14 =>
 cond (!(x14.1==((i1_1.tmod 3)==0)))
 (some (.inr (.inr (-1))))
 ((at? p0 t5).bind λx25 =>
 cond (x25.2.1 != (tP (i1_1+1)))
 (some (.inr (.inr (-1))))
 (let i1_2:=tP ((tP (i1_1+1))+1)
 (at? p0 t5).bind λx34 =>
 cond (!(x34.2.2.1==((i1_2.tmod 3)==0)))
 (some (.inr (.inr (-1))))
 ((at? p0 t5).bind λx45 =>
 cond (x45.2.2.2.1 != (tP (i1_2+1)))
 (some (.inr (.inr (-1))))
 (let i1_3:=tP ((tP (i1_2+1))+1)
 (at? p0 t5).bind λx55 =>
 cond (x55.2.2.2.2.1 != i1_3)
 (some (.inr (.inr (-1))))
 ((at? p0 t5).bind λx65 =>
 cond (x65.2.2.2.2.2.1 != (tP (i1_3+1)))
 (some (.inr (.inr (-1))))
 (let i1_4:=tP ((tP (i1_3+1))+1)
 (at? p0 t5).bind λx75 =>
 cond (x75.2.2.2.2.2.2.1 != i1_4)
 (some (.inr (.inr (-1))))
 ((at? p0 t5).bind λx85 =>
 cond (x85.2.2.2.2.2.2.2 != (tP (i1_4+1)))
 (some (.inr (.inr (-1))))
 (let i1_5:=tP ((tP (i1_4+1))+1)
 some (.inl (i1_5,tP (t5+1))))))))))))
 (some (.inr (.inl i1_1)))
def dY (p0:List Pt) (i1:Int):Option Int :=
 (loop (λz=>fq p0 z.1 z.2) (i1,0)).bind (Sum.elim (λd =>
 some d) (λr=>some r))
def kS:FL:=(168,⟨[.val false (.one (.sl vV)) false,.val false tU false],[.val false tU (some true)],λa=>dY a.1 a.2⟩)::kR
theorem pZ:Gd kS:=tX pY 168 Tryz.f168 [(0,⟨⟨[(1,false,[dI]),(5,false,[dI])],[]⟩,
 ⟨[(1,false,[dI])],[]⟩,some ⟨[(4,false,[dI])],[]⟩⟩)] Tryz.func168
def fr (a0:List tZ) (k1_1:Int) (i5:Int):Option ((Int×Int)⊕(Int⊕Int)) :=
 cond (decide (i5<(a0.length:Int)))
 ((at? a0 i5).bind λx14 =>
 cond (x14.1 != k1_1)
 (some (.inr (.inr (-1))))
 ((at? a0 i5).bind λx23 =>
 cond (x23.2.1 != (tP (k1_1+1)))
 (some (.inr (.inr (-1))))
 (let k1_2:=tP ((tP (k1_1+1))+1)
 (at? a0 i5).bind λx32 =>
 cond (x32.2.2.1 != k1_2)
 (some (.inr (.inr (-1))))
 ((at? a0 i5).bind λx41 =>
 cond (x41.2.2.2.1 != (tP (k1_2+1)))
 (some (.inr (.inr (-1))))
 (let k1_3:=tP ((tP (k1_2+1))+1)
 (at? a0 i5).bind λx50 =>
 cond (!(x50.2.2.2.2==((k1_3.tmod 3)==0)))
 (some (.inr (.inr (-1))))
 (some (.inl (tP (k1_3+1),tP (i5+1)))))))))
 (some (.inr (.inl k1_1)))
def dZ (a0:List tZ) (k1:Int):Option Int :=
 (loop (λz=>fr a0 z.1 z.2) (k1,0)).bind (Sum.elim (λd =>
 some d) (λr=>some r))
def kT:FL:=(169,⟨[.val false (.one (.sl uo)) false,.val false tU false],[.val false tU (some true)],λa=>dZ a.1 a.2⟩)::kS
theorem q7:Gd kT:=tX pZ 169 Tryz.f169 [(0,⟨⟨[(1,false,[dI]),(5,false,[dI])],[]⟩,
 ⟨[(1,false,[dI])],[]⟩,some ⟨[(4,false,[dI])],[]⟩⟩)] Tryz.func169
def ft (a0:List ua) (k1_1:Int) (i5:Int):Option ((Int×Int)⊕(Int⊕Int)) :=
 cond (decide (i5<(a0.length:Int)))
 ((at? a0 i5).bind λx14 =>
 cond (x14.1 != k1_1)
 (some (.inr (.inr (-1))))
 ((at? a0 i5).bind λx23 =>
 cond (x23.2.1 != (tP (k1_1+1)))
 (some (.inr (.inr (-1))))
 (let k1_2:=tP ((tP (k1_1+1))+1)
 (at? a0 i5).bind λx32 =>
 cond (x32.2.2 != k1_2)
 (some (.inr (.inr (-1))))
 (some (.inl (tP (k1_2+1),tP (i5+1)))))))
 (some (.inr (.inl k1_1)))
def e9 (a0:List ua) (k1:Int):Option Int :=
 (loop (λz=>ft a0 z.1 z.2) (k1,0)).bind (Sum.elim (λd =>
 some d) (λr=>some r))
def kU:FL:=(170,⟨[.val false (.one (.sl uU)) false,.val false tU false],[.val false tU (some true)],λa=>e9 a.1 a.2⟩)::kT
theorem q8:Gd kU:=tX q7 170 Tryz.f170 [(0,⟨⟨[(1,false,[dI]),(5,false,[dI])],[]⟩,
 ⟨[(1,false,[dI])],[]⟩,some ⟨[(4,false,[dI])],[]⟩⟩)] Tryz.func170
def fu (a0:List Int) (k1_1:Int) (i5:Int):Option ((Int×Int)⊕(Int⊕Int)) :=
 cond (decide (i5<(a0.length:Int)))
 ((at? a0 i5).bind λx14 =>
 cond (x14 != k1_1)
 (some (.inr (.inr (-1))))
 (some (.inl (tP (k1_1+1),tP (i5+1)))))
 (some (.inr (.inl k1_1)))
def bZ (a0:List Int) (k1:Int):Option Int :=
 (loop (λz=>fu a0 z.1 z.2) (k1,0)).bind (Sum.elim (λd =>
 some d) (λr=>some r))
def kV:FL:=(171,⟨[.val false vR false,.val false tU false],[.val false tU (some true)],λa=>bZ a.1 a.2⟩)::kU
theorem q9:Gd kV:=tX q8 171 Tryz.f171 [(0,⟨⟨[(1,false,[dI]),(5,false,[dI])],[]⟩,
 ⟨[(1,false,[dI])],[]⟩,some ⟨[(4,false,[dI])],[]⟩⟩)] Tryz.func171
def gT (a0:ve) (k1:Int):Option Int :=
 (e9 a0.1 k1).bind λt8 =>
 cond (decide (t8<0))
 (some (-1))
 ((bZ a0.2 t8).bind λt14 =>
 cond (decide (t14<0)) (some (-1)) (some t14))
def kW:FL:=(194,⟨[.val true wy false,.val false tU false],[.val false tU (some true)],λa=>gT a.1 a.2⟩)::kV
theorem qc:Gd kW:=tX q9 194 Tryz.f194 [] Tryz.func194
def gU (a0:tO) (k1:Int):Option Int :=
 (dY a0.2.2.1 k1).bind λt8 =>
 cond (decide (t8<0))
 (some (-1))
 ((dZ a0.2.2.2.1 t8).bind λt14 =>
 cond (decide (t14<0))
 (some (-1))
 ((gT (a0.2.2.2.2.1,a0.2.2.2.2.2.1) t14).bind λt20 =>
 cond (decide (t20<0)) (some (-1)) (some t20)))
def kX:FL:=(117,⟨[.val true uc false,.val false tU false],[.val false tU (some true)],λa=>gU a.1 a.2⟩)::kW
theorem qd:Gd kX:=tX qc 117 Tryz.f117 [] Tryz.func117
def fv (a0:List Int) (k1_1:Int) (i5:Int):Option ((Int×Int)⊕(Int⊕Int)) :=
 cond (decide (i5<(a0.length:Int)))
 ((at? a0 i5).bind λx14 =>
 cond (x14 != (IntKind.u8.wrap (k1_1)))
 (some (.inr (.inr (-1))))
 (some (.inl (tP (k1_1+1),tP (i5+1)))))
 (some (.inr (.inl k1_1)))
def fw (a0:List Int) (k1:Int):Option Int :=
 (loop (λz=>fv a0 z.1 z.2) (k1,0)).bind (Sum.elim (λd =>
 some d) (λr=>some r))
def kY:FL:=(102,⟨[.val false vd false,.val false tU false],[.val false tU (some true)],λa=>fw a.1 a.2⟩)::kX
theorem qe:Gd kY:=tX qd 102 Tryz.f102 [(0,⟨⟨[(1,false,[dI]),(5,false,[dI])],[]⟩,
 ⟨[(1,false,[dI])],[]⟩,some ⟨[(4,false,[dI])],[]⟩⟩)] Tryz.func102
def fx (a0:List tQ) (k1_1:Int) (i5:Int):Option ((Int×Int)⊕(Int⊕Int)) :=
 cond (decide (i5<(a0.length:Int)))
 ((at? a0 i5).bind λx14 =>
 (bZ x14.1 k1_1).bind λt18 =>
 cond (decide (t18<0))
 (some (.inr (.inr (-1))))
 ((at? a0 i5).bind λx23 =>
 cond (x23.2.1 != t18)
 (some (.inr (.inr (-1))))
 ((at? a0 i5).bind λx33 =>
 cond (x33.2.2.1 != (tP (t18+1)))
 (some (.inr (.inr (-1))))
 (let k1_2:=tP ((tP (t18+1))+1)
 (at? a0 i5).bind λx43 =>
 (bY k1_2).bind λt48 =>
 cond (!(x43.2.2.2.1==t48))
 (some (.inr (.inr (-1))))
 ((at? a0 i5).bind λx54 =>
 (bZ x54.2.2.2.2 (tP (k1_2+1))).bind λt59 =>
 cond (decide (t59<0)) (some (.inr (.inr (-1)))) (some (.inl (t59,tP (i5+1)))))))))
 (some (.inr (.inl k1_1)))
def ea (a0:List tQ) (k1:Int):Option Int :=
 (loop (λz=>fx a0 z.1 z.2) (k1,0)).bind (Sum.elim (λd =>
 some d) (λr=>some r))
def kZ:FL:=(119,⟨[.val false (.one (.sl u5)) false,.val false tU false],[.val false tU (some true)],λa=>ea a.1 a.2⟩)::kY
theorem qf:Gd kZ:=tX qe 119 Tryz.f119 [(0,⟨⟨[(1,false,[dI]),(5,false,[dI])],[]⟩,
 ⟨[(1,false,[dI])],[]⟩,some ⟨[(4,false,[dI])],[]⟩⟩)] Tryz.func119
def fy (p0:List ur) (i1_1:Int) (t5:Int):Option ((Int×Int)⊕(Int⊕Int)) :=
 cond (decide (t5<(p0.length:Int)))
 ((at? p0 t5).bind λx14 =>
 cond (x14.1 != i1_1)
 (some (.inr (.inr (-1))))
 ((at? p0 t5).bind λx23 =>
 (fw x23.2.1 (tP (i1_1+1))).bind λt27 =>
 cond (decide (t27<0))
 (some (.inr (.inr (-1))))
 ((at? p0 t5).bind λx32 =>
 cond (x32.2.2.1 != t27)
 (some (.inr (.inr (-1))))
 ((at? p0 t5).bind λx41 =>
 cond (x41.2.2.2.1 != (tP (t27+1)))
 (some (.inr (.inr (-1))))
 (let i1_2:=tP ((tP (t27+1))+1)
 (at? p0 t5).bind λx51 =>
 cond (x51.2.2.2.2.1 != i1_2)
 (some (.inr (.inr (-1))))
 ((at? p0 t5).bind λx61 =>
 cond (x61.2.2.2.2.2.1 != (tP (i1_2+1)))
 (some (.inr (.inr (-1))))
 (let i1_3:=tP ((tP (i1_2+1))+1)
 (at? p0 t5).bind λx71 =>
 cond (x71.2.2.2.2.2.2.1 != i1_3)
 (some (.inr (.inr (-1))))
 ((at? p0 t5).bind λx81 =>
 (ea x81.2.2.2.2.2.2.2.1 (tP (i1_3+1))).bind λt86 =>
 cond (decide (t86<0))
 (some (.inr (.inr (-1))))
 ((at? p0 t5).bind λx91 =>
 cond (x91.2.2.2.2.2.2.2.2.1 != t86)
 (some (.inr (.inr (-1))))
 ((at? p0 t5).bind λx101 =>
 (bY (tP (t86+1))).bind λt106 =>
 cond (!(x101.2.2.2.2.2.2.2.2.2.1==t106))
 (some (.inr (.inr (-1))))
 (let i1_4:=tP ((tP (t86+1))+1)
 (at? p0 t5).bind λx112 =>
 (dY x112.2.2.2.2.2.2.2.2.2.2.1 i1_4).bind λt117 =>
 cond (decide (t117<0))
 (some (.inr (.inr (-1))))
 ((at? p0 t5).bind λx122 =>
 (dZ x122.2.2.2.2.2.2.2.2.2.2.2.1 t117).bind λt127 =>
 cond (decide (t127<0))
 (some (.inr (.inr (-1))))
 ((at? p0 t5).bind λx132 =>
 (e9 x132.2.2.2.2.2.2.2.2.2.2.2.2.1 t127).bind λt138 =>
 cond (decide (t138<0))
 (some (.inr (.inr (-1))))
 ((at? p0 t5).bind λx143 =>
 (bZ x143.2.2.2.2.2.2.2.2.2.2.2.2.2.1 t138).bind λt149 =>
 cond (decide (t149<0))
 (some (.inr (.inr (-1))))
 ((at? p0 t5).bind λx154 =>
 cond (x154.2.2.2.2.2.2.2.2.2.2.2.2.2.2.1 != t149)
 (some (.inr (.inr (-1))))
 ((at? p0 t5).bind λx164 =>
 cond (x164.2.2.2.2.2.2.2.2.2.2.2.2.2.2.2.1 != (tP (t149+1)))
 (some (.inr (.inr (-1))))
 (let i1_5:=tP ((tP (t149+1))+1)
 (at? p0 t5).bind λx174 =>
 cond (x174.2.2.2.2.2.2.2.2.2.2.2.2.2.2.2.2.1 != i1_5)
 (some (.inr (.inr (-1))))
 ((at? p0 t5).bind λx184 =>
 cond (x184.2.2.2.2.2.2.2.2.2.2.2.2.2.2.2.2.2.1 != (tP (i1_5+1)))
 (some (.inr (.inr (-1))))
 (let i1_6:=tP ((tP (i1_5+1))+1)
 (at? p0 t5).bind λx194 =>
 cond (x194.2.2.2.2.2.2.2.2.2.2.2.2.2.2.2.2.2.2.1 != i1_6)
 (some (.inr (.inr (-1))))
 ((at? p0 t5).bind λx204 =>
 cond (x204.2.2.2.2.2.2.2.2.2.2.2.2.2.2.2.2.2.2.2.1 != (tP (i1_6+1)))
 (some (.inr (.inr (-1))))
 (let i1_7:=tP ((tP (i1_6+1))+1)
 (at? p0 t5).bind λx213 =>
 cond (x213.2.2.2.2.2.2.2.2.2.2.2.2.2.2.2.2.2.2.2.2 != i1_7)
 (some (.inr (.inr (-1))))
 (some (.inl (tP (i1_7+1),tP (t5+1)))))))))))))))))))))))))
 (some (.inr (.inl i1_1)))
def fA (p0:List ur) (i1:Int):Option Int :=
 (loop (λz=>fy p0 z.1 z.2) (i1,0)).bind (Sum.elim (λd =>
 some d) (λr=>some r))
def l8:FL:=(118,⟨[.val false (.one (.sl vU)) false,.val false tU false],[.val false tU (some true)],λa=>fA a.1 a.2⟩)::kZ
theorem qg:Gd l8:=tX qf 118 Tryz.f118 [(0,⟨⟨[(1,false,[dI]),(5,false,[dI])],[]⟩,
 ⟨[(1,false,[dI])],[]⟩,some ⟨[(4,false,[dI])],[]⟩⟩)] Tryz.func118
def ed (a0:ue) (k1:Int):Option Int :=
 (gU (a0.1,a0.2.1,a0.2.2.1,a0.2.2.2.1,a0.2.2.2.2.1,a0.2.2.2.2.2.1,a0.2.2.2.2.2.2.1,a0.2.2.2.2.2.2.2.1,a0.2.2.2.2.2.2.2.2.1,a0.2.2.2.2.2.2.2.2.2.1,a0.2.2.2.2.2.2.2.2.2.2.1) k1).bind λt8 =>
 cond (decide (t8<0))
 (some (-1))
 ((fA a0.2.2.2.2.2.2.2.2.2.2.2.2.1 t8).bind λt14 =>
 cond (decide (t14<0)) (some (-1)) (some t14))
def l9:FL:=(37,⟨[.val true uN false,.val false tU false],[.val false tU (some true)],λa=>ed a.1 a.2⟩)::l8
theorem qh:Gd l9:=tX qg 37 Tryz.f37 [] Tryz.func37
def fB (p0:List vB) (i1_1:Int) (t5:Int):Option ((Int×Int)⊕(Int⊕Int)) :=
 cond (decide (t5<(p0.length:Int)))
 ((at? p0 t5).bind λx14 =>
 cond (x14.1 != i1_1)
 (some (.inr (.inr (-1))))
 ((at? p0 t5).bind λx23 =>
 cond (x23.2.1 != (tP (i1_1+1)))
 (some (.inr (.inr (-1))))
 (let i1_2:=tP ((tP (i1_1+1))+1)
 (at? p0 t5).bind λx33 =>
 cond (x33.2.2.1 != i1_2)
 (some (.inr (.inr (-1))))
 ((at? p0 t5).bind λx43 =>
 cond (x43.2.2.2.1 != (tP (i1_2+1)))
 (some (.inr (.inr (-1))))
 (let i1_3:=tP ((tP (i1_2+1))+1)
 (at? p0 t5).bind λx53 =>
 cond (x53.2.2.2.2.1 != i1_3)
 (some (.inr (.inr (-1))))
 ((at? p0 t5).bind λx63 =>
 (ea x63.2.2.2.2.2 (tP (i1_3+1))).bind λt68 =>
 cond (decide (t68<0)) (some (.inr (.inr (-1)))) (some (.inl (t68,tP (t5+1))))))))))
 (some (.inr (.inl i1_1)))
def ee (p0:List vB) (i1:Int):Option Int :=
 (loop (λz=>fB p0 z.1 z.2) (i1,0)).bind (Sum.elim (λd =>
 some d) (λr=>some r))
def lb:FL:=(38,⟨[.val false (.one (.sl xE)) false,.val false tU false],[.val false tU (some true)],λa=>ee a.1 a.2⟩)::l9
theorem qi:Gd lb:=tX qh 38 Tryz.f38 [(0,⟨⟨[(1,false,[dI]),(5,false,[dI])],[]⟩,
 ⟨[(1,false,[dI])],[]⟩,some ⟨[(4,false,[dI])],[]⟩⟩)] Tryz.func38
def qj (l0:List tZ) (t8:Int) (out3:List tZ):Option ((Int×List tZ)⊕(List tZ)) :=
 cond (decide (t8<(l0.length:Int)))
 ((at? l0 t8).bind λx10 =>
 cond (!x10.2.2.2.2)
 (cond (decide (x10.2.2.2.1>=4))
 (some (.inl (tP (t8+1),out3)))
 ((ut out3 [(x10.1,x10.2.1,x10.2.2.1,tP (x10.2.2.2.1+1),x10.2.2.2.2)]).bind λzs25 =>
 some (.inl (tP (t8+1),zs25))))
 ((ut out3 [x10]).bind λzs25_1 =>
 some (.inl (tP (t8+1),zs25_1))))
 (some (.inr out3))
def lc (l0:List tZ):Option (List tZ) :=
 (loop (λz=>qj l0 z.1 z.2) (0,[])).bind λd =>
 some d
def ld:FL:=(297,⟨[.val false (.one (.sl uo)) false],[.val false (.one (.sl uo)) (some true)],λa=>lc a⟩)::lb
theorem qk:Gd ld:=tX qi 297 Tryz.f297 [(0,⟨⟨[(3,false,[.own 1000000000]),(8,false,[dI])],[(1000000000,.root uo true)]⟩,
 ⟨[(3,false,[.own 1000000300])],[(1000000300,.root uo true)]⟩,none⟩)] Tryz.func297
def qm (b0:tO):Option tO :=
 (aj b0).bind λt5 =>
 (aM b0).bind λt7 =>
 cond t7
 ((bb b0.2.2.2.2.2.2.1).bind λt10 =>
 (lc b0.2.2.2.1).bind λt14 =>
 (bE (t5.1,t5.2.1,t5.2.2.1,t14,t5.2.2.2.2.1,t5.2.2.2.2.2.1,t10,t5.2.2.2.2.2.2.2.1,t5.2.2.2.2.2.2.2.2.1,t5.2.2.2.2.2.2.2.2.2.1,t5.2.2.2.2.2.2.2.2.2.2)).bind λt16 =>
 some t16)
 (some t5)
def ae:FL:=(209,⟨[.val true uc false],[.val true uc (some true)],λa=>qm a⟩)::ld
theorem aG:Gd ae:=tX qk 209 Tryz.f209 [] Tryz.func209
def fC (i1:Int) (t5:Int) (l:List Pt):Option ((Int×Int×List Pt)⊕(Int×List Pt)) :=
 cond (decide (t5<(l.length:Int)))
 ((ix l.length t5).bind λj17 =>
 (l[j17]?).bind λx =>
 let ls:List Pt:=l.set j17 ((i1.tmod 3)==0,x.2.1,x.2.2.1,x.2.2.2.1,x.2.2.2.2.1,x.2.2.2.2.2.1,x.2.2.2.2.2.2.1,x.2.2.2.2.2.2.2)
 (ix ls.length t5).bind λj24 =>
 (ls[j24]?).bind λx_1 =>
 let ls_1:List Pt:=ls.set j24 (x_1.1,tP (i1+1),x_1.2.2.1,x_1.2.2.2.1,x_1.2.2.2.2.1,x_1.2.2.2.2.2.1,x_1.2.2.2.2.2.2.1,x_1.2.2.2.2.2.2.2)
 (ix ls_1.length t5).bind λj33 =>
 (ls_1[j33]?).bind λx_2 =>
 let ls_2:List Pt:=ls_1.set j33 (x_2.1,x_2.2.1,((tP ((tP (i1+1))+1)).tmod 3)==0,x_2.2.2.2.1,x_2.2.2.2.2.1,x_2.2.2.2.2.2.1,x_2.2.2.2.2.2.2.1,x_2.2.2.2.2.2.2.2)
 let i1_1:=tP ((tP ((tP (i1+1))+1))+1)
 (ix ls_2.length t5).bind λj40 =>
 (ls_2[j40]?).bind λx_3 =>
 let ls_3:List Pt:=ls_2.set j40 (x_3.1,x_3.2.1,x_3.2.2.1,i1_1,x_3.2.2.2.2.1,x_3.2.2.2.2.2.1,x_3.2.2.2.2.2.2.1,x_3.2.2.2.2.2.2.2)
 (ix ls_3.length t5).bind λj48 =>
 (ls_3[j48]?).bind λx_4 =>
 let ls_4:List Pt:=ls_3.set j48 (x_4.1,x_4.2.1,x_4.2.2.1,x_4.2.2.2.1,tP (i1_1+1),x_4.2.2.2.2.2.1,x_4.2.2.2.2.2.2.1,x_4.2.2.2.2.2.2.2)
 let i1_2:=tP ((tP (i1_1+1))+1)
 (ix ls_4.length t5).bind λj56 =>
 (ls_4[j56]?).bind λx_5 =>
 let ls_5:List Pt:=ls_4.set j56 (x_5.1,x_5.2.1,x_5.2.2.1,x_5.2.2.2.1,x_5.2.2.2.2.1,i1_2,x_5.2.2.2.2.2.2.1,x_5.2.2.2.2.2.2.2)
 (ix ls_5.length t5).bind λj64 =>
 (ls_5[j64]?).bind λx_6 =>
 let ls_6:List Pt:=ls_5.set j64 (x_6.1,x_6.2.1,x_6.2.2.1,x_6.2.2.2.1,x_6.2.2.2.2.1,x_6.2.2.2.2.2.1,tP (i1_2+1),x_6.2.2.2.2.2.2.2)
 let i1_3:=tP ((tP (i1_2+1))+1)
 (ix ls_6.length t5).bind λj72 =>
 (ls_6[j72]?).bind λx_7 =>
 let ls_7:List Pt:=ls_6.set j72 (x_7.1,x_7.2.1,x_7.2.2.1,x_7.2.2.2.1,x_7.2.2.2.2.1,x_7.2.2.2.2.2.1,x_7.2.2.2.2.2.2.1,i1_3)
 some (.inl (tP (i1_3+1),tP (t5+1),ls_7)))
 (some (.inr (i1,l)))
def cL (a0:List Pt) (k1:Int):Option ((List Pt)×Int) :=
 (loop (λz=>fC z.1 z.2.1 z.2.2) (k1,0,a0)).bind λd =>
 some (d.2,d.1)
theorem Ts:wN Tryz.prog ⟨tis,ae,[],true⟩:=aG.trees IP
def DI:y9:=⟨false,(.one (.sl vV)),λa k=>cL a k⟩
def DJ:List (Nat×tY):=[(0,⟨⟨[(1,false,[dI]),(5,false,[dI])],[(1,.tree vV)]⟩,
 ⟨[(1,false,[dI])],[(1,.tree vV)]⟩,none⟩)]
theorem I9:xD ⟨tis,ae,[],true⟩ DJ Tryz.f164 (vL Tryz.f164) false (.one (.sl vV))=λa k=>cL a k:=by kernel_rfl
theorem Ia:w4 Tryz.prog 164 DI:=by
 have h:=yd (ann:=DJ) (agg:=false) (cs:=(.one (.sl vV))) Ts zN Tryz.func164 (by kernel_rfl) (by kernel_rfl:Tryz.f164.body=some (vL Tryz.f164));rw[I9]at h;exact h
def CK:List (FuncId×y9):=(164,DI)::[]
theorem Ny:∀f M,tM CK f=some M->w4 Tryz.prog f M:=wX IP Ia
theorem R5:wN Tryz.prog ⟨tis,ae,CK,true⟩:=aG.trees Ny
def fD (k1_1:Int) (i5:Int) (l:List tZ):Option ((Int×Int×List tZ)⊕(Int×List tZ)) :=
 cond (decide (i5<(l.length:Int)))
 ((ix l.length i5).bind λj15 =>
 (l[j15]?).bind λx =>
 let ls:List tZ:=l.set j15 (k1_1,x.2.1,x.2.2.1,x.2.2.2.1,x.2.2.2.2)
 (ix ls.length i5).bind λj22 =>
 (ls[j22]?).bind λx_1 =>
 let ls_1:List tZ:=ls.set j22 (x_1.1,tP (k1_1+1),x_1.2.2.1,x_1.2.2.2.1,x_1.2.2.2.2)
 let k1_2:=tP ((tP (k1_1+1))+1)
 (ix ls_1.length i5).bind λj29 =>
 (ls_1[j29]?).bind λx_2 =>
 let ls_2:List tZ:=ls_1.set j29 (x_2.1,x_2.2.1,k1_2,x_2.2.2.2.1,x_2.2.2.2.2)
 (ix ls_2.length i5).bind λj36 =>
 (ls_2[j36]?).bind λx_3 =>
 let ls_3:List tZ:=ls_2.set j36 (x_3.1,x_3.2.1,x_3.2.2.1,tP (k1_2+1),x_3.2.2.2.2)
 let k1_3:=tP ((tP (k1_2+1))+1)
 (ix ls_3.length i5).bind λj45 =>
 (ls_3[j45]?).bind λx_4 =>
 let ls_4:List tZ:=ls_3.set j45 (x_4.1,x_4.2.1,x_4.2.2.1,x_4.2.2.2.1,(k1_3.tmod 3)==0)
 some (.inl (tP (k1_3+1),tP (i5+1),ls_4)))
 (some (.inr (k1_1,l)))
def cM (a0:List tZ) (k1:Int):Option ((List tZ)×Int) :=
 (loop (λz=>fD z.1 z.2.1 z.2.2) (k1,0,a0)).bind λd =>
 some (d.2,d.1)
def C7:y9:=⟨false,(.one (.sl uo)),λa k=>cM a k⟩
def C8:List (Nat×tY):=[(0,⟨⟨[(1,false,[dI]),(5,false,[dI])],[(1,.tree uo)]⟩,
 ⟨[(1,false,[dI])],[(1,.tree uo)]⟩,none⟩)]
theorem Gv:xD ⟨tis,ae,CK,true⟩ C8 Tryz.f165 (vL Tryz.f165) false (.one (.sl uo))=λa k=>cM a k:=by kernel_rfl
theorem Gw:w4 Tryz.prog 165 C7:=by
 have h:=yd (ann:=C8) (agg:=false) (cs:=(.one (.sl uo))) R5 zN Tryz.func165 (by kernel_rfl) (by kernel_rfl:Tryz.f165.body=some (vL Tryz.f165));rw[Gv]at h;exact h
def CL:List (FuncId×y9):=(165,C7)::CK
theorem Nz:∀f M,tM CL f=some M->w4 Tryz.prog f M:=wX Ny Gw
theorem R6:wN Tryz.prog ⟨tis,ae,CL,true⟩:=aG.trees Nz
def fE (k1_1:Int) (i5:Int) (l:List ua):Option ((Int×Int×List ua)⊕(Int×List ua)) :=
 cond (decide (i5<(l.length:Int)))
 ((ix l.length i5).bind λj15 =>
 (l[j15]?).bind λx =>
 let ls:List ua:=l.set j15 (k1_1,x.2.1,x.2.2)
 (ix ls.length i5).bind λj22 =>
 (ls[j22]?).bind λx_1 =>
 let ls_1:List ua:=ls.set j22 (x_1.1,tP (k1_1+1),x_1.2.2)
 let k1_2:=tP ((tP (k1_1+1))+1)
 (ix ls_1.length i5).bind λj29 =>
 (ls_1[j29]?).bind λx_2 =>
 let ls_2:List ua:=ls_1.set j29 (x_2.1,x_2.2.1,k1_2)
 some (.inl (tP (k1_2+1),tP (i5+1),ls_2)))
 (some (.inr (k1_1,l)))
def cN (a0:List ua) (k1:Int):Option ((List ua)×Int) :=
 (loop (λz=>fE z.1 z.2.1 z.2.2) (k1,0,a0)).bind λd =>
 some (d.2,d.1)
def C9:y9:=⟨false,(.one (.sl uU)),λa k=>cN a k⟩
def Ca:List (Nat×tY):=[(0,⟨⟨[(1,false,[dI]),(5,false,[dI])],[(1,.tree uU)]⟩,
 ⟨[(1,false,[dI])],[(1,.tree uU)]⟩,none⟩)]
theorem Gx:xD ⟨tis,ae,CL,true⟩ Ca Tryz.f166 (vL Tryz.f166) false (.one (.sl uU))=λa k=>cN a k:=by kernel_rfl
theorem Gy:w4 Tryz.prog 166 C9:=by
 have h:=yd (ann:=Ca) (agg:=false) (cs:=(.one (.sl uU))) R6 zN Tryz.func166 (by kernel_rfl) (by kernel_rfl:Tryz.f166.body=some (vL Tryz.f166));rw[Gx]at h;exact h
def CM:List (FuncId×y9):=(166,C9)::CL
theorem NA:∀f M,tM CM f=some M->w4 Tryz.prog f M:=wX Nz Gy
theorem R7:wN Tryz.prog ⟨tis,ae,CM,true⟩:=aG.trees NA
def fF (k1_1:Int) (i5:Int) (l:List Int):Option ((Int×Int×List Int)⊕(Int×List Int)) :=
 cond (decide (i5<(l.length:Int)))
 ((ix l.length i5).bind λj15 =>
 (l[j15]?).bind λx =>
 let ls:List Int:=l.set j15 k1_1
 some (.inl (tP (k1_1+1),tP (i5+1),ls)))
 (some (.inr (k1_1,l)))
def bG (a0:List Int) (k1:Int):Option ((List Int)×Int) :=
 (loop (λz=>fF z.1 z.2.1 z.2.2) (k1,0,a0)).bind λd =>
 some (d.2,d.1)
def CN:y9:=⟨false,vR,λa k=>bG a k⟩
def CO:List (Nat×tY):=[(0,⟨⟨[(1,false,[dI]),(5,false,[dI])],[(1,.tree tU)]⟩,
 ⟨[(1,false,[dI])],[(1,.tree tU)]⟩,none⟩)]
theorem Hw:xD ⟨tis,ae,CM,true⟩ CO Tryz.f167 (vL Tryz.f167) false vR=λa k=>bG a k:=by kernel_rfl
theorem Hx:w4 Tryz.prog 167 CN:=by
 have h:=yd (ann:=CO) (agg:=false) (cs:=vR) R7 zN Tryz.func167 (by kernel_rfl) (by kernel_rfl:Tryz.f167.body=some (vL Tryz.f167));rw[Hw]at h;exact h
def CP:List (FuncId×y9):=(167,CN)::CM
theorem NC:∀f M,tM CP f=some M->w4 Tryz.prog f M:=wX NA Hx
theorem R8:wN Tryz.prog ⟨tis,ae,CP,true⟩:=aG.trees NC
def fG (a0:ve) (k1:Int):Option (ve×Int) :=
 (cN a0.1 k1).bind λz =>
 (bG a0.2 z.2).bind λz_1 =>
 some ((z.1,z_1.1),z_1.2)
def CQ:y9:=⟨true,wy,λa k=>fG a k⟩
theorem Hy:xD ⟨tis,ae,CP,true⟩ [] Tryz.f193 (vL Tryz.f193) true wy=λa k=>fG a k:=by kernel_rfl
theorem Hz:w4 Tryz.prog 193 CQ:=by
 have h:=yd (ann:=[]) (agg:=true) (cs:=wy) R8 zN Tryz.func193 (by kernel_rfl) (by kernel_rfl:Tryz.f193.body=some (vL Tryz.f193));rw[Hy]at h;exact h
def CR:List (FuncId×y9):=(193,CQ)::CP
theorem ND:∀f M,tM CR f=some M->w4 Tryz.prog f M:=wX NC Hz
theorem R9:wN Tryz.prog ⟨tis,ae,CR,true⟩:=aG.trees ND
def fH (a0:tO) (k1:Int):Option (tO×Int) :=
 (cL a0.2.2.1 k1).bind λz =>
 (cM a0.2.2.2.1 z.2).bind λz_1 =>
 (fG (a0.2.2.2.2.1,a0.2.2.2.2.2.1) z_1.2).bind λz_2 =>
 some ((a0.1,a0.2.1,z.1,z_1.1,z_2.1.1,z_2.1.2,a0.2.2.2.2.2.2.1,a0.2.2.2.2.2.2.2.1,a0.2.2.2.2.2.2.2.2.1,a0.2.2.2.2.2.2.2.2.2.1,a0.2.2.2.2.2.2.2.2.2.2),z_2.2)
def Bn:y9:=⟨true,uc,λa k=>fH a k⟩
theorem FR:xD ⟨tis,ae,CR,true⟩ [] Tryz.f114 (vL Tryz.f114) true uc=λa k=>fH a k:=by kernel_rfl
theorem FS:w4 Tryz.prog 114 Bn:=by
 have h:=yd (ann:=[]) (agg:=true) (cs:=uc) R9 zN Tryz.func114 (by kernel_rfl) (by kernel_rfl:Tryz.f114.body=some (vL Tryz.f114));rw[FR]at h;exact h
def CS:List (FuncId×y9):=(114,Bn)::CR
theorem NE:∀f M,tM CS f=some M->w4 Tryz.prog f M:=wX ND FS
theorem Ra:wN Tryz.prog ⟨tis,ae,CS,true⟩:=aG.trees NE
def fJ (k1_1:Int) (i5:Int) (l:List Int):Option ((Int×Int×List Int)⊕(Int×List Int)) :=
 cond (decide (i5<(l.length:Int)))
 ((ix l.length i5).bind λj16 =>
 (l[j16]?).bind λx =>
 let ls:List Int:=l.set j16 (IntKind.u8.wrap (k1_1))
 some (.inl (tP (k1_1+1),tP (i5+1),ls)))
 (some (.inr (k1_1,l)))
def ef (a0:List Int) (k1:Int):Option ((List Int)×Int) :=
 (loop (λz=>fJ z.1 z.2.1 z.2.2) (k1,0,a0)).bind λd =>
 some (d.2,d.1)
def Cb:y9:=⟨false,vd,λa k=>ef a k⟩
def Cc:List (Nat×tY):=[(0,⟨⟨[(1,false,[dI]),(5,false,[dI])],[(1,.tree (.one (.int .u8)))]⟩,
 ⟨[(1,false,[dI])],[(1,.tree (.one (.int .u8)))]⟩,none⟩)]
theorem Gz:xD ⟨tis,ae,CS,true⟩ Cc Tryz.f98 (vL Tryz.f98) false vd=λa k=>ef a k:=by kernel_rfl
theorem GA:w4 Tryz.prog 98 Cb:=by
 have h:=yd (ann:=Cc) (agg:=false) (cs:=vd) Ra zN Tryz.func98 (by kernel_rfl) (by kernel_rfl:Tryz.f98.body=some (vL Tryz.f98));rw[Gz]at h;exact h
def Eb:List (FuncId×y9):=(98,Cb)::CS
theorem Pj:∀f M,tM Eb f=some M->w4 Tryz.prog f M:=wX NE GA
theorem Sp:wN Tryz.prog ⟨tis,ae,Eb,true⟩:=aG.trees Pj
def fK (k1_1:Int) (i5:Int) (l:List tQ):Option ((Int×Int×List tQ)⊕(Int×List tQ)) :=
 cond (decide (i5<(l.length:Int)))
 ((ix l.length i5).bind λj14 =>
 (l[j14]?).bind λx16 =>
 (l[j14]?).bind λx =>
 (bG x.1 k1_1).bind λz =>
 let ls:List tQ:=l.set j14 (z.1,x.2.1,x.2.2.1,x.2.2.2.1,x.2.2.2.2)
 (ix ls.length i5).bind λj22 =>
 (ls[j22]?).bind λx_1 =>
 let ls_1:List tQ:=ls.set j22 (x_1.1,z.2,x_1.2.2.1,x_1.2.2.2.1,x_1.2.2.2.2)
 (ix ls_1.length i5).bind λj30 =>
 (ls_1[j30]?).bind λx_2 =>
 let ls_2:List tQ:=ls_1.set j30 (x_2.1,x_2.2.1,tP (z.2+1),x_2.2.2.2.1,x_2.2.2.2.2)
 let k1_2:=tP ((tP (z.2+1))+1)
 (bY k1_2).bind λt38 =>
 (ix ls_2.length i5).bind λj39 =>
 (ls_2[j39]?).bind λx_3 =>
 let ls_3:List tQ:=ls_2.set j39 (x_3.1,x_3.2.1,x_3.2.2.1,t38,x_3.2.2.2.2)
 (ix ls_3.length i5).bind λj46 =>
 (ls_3[j46]?).bind λx49 =>
 (ls_3[j46]?).bind λx_4 =>
 (bG x_4.2.2.2.2 (tP (k1_2+1))).bind λz_1 =>
 let ls_4:List tQ:=ls_3.set j46 (x_4.1,x_4.2.1,x_4.2.2.1,x_4.2.2.2.1,z_1.1)
 some (.inl (z_1.2,tP (i5+1),ls_4)))
 (some (.inr (k1_1,l)))
def cO (a0:List tQ) (k1:Int):Option ((List tQ)×Int) :=
 (loop (λz=>fK z.1 z.2.1 z.2.2) (k1,0,a0)).bind λd =>
 some (d.2,d.1)
def Cd:y9:=⟨false,(.one (.sl u5)),λa k=>cO a k⟩
def Ce:List (Nat×tY):=[(0,⟨⟨[(1,false,[dI]),(5,false,[dI])],[(1,.tree u5)]⟩,
 ⟨[(1,false,[dI])],[(1,.tree u5)]⟩,none⟩)]
theorem GB:xD ⟨tis,ae,Eb,true⟩ Ce Tryz.f116 (vL Tryz.f116) false (.one (.sl u5))=λa k=>cO a k:=by kernel_rfl
theorem GC:w4 Tryz.prog 116 Cd:=by
 have h:=yd (ann:=Ce) (agg:=false) (cs:=(.one (.sl u5))) Sp zN Tryz.func116 (by kernel_rfl) (by kernel_rfl:Tryz.f116.body=some (vL Tryz.f116));rw[GB]at h;exact h
def CU:List (FuncId×y9):=(116,Cd)::Eb
theorem NF:∀f M,tM CU f=some M->w4 Tryz.prog f M:=wX Pj GC
theorem Rb:wN Tryz.prog ⟨tis,ae,CU,true⟩:=aG.trees NF
def fL (i1:Int) (t5:Int) (l:List ur):Option ((Int×Int×List ur)⊕(Int×List ur)) :=
 cond (decide (t5<(l.length:Int)))
 ((ix l.length t5).bind λj15 =>
 (l[j15]?).bind λx =>
 let ls:List ur:=l.set j15 (i1,x.2.1,x.2.2.1,x.2.2.2.1,x.2.2.2.2.1,x.2.2.2.2.2.1,x.2.2.2.2.2.2.1,x.2.2.2.2.2.2.2.1,x.2.2.2.2.2.2.2.2.1,x.2.2.2.2.2.2.2.2.2.1,x.2.2.2.2.2.2.2.2.2.2.1,x.2.2.2.2.2.2.2.2.2.2.2.1,x.2.2.2.2.2.2.2.2.2.2.2.2.1,x.2.2.2.2.2.2.2.2.2.2.2.2.2.1,x.2.2.2.2.2.2.2.2.2.2.2.2.2.2.1,x.2.2.2.2.2.2.2.2.2.2.2.2.2.2.2.1,x.2.2.2.2.2.2.2.2.2.2.2.2.2.2.2.2.1,x.2.2.2.2.2.2.2.2.2.2.2.2.2.2.2.2.2.1,x.2.2.2.2.2.2.2.2.2.2.2.2.2.2.2.2.2.2.1,x.2.2.2.2.2.2.2.2.2.2.2.2.2.2.2.2.2.2.2.1,x.2.2.2.2.2.2.2.2.2.2.2.2.2.2.2.2.2.2.2.2)
 (ix ls.length t5).bind λj21 =>
 (ls[j21]?).bind λx23 =>
 (ls[j21]?).bind λx_1 =>
 (ef x_1.2.1 (tP (i1+1))).bind λz =>
 let ls_1:List ur:=ls.set j21 (x_1.1,z.1,x_1.2.2.1,x_1.2.2.2.1,x_1.2.2.2.2.1,x_1.2.2.2.2.2.1,x_1.2.2.2.2.2.2.1,x_1.2.2.2.2.2.2.2.1,x_1.2.2.2.2.2.2.2.2.1,x_1.2.2.2.2.2.2.2.2.2.1,x_1.2.2.2.2.2.2.2.2.2.2.1,x_1.2.2.2.2.2.2.2.2.2.2.2.1,x_1.2.2.2.2.2.2.2.2.2.2.2.2.1,x_1.2.2.2.2.2.2.2.2.2.2.2.2.2.1,x_1.2.2.2.2.2.2.2.2.2.2.2.2.2.2.1,x_1.2.2.2.2.2.2.2.2.2.2.2.2.2.2.2.1,x_1.2.2.2.2.2.2.2.2.2.2.2.2.2.2.2.2.1,x_1.2.2.2.2.2.2.2.2.2.2.2.2.2.2.2.2.2.1,x_1.2.2.2.2.2.2.2.2.2.2.2.2.2.2.2.2.2.2.1,x_1.2.2.2.2.2.2.2.2.2.2.2.2.2.2.2.2.2.2.2.1,x_1.2.2.2.2.2.2.2.2.2.2.2.2.2.2.2.2.2.2.2.2)
 (ix ls_1.length t5).bind λj29 =>
 (ls_1[j29]?).bind λx_2 =>
 let ls_2:List ur:=ls_1.set j29 (x_2.1,x_2.2.1,z.2,x_2.2.2.2.1,x_2.2.2.2.2.1,x_2.2.2.2.2.2.1,x_2.2.2.2.2.2.2.1,x_2.2.2.2.2.2.2.2.1,x_2.2.2.2.2.2.2.2.2.1,x_2.2.2.2.2.2.2.2.2.2.1,x_2.2.2.2.2.2.2.2.2.2.2.1,x_2.2.2.2.2.2.2.2.2.2.2.2.1,x_2.2.2.2.2.2.2.2.2.2.2.2.2.1,x_2.2.2.2.2.2.2.2.2.2.2.2.2.2.1,x_2.2.2.2.2.2.2.2.2.2.2.2.2.2.2.1,x_2.2.2.2.2.2.2.2.2.2.2.2.2.2.2.2.1,x_2.2.2.2.2.2.2.2.2.2.2.2.2.2.2.2.2.1,x_2.2.2.2.2.2.2.2.2.2.2.2.2.2.2.2.2.2.1,x_2.2.2.2.2.2.2.2.2.2.2.2.2.2.2.2.2.2.2.1,x_2.2.2.2.2.2.2.2.2.2.2.2.2.2.2.2.2.2.2.2.1,x_2.2.2.2.2.2.2.2.2.2.2.2.2.2.2.2.2.2.2.2.2)
 (ix ls_2.length t5).bind λj36 =>
 (ls_2[j36]?).bind λx_3 =>
 let ls_3:List ur:=ls_2.set j36 (x_3.1,x_3.2.1,x_3.2.2.1,tP (z.2+1),x_3.2.2.2.2.1,x_3.2.2.2.2.2.1,x_3.2.2.2.2.2.2.1,x_3.2.2.2.2.2.2.2.1,x_3.2.2.2.2.2.2.2.2.1,x_3.2.2.2.2.2.2.2.2.2.1,x_3.2.2.2.2.2.2.2.2.2.2.1,x_3.2.2.2.2.2.2.2.2.2.2.2.1,x_3.2.2.2.2.2.2.2.2.2.2.2.2.1,x_3.2.2.2.2.2.2.2.2.2.2.2.2.2.1,x_3.2.2.2.2.2.2.2.2.2.2.2.2.2.2.1,x_3.2.2.2.2.2.2.2.2.2.2.2.2.2.2.2.1,x_3.2.2.2.2.2.2.2.2.2.2.2.2.2.2.2.2.1,x_3.2.2.2.2.2.2.2.2.2.2.2.2.2.2.2.2.2.1,x_3.2.2.2.2.2.2.2.2.2.2.2.2.2.2.2.2.2.2.1,x_3.2.2.2.2.2.2.2.2.2.2.2.2.2.2.2.2.2.2.2.1,x_3.2.2.2.2.2.2.2.2.2.2.2.2.2.2.2.2.2.2.2.2)
 let i1_1:=tP ((tP (z.2+1))+1)
 (ix ls_3.length t5).bind λj44 =>
 (ls_3[j44]?).bind λx_4 =>
 let ls_4:List ur:=ls_3.set j44 (x_4.1,x_4.2.1,x_4.2.2.1,x_4.2.2.2.1,i1_1,x_4.2.2.2.2.2.1,x_4.2.2.2.2.2.2.1,x_4.2.2.2.2.2.2.2.1,x_4.2.2.2.2.2.2.2.2.1,x_4.2.2.2.2.2.2.2.2.2.1,x_4.2.2.2.2.2.2.2.2.2.2.1,x_4.2.2.2.2.2.2.2.2.2.2.2.1,x_4.2.2.2.2.2.2.2.2.2.2.2.2.1,x_4.2.2.2.2.2.2.2.2.2.2.2.2.2.1,x_4.2.2.2.2.2.2.2.2.2.2.2.2.2.2.1,x_4.2.2.2.2.2.2.2.2.2.2.2.2.2.2.2.1,x_4.2.2.2.2.2.2.2.2.2.2.2.2.2.2.2.2.1,x_4.2.2.2.2.2.2.2.2.2.2.2.2.2.2.2.2.2.1,x_4.2.2.2.2.2.2.2.2.2.2.2.2.2.2.2.2.2.2.1,x_4.2.2.2.2.2.2.2.2.2.2.2.2.2.2.2.2.2.2.2.1,x_4.2.2.2.2.2.2.2.2.2.2.2.2.2.2.2.2.2.2.2.2)
 (ix ls_4.length t5).bind λj52 =>
 (ls_4[j52]?).bind λx_5 =>
 let ls_5:List ur:=ls_4.set j52 (x_5.1,x_5.2.1,x_5.2.2.1,x_5.2.2.2.1,x_5.2.2.2.2.1,tP (i1_1+1),x_5.2.2.2.2.2.2.1,x_5.2.2.2.2.2.2.2.1,x_5.2.2.2.2.2.2.2.2.1,x_5.2.2.2.2.2.2.2.2.2.1,x_5.2.2.2.2.2.2.2.2.2.2.1,x_5.2.2.2.2.2.2.2.2.2.2.2.1,x_5.2.2.2.2.2.2.2.2.2.2.2.2.1,x_5.2.2.2.2.2.2.2.2.2.2.2.2.2.1,x_5.2.2.2.2.2.2.2.2.2.2.2.2.2.2.1,x_5.2.2.2.2.2.2.2.2.2.2.2.2.2.2.2.1,x_5.2.2.2.2.2.2.2.2.2.2.2.2.2.2.2.2.1,x_5.2.2.2.2.2.2.2.2.2.2.2.2.2.2.2.2.2.1,x_5.2.2.2.2.2.2.2.2.2.2.2.2.2.2.2.2.2.2.1,x_5.2.2.2.2.2.2.2.2.2.2.2.2.2.2.2.2.2.2.2.1,x_5.2.2.2.2.2.2.2.2.2.2.2.2.2.2.2.2.2.2.2.2)
 let i1_2:=tP ((tP (i1_1+1))+1)
 (ix ls_5.length t5).bind λj60 =>
 (ls_5[j60]?).bind λx_6 =>
 let ls_6:List ur:=ls_5.set j60 (x_6.1,x_6.2.1,x_6.2.2.1,x_6.2.2.2.1,x_6.2.2.2.2.1,x_6.2.2.2.2.2.1,i1_2,x_6.2.2.2.2.2.2.2.1,x_6.2.2.2.2.2.2.2.2.1,x_6.2.2.2.2.2.2.2.2.2.1,x_6.2.2.2.2.2.2.2.2.2.2.1,x_6.2.2.2.2.2.2.2.2.2.2.2.1,x_6.2.2.2.2.2.2.2.2.2.2.2.2.1,x_6.2.2.2.2.2.2.2.2.2.2.2.2.2.1,x_6.2.2.2.2.2.2.2.2.2.2.2.2.2.2.1,x_6.2.2.2.2.2.2.2.2.2.2.2.2.2.2.2.1,x_6.2.2.2.2.2.2.2.2.2.2.2.2.2.2.2.2.1,x_6.2.2.2.2.2.2.2.2.2.2.2.2.2.2.2.2.2.1,x_6.2.2.2.2.2.2.2.2.2.2.2.2.2.2.2.2.2.2.1,x_6.2.2.2.2.2.2.2.2.2.2.2.2.2.2.2.2.2.2.2.1,x_6.2.2.2.2.2.2.2.2.2.2.2.2.2.2.2.2.2.2.2.2)
 (ix ls_6.length t5).bind λj67 =>
 (ls_6[j67]?).bind λx70 =>
 (ls_6[j67]?).bind λx_7 =>
 (cO x_7.2.2.2.2.2.2.2.1 (tP (i1_2+1))).bind λz_1 =>
 let ls_7:List ur:=ls_6.set j67 (x_7.1,x_7.2.1,x_7.2.2.1,x_7.2.2.2.1,x_7.2.2.2.2.1,x_7.2.2.2.2.2.1,x_7.2.2.2.2.2.2.1,z_1.1,x_7.2.2.2.2.2.2.2.2.1,x_7.2.2.2.2.2.2.2.2.2.1,x_7.2.2.2.2.2.2.2.2.2.2.1,x_7.2.2.2.2.2.2.2.2.2.2.2.1,x_7.2.2.2.2.2.2.2.2.2.2.2.2.1,x_7.2.2.2.2.2.2.2.2.2.2.2.2.2.1,x_7.2.2.2.2.2.2.2.2.2.2.2.2.2.2.1,x_7.2.2.2.2.2.2.2.2.2.2.2.2.2.2.2.1,x_7.2.2.2.2.2.2.2.2.2.2.2.2.2.2.2.2.1,x_7.2.2.2.2.2.2.2.2.2.2.2.2.2.2.2.2.2.1,x_7.2.2.2.2.2.2.2.2.2.2.2.2.2.2.2.2.2.2.1,x_7.2.2.2.2.2.2.2.2.2.2.2.2.2.2.2.2.2.2.2.1,x_7.2.2.2.2.2.2.2.2.2.2.2.2.2.2.2.2.2.2.2.2)
 (ix ls_7.length t5).bind λj76 =>
 (ls_7[j76]?).bind λx_8 =>
 let ls_8:List ur:=ls_7.set j76 (x_8.1,x_8.2.1,x_8.2.2.1,x_8.2.2.2.1,x_8.2.2.2.2.1,x_8.2.2.2.2.2.1,x_8.2.2.2.2.2.2.1,x_8.2.2.2.2.2.2.2.1,z_1.2,x_8.2.2.2.2.2.2.2.2.2.1,x_8.2.2.2.2.2.2.2.2.2.2.1,x_8.2.2.2.2.2.2.2.2.2.2.2.1,x_8.2.2.2.2.2.2.2.2.2.2.2.2.1,x_8.2.2.2.2.2.2.2.2.2.2.2.2.2.1,x_8.2.2.2.2.2.2.2.2.2.2.2.2.2.2.1,x_8.2.2.2.2.2.2.2.2.2.2.2.2.2.2.2.1,x_8.2.2.2.2.2.2.2.2.2.2.2.2.2.2.2.2.1,x_8.2.2.2.2.2.2.2.2.2.2.2.2.2.2.2.2.2.1,x_8.2.2.2.2.2.2.2.2.2.2.2.2.2.2.2.2.2.2.1,x_8.2.2.2.2.2.2.2.2.2.2.2.2.2.2.2.2.2.2.2.1,x_8.2.2.2.2.2.2.2.2.2.2.2.2.2.2.2.2.2.2.2.2)
 (bY (tP (z_1.2+1))).bind λt84 =>
 (ix ls_8.length t5).bind λj85 =>
 (ls_8[j85]?).bind λx_9 =>
 let ls_9:List ur:=ls_8.set j85 (x_9.1,x_9.2.1,x_9.2.2.1,x_9.2.2.2.1,x_9.2.2.2.2.1,x_9.2.2.2.2.2.1,x_9.2.2.2.2.2.2.1,x_9.2.2.2.2.2.2.2.1,x_9.2.2.2.2.2.2.2.2.1,t84,x_9.2.2.2.2.2.2.2.2.2.2.1,x_9.2.2.2.2.2.2.2.2.2.2.2.1,x_9.2.2.2.2.2.2.2.2.2.2.2.2.1,x_9.2.2.2.2.2.2.2.2.2.2.2.2.2.1,x_9.2.2.2.2.2.2.2.2.2.2.2.2.2.2.1,x_9.2.2.2.2.2.2.2.2.2.2.2.2.2.2.2.1,x_9.2.2.2.2.2.2.2.2.2.2.2.2.2.2.2.2.1,x_9.2.2.2.2.2.2.2.2.2.2.2.2.2.2.2.2.2.1,x_9.2.2.2.2.2.2.2.2.2.2.2.2.2.2.2.2.2.2.1,x_9.2.2.2.2.2.2.2.2.2.2.2.2.2.2.2.2.2.2.2.1,x_9.2.2.2.2.2.2.2.2.2.2.2.2.2.2.2.2.2.2.2.2)
 let i1_3:=tP ((tP (z_1.2+1))+1)
 (ix ls_9.length t5).bind λj92 =>
 (ls_9[j92]?).bind λx95 =>
 (ls_9[j92]?).bind λx_10 =>
 (cL x_10.2.2.2.2.2.2.2.2.2.2.1 i1_3).bind λz_2 =>
 let ls_10:List ur:=ls_9.set j92 (x_10.1,x_10.2.1,x_10.2.2.1,x_10.2.2.2.1,x_10.2.2.2.2.1,x_10.2.2.2.2.2.1,x_10.2.2.2.2.2.2.1,x_10.2.2.2.2.2.2.2.1,x_10.2.2.2.2.2.2.2.2.1,x_10.2.2.2.2.2.2.2.2.2.1,z_2.1,x_10.2.2.2.2.2.2.2.2.2.2.2.1,x_10.2.2.2.2.2.2.2.2.2.2.2.2.1,x_10.2.2.2.2.2.2.2.2.2.2.2.2.2.1,x_10.2.2.2.2.2.2.2.2.2.2.2.2.2.2.1,x_10.2.2.2.2.2.2.2.2.2.2.2.2.2.2.2.1,x_10.2.2.2.2.2.2.2.2.2.2.2.2.2.2.2.2.1,x_10.2.2.2.2.2.2.2.2.2.2.2.2.2.2.2.2.2.1,x_10.2.2.2.2.2.2.2.2.2.2.2.2.2.2.2.2.2.2.1,x_10.2.2.2.2.2.2.2.2.2.2.2.2.2.2.2.2.2.2.2.1,x_10.2.2.2.2.2.2.2.2.2.2.2.2.2.2.2.2.2.2.2.2)
 (ix ls_10.length t5).bind λj100 =>
 (ls_10[j100]?).bind λx103 =>
 (ls_10[j100]?).bind λx_11 =>
 (cM x_11.2.2.2.2.2.2.2.2.2.2.2.1 z_2.2).bind λz_3 =>
 let ls_11:List ur:=ls_10.set j100 (x_11.1,x_11.2.1,x_11.2.2.1,x_11.2.2.2.1,x_11.2.2.2.2.1,x_11.2.2.2.2.2.1,x_11.2.2.2.2.2.2.1,x_11.2.2.2.2.2.2.2.1,x_11.2.2.2.2.2.2.2.2.1,x_11.2.2.2.2.2.2.2.2.2.1,x_11.2.2.2.2.2.2.2.2.2.2.1,z_3.1,x_11.2.2.2.2.2.2.2.2.2.2.2.2.1,x_11.2.2.2.2.2.2.2.2.2.2.2.2.2.1,x_11.2.2.2.2.2.2.2.2.2.2.2.2.2.2.1,x_11.2.2.2.2.2.2.2.2.2.2.2.2.2.2.2.1,x_11.2.2.2.2.2.2.2.2.2.2.2.2.2.2.2.2.1,x_11.2.2.2.2.2.2.2.2.2.2.2.2.2.2.2.2.2.1,x_11.2.2.2.2.2.2.2.2.2.2.2.2.2.2.2.2.2.2.1,x_11.2.2.2.2.2.2.2.2.2.2.2.2.2.2.2.2.2.2.2.1,x_11.2.2.2.2.2.2.2.2.2.2.2.2.2.2.2.2.2.2.2.2)
 (ix ls_11.length t5).bind λj108 =>
 (ls_11[j108]?).bind λx112 =>
 (ls_11[j108]?).bind λx_12 =>
 (cN x_12.2.2.2.2.2.2.2.2.2.2.2.2.1 z_3.2).bind λz_4 =>
 let ls_12:List ur:=ls_11.set j108 (x_12.1,x_12.2.1,x_12.2.2.1,x_12.2.2.2.1,x_12.2.2.2.2.1,x_12.2.2.2.2.2.1,x_12.2.2.2.2.2.2.1,x_12.2.2.2.2.2.2.2.1,x_12.2.2.2.2.2.2.2.2.1,x_12.2.2.2.2.2.2.2.2.2.1,x_12.2.2.2.2.2.2.2.2.2.2.1,x_12.2.2.2.2.2.2.2.2.2.2.2.1,z_4.1,x_12.2.2.2.2.2.2.2.2.2.2.2.2.2.1,x_12.2.2.2.2.2.2.2.2.2.2.2.2.2.2.1,x_12.2.2.2.2.2.2.2.2.2.2.2.2.2.2.2.1,x_12.2.2.2.2.2.2.2.2.2.2.2.2.2.2.2.2.1,x_12.2.2.2.2.2.2.2.2.2.2.2.2.2.2.2.2.2.1,x_12.2.2.2.2.2.2.2.2.2.2.2.2.2.2.2.2.2.2.1,x_12.2.2.2.2.2.2.2.2.2.2.2.2.2.2.2.2.2.2.2.1,x_12.2.2.2.2.2.2.2.2.2.2.2.2.2.2.2.2.2.2.2.2)
 (ix ls_12.length t5).bind λj117 =>
 (ls_12[j117]?).bind λx121 =>
 (ls_12[j117]?).bind λx_13 =>
 (bG x_13.2.2.2.2.2.2.2.2.2.2.2.2.2.1 z_4.2).bind λz_5 =>
 let ls_13:List ur:=ls_12.set j117 (x_13.1,x_13.2.1,x_13.2.2.1,x_13.2.2.2.1,x_13.2.2.2.2.1,x_13.2.2.2.2.2.1,x_13.2.2.2.2.2.2.1,x_13.2.2.2.2.2.2.2.1,x_13.2.2.2.2.2.2.2.2.1,x_13.2.2.2.2.2.2.2.2.2.1,x_13.2.2.2.2.2.2.2.2.2.2.1,x_13.2.2.2.2.2.2.2.2.2.2.2.1,x_13.2.2.2.2.2.2.2.2.2.2.2.2.1,z_5.1,x_13.2.2.2.2.2.2.2.2.2.2.2.2.2.2.1,x_13.2.2.2.2.2.2.2.2.2.2.2.2.2.2.2.1,x_13.2.2.2.2.2.2.2.2.2.2.2.2.2.2.2.2.1,x_13.2.2.2.2.2.2.2.2.2.2.2.2.2.2.2.2.2.1,x_13.2.2.2.2.2.2.2.2.2.2.2.2.2.2.2.2.2.2.1,x_13.2.2.2.2.2.2.2.2.2.2.2.2.2.2.2.2.2.2.2.1,x_13.2.2.2.2.2.2.2.2.2.2.2.2.2.2.2.2.2.2.2.2)
 (ix ls_13.length t5).bind λj127 =>
 (ls_13[j127]?).bind λx_14 =>
 let ls_14:List ur:=ls_13.set j127 (x_14.1,x_14.2.1,x_14.2.2.1,x_14.2.2.2.1,x_14.2.2.2.2.1,x_14.2.2.2.2.2.1,x_14.2.2.2.2.2.2.1,x_14.2.2.2.2.2.2.2.1,x_14.2.2.2.2.2.2.2.2.1,x_14.2.2.2.2.2.2.2.2.2.1,x_14.2.2.2.2.2.2.2.2.2.2.1,x_14.2.2.2.2.2.2.2.2.2.2.2.1,x_14.2.2.2.2.2.2.2.2.2.2.2.2.1,x_14.2.2.2.2.2.2.2.2.2.2.2.2.2.1,z_5.2,x_14.2.2.2.2.2.2.2.2.2.2.2.2.2.2.2.1,x_14.2.2.2.2.2.2.2.2.2.2.2.2.2.2.2.2.1,x_14.2.2.2.2.2.2.2.2.2.2.2.2.2.2.2.2.2.1,x_14.2.2.2.2.2.2.2.2.2.2.2.2.2.2.2.2.2.2.1,x_14.2.2.2.2.2.2.2.2.2.2.2.2.2.2.2.2.2.2.2.1,x_14.2.2.2.2.2.2.2.2.2.2.2.2.2.2.2.2.2.2.2.2)
 (ix ls_14.length t5).bind λj135 =>
 (ls_14[j135]?).bind λx_15 =>
 let ls_15:List ur:=ls_14.set j135 (x_15.1,x_15.2.1,x_15.2.2.1,x_15.2.2.2.1,x_15.2.2.2.2.1,x_15.2.2.2.2.2.1,x_15.2.2.2.2.2.2.1,x_15.2.2.2.2.2.2.2.1,x_15.2.2.2.2.2.2.2.2.1,x_15.2.2.2.2.2.2.2.2.2.1,x_15.2.2.2.2.2.2.2.2.2.2.1,x_15.2.2.2.2.2.2.2.2.2.2.2.1,x_15.2.2.2.2.2.2.2.2.2.2.2.2.1,x_15.2.2.2.2.2.2.2.2.2.2.2.2.2.1,x_15.2.2.2.2.2.2.2.2.2.2.2.2.2.2.1,tP (z_5.2+1),x_15.2.2.2.2.2.2.2.2.2.2.2.2.2.2.2.2.1,x_15.2.2.2.2.2.2.2.2.2.2.2.2.2.2.2.2.2.1,x_15.2.2.2.2.2.2.2.2.2.2.2.2.2.2.2.2.2.2.1,x_15.2.2.2.2.2.2.2.2.2.2.2.2.2.2.2.2.2.2.2.1,x_15.2.2.2.2.2.2.2.2.2.2.2.2.2.2.2.2.2.2.2.2)
 let i1_4:=tP ((tP (z_5.2+1))+1)
 (ix ls_15.length t5).bind λj143 =>
 (ls_15[j143]?).bind λx_16 =>
 let ls_16:List ur:=ls_15.set j143 (x_16.1,x_16.2.1,x_16.2.2.1,x_16.2.2.2.1,x_16.2.2.2.2.1,x_16.2.2.2.2.2.1,x_16.2.2.2.2.2.2.1,x_16.2.2.2.2.2.2.2.1,x_16.2.2.2.2.2.2.2.2.1,x_16.2.2.2.2.2.2.2.2.2.1,x_16.2.2.2.2.2.2.2.2.2.2.1,x_16.2.2.2.2.2.2.2.2.2.2.2.1,x_16.2.2.2.2.2.2.2.2.2.2.2.2.1,x_16.2.2.2.2.2.2.2.2.2.2.2.2.2.1,x_16.2.2.2.2.2.2.2.2.2.2.2.2.2.2.1,x_16.2.2.2.2.2.2.2.2.2.2.2.2.2.2.2.1,i1_4,x_16.2.2.2.2.2.2.2.2.2.2.2.2.2.2.2.2.2.1,x_16.2.2.2.2.2.2.2.2.2.2.2.2.2.2.2.2.2.2.1,x_16.2.2.2.2.2.2.2.2.2.2.2.2.2.2.2.2.2.2.2.1,x_16.2.2.2.2.2.2.2.2.2.2.2.2.2.2.2.2.2.2.2.2)
 (ix ls_16.length t5).bind λj151 =>
 (ls_16[j151]?).bind λx_17 =>
 let ls_17:List ur:=ls_16.set j151 (x_17.1,x_17.2.1,x_17.2.2.1,x_17.2.2.2.1,x_17.2.2.2.2.1,x_17.2.2.2.2.2.1,x_17.2.2.2.2.2.2.1,x_17.2.2.2.2.2.2.2.1,x_17.2.2.2.2.2.2.2.2.1,x_17.2.2.2.2.2.2.2.2.2.1,x_17.2.2.2.2.2.2.2.2.2.2.1,x_17.2.2.2.2.2.2.2.2.2.2.2.1,x_17.2.2.2.2.2.2.2.2.2.2.2.2.1,x_17.2.2.2.2.2.2.2.2.2.2.2.2.2.1,x_17.2.2.2.2.2.2.2.2.2.2.2.2.2.2.1,x_17.2.2.2.2.2.2.2.2.2.2.2.2.2.2.2.1,x_17.2.2.2.2.2.2.2.2.2.2.2.2.2.2.2.2.1,tP (i1_4+1),x_17.2.2.2.2.2.2.2.2.2.2.2.2.2.2.2.2.2.2.1,x_17.2.2.2.2.2.2.2.2.2.2.2.2.2.2.2.2.2.2.2.1,x_17.2.2.2.2.2.2.2.2.2.2.2.2.2.2.2.2.2.2.2.2)
 let i1_5:=tP ((tP (i1_4+1))+1)
 (ix ls_17.length t5).bind λj159 =>
 (ls_17[j159]?).bind λx_18 =>
 let ls_18:List ur:=ls_17.set j159 (x_18.1,x_18.2.1,x_18.2.2.1,x_18.2.2.2.1,x_18.2.2.2.2.1,x_18.2.2.2.2.2.1,x_18.2.2.2.2.2.2.1,x_18.2.2.2.2.2.2.2.1,x_18.2.2.2.2.2.2.2.2.1,x_18.2.2.2.2.2.2.2.2.2.1,x_18.2.2.2.2.2.2.2.2.2.2.1,x_18.2.2.2.2.2.2.2.2.2.2.2.1,x_18.2.2.2.2.2.2.2.2.2.2.2.2.1,x_18.2.2.2.2.2.2.2.2.2.2.2.2.2.1,x_18.2.2.2.2.2.2.2.2.2.2.2.2.2.2.1,x_18.2.2.2.2.2.2.2.2.2.2.2.2.2.2.2.1,x_18.2.2.2.2.2.2.2.2.2.2.2.2.2.2.2.2.1,x_18.2.2.2.2.2.2.2.2.2.2.2.2.2.2.2.2.2.1,i1_5,x_18.2.2.2.2.2.2.2.2.2.2.2.2.2.2.2.2.2.2.2.1,x_18.2.2.2.2.2.2.2.2.2.2.2.2.2.2.2.2.2.2.2.2)
 (ix ls_18.length t5).bind λj167 =>
 (ls_18[j167]?).bind λx_19 =>
 let ls_19:List ur:=ls_18.set j167 (x_19.1,x_19.2.1,x_19.2.2.1,x_19.2.2.2.1,x_19.2.2.2.2.1,x_19.2.2.2.2.2.1,x_19.2.2.2.2.2.2.1,x_19.2.2.2.2.2.2.2.1,x_19.2.2.2.2.2.2.2.2.1,x_19.2.2.2.2.2.2.2.2.2.1,x_19.2.2.2.2.2.2.2.2.2.2.1,x_19.2.2.2.2.2.2.2.2.2.2.2.1,x_19.2.2.2.2.2.2.2.2.2.2.2.2.1,x_19.2.2.2.2.2.2.2.2.2.2.2.2.2.1,x_19.2.2.2.2.2.2.2.2.2.2.2.2.2.2.1,x_19.2.2.2.2.2.2.2.2.2.2.2.2.2.2.2.1,x_19.2.2.2.2.2.2.2.2.2.2.2.2.2.2.2.2.1,x_19.2.2.2.2.2.2.2.2.2.2.2.2.2.2.2.2.2.1,x_19.2.2.2.2.2.2.2.2.2.2.2.2.2.2.2.2.2.2.1,tP (i1_5+1),x_19.2.2.2.2.2.2.2.2.2.2.2.2.2.2.2.2.2.2.2.2)
 let i1_6:=tP ((tP (i1_5+1))+1)
 (ix ls_19.length t5).bind λj174 =>
 (ls_19[j174]?).bind λx_20 =>
 let ls_20:List ur:=ls_19.set j174 (x_20.1,x_20.2.1,x_20.2.2.1,x_20.2.2.2.1,x_20.2.2.2.2.1,x_20.2.2.2.2.2.1,x_20.2.2.2.2.2.2.1,x_20.2.2.2.2.2.2.2.1,x_20.2.2.2.2.2.2.2.2.1,x_20.2.2.2.2.2.2.2.2.2.1,x_20.2.2.2.2.2.2.2.2.2.2.1,x_20.2.2.2.2.2.2.2.2.2.2.2.1,x_20.2.2.2.2.2.2.2.2.2.2.2.2.1,x_20.2.2.2.2.2.2.2.2.2.2.2.2.2.1,x_20.2.2.2.2.2.2.2.2.2.2.2.2.2.2.1,x_20.2.2.2.2.2.2.2.2.2.2.2.2.2.2.2.1,x_20.2.2.2.2.2.2.2.2.2.2.2.2.2.2.2.2.1,x_20.2.2.2.2.2.2.2.2.2.2.2.2.2.2.2.2.2.1,x_20.2.2.2.2.2.2.2.2.2.2.2.2.2.2.2.2.2.2.1,x_20.2.2.2.2.2.2.2.2.2.2.2.2.2.2.2.2.2.2.2.1,i1_6)
 some (.inl (tP (i1_6+1),tP (t5+1),ls_20)))
 (some (.inr (i1,l)))
def eg (a0:List ur) (k1:Int):Option ((List ur)×Int) :=
 (loop (λz=>fL z.1 z.2.1 z.2.2) (k1,0,a0)).bind λd =>
 some (d.2,d.1)
def CV:y9:=⟨false,(.one (.sl vU)),λa k=>eg a k⟩
def CW:List (Nat×tY):=[(0,⟨⟨[(1,false,[dI]),(5,false,[dI])],[(1,.tree vU)]⟩,
 ⟨[(1,false,[dI])],[(1,.tree vU)]⟩,none⟩)]
theorem HA:xD ⟨tis,ae,CU,true⟩ CW Tryz.f115 (vL Tryz.f115) false (.one (.sl vU))=λa k=>eg a k:=by kernel_rfl
theorem HB:w4 Tryz.prog 115 CV:=by
 have h:=yd (ann:=CW) (agg:=false) (cs:=(.one (.sl vU))) Rb zN Tryz.func115 (by kernel_rfl) (by kernel_rfl:Tryz.f115.body=some (vL Tryz.f115));rw[HA]at h;exact h
def CX:List (FuncId×y9):=(115,CV)::CU
theorem NG:∀f M,tM CX f=some M->w4 Tryz.prog f M:=wX NF HB
theorem Rc:wN Tryz.prog ⟨tis,ae,CX,true⟩:=aG.trees NG
def cP (a0:ue) (k1:Int):Option (ue×Int) :=
 (fH (a0.1,a0.2.1,a0.2.2.1,a0.2.2.2.1,a0.2.2.2.2.1,a0.2.2.2.2.2.1,a0.2.2.2.2.2.2.1,a0.2.2.2.2.2.2.2.1,a0.2.2.2.2.2.2.2.2.1,a0.2.2.2.2.2.2.2.2.2.1,a0.2.2.2.2.2.2.2.2.2.2.1) k1).bind λz =>
 (eg a0.2.2.2.2.2.2.2.2.2.2.2.2.1 z.2).bind λz_1 =>
 some ((a0.1,a0.2.1,z.1.2.2.1,z.1.2.2.2.1,z.1.2.2.2.2.1,z.1.2.2.2.2.2.1,a0.2.2.2.2.2.2.1,a0.2.2.2.2.2.2.2.1,a0.2.2.2.2.2.2.2.2.1,a0.2.2.2.2.2.2.2.2.2.1,a0.2.2.2.2.2.2.2.2.2.2.1,a0.2.2.2.2.2.2.2.2.2.2.2.1,z_1.1,a0.2.2.2.2.2.2.2.2.2.2.2.2.2.1,a0.2.2.2.2.2.2.2.2.2.2.2.2.2.2),z_1.2)
def Cf:y9:=⟨true,uN,λa k=>cP a k⟩
theorem GD:xD ⟨tis,ae,CX,true⟩ [] Tryz.f35 (vL Tryz.f35) true uN=λa k=>cP a k:=by kernel_rfl
theorem GE:w4 Tryz.prog 35 Cf:=by
 have h:=yd (ann:=[]) (agg:=true) (cs:=uN) Rc zN Tryz.func35 (by kernel_rfl) (by kernel_rfl:Tryz.f35.body=some (vL Tryz.f35));rw[GD]at h;exact h
def Ec:List (FuncId×y9):=(35,Cf)::CX
theorem Pk:∀f M,tM Ec f=some M->w4 Tryz.prog f M:=wX NG GE
theorem Sq:wN Tryz.prog ⟨tis,ae,Ec,true⟩:=aG.trees Pk
def fM (k1_1:Int) (i5:Int) (l:List vB):Option ((Int×Int×List vB)⊕(Int×List vB)) :=
 cond (decide (i5<(l.length:Int)))
 ((ix l.length i5).bind λj15 =>
 (l[j15]?).bind λx =>
 let ls:List vB:=l.set j15 (k1_1,x.2.1,x.2.2.1,x.2.2.2.1,x.2.2.2.2.1,x.2.2.2.2.2)
 (ix ls.length i5).bind λj22 =>
 (ls[j22]?).bind λx_1 =>
 let ls_1:List vB:=ls.set j22 (x_1.1,tP (k1_1+1),x_1.2.2.1,x_1.2.2.2.1,x_1.2.2.2.2.1,x_1.2.2.2.2.2)
 let k1_2:=tP ((tP (k1_1+1))+1)
 (ix ls_1.length i5).bind λj30 =>
 (ls_1[j30]?).bind λx_2 =>
 let ls_2:List vB:=ls_1.set j30 (x_2.1,x_2.2.1,k1_2,x_2.2.2.2.1,x_2.2.2.2.2.1,x_2.2.2.2.2.2)
 (ix ls_2.length i5).bind λj38 =>
 (ls_2[j38]?).bind λx_3 =>
 let ls_3:List vB:=ls_2.set j38 (x_3.1,x_3.2.1,x_3.2.2.1,tP (k1_2+1),x_3.2.2.2.2.1,x_3.2.2.2.2.2)
 let k1_3:=tP ((tP (k1_2+1))+1)
 (ix ls_3.length i5).bind λj46 =>
 (ls_3[j46]?).bind λx_4 =>
 let ls_4:List vB:=ls_3.set j46 (x_4.1,x_4.2.1,x_4.2.2.1,x_4.2.2.2.1,k1_3,x_4.2.2.2.2.2)
 (ix ls_4.length i5).bind λj53 =>
 (ls_4[j53]?).bind λx56 =>
 (ls_4[j53]?).bind λx_5 =>
 (cO x_5.2.2.2.2.2 (tP (k1_3+1))).bind λz =>
 let ls_5:List vB:=ls_4.set j53 (x_5.1,x_5.2.1,x_5.2.2.1,x_5.2.2.2.1,x_5.2.2.2.2.1,z.1)
 some (.inl (z.2,tP (i5+1),ls_5)))
 (some (.inr (k1_1,l)))
def eh (a0:List vB) (k1:Int):Option ((List vB)×Int) :=
 (loop (λz=>fM z.1 z.2.1 z.2.2) (k1,0,a0)).bind λd =>
 some (d.2,d.1)
def Cg:y9:=⟨false,(.one (.sl xE)),λa k=>eh a k⟩
def Ch:List (Nat×tY):=[(0,⟨⟨[(1,false,[dI]),(5,false,[dI])],[(1,.tree xE)]⟩,
 ⟨[(1,false,[dI])],[(1,.tree xE)]⟩,none⟩)]
theorem GF:xD ⟨tis,ae,Ec,true⟩ Ch Tryz.f36 (vL Tryz.f36) false (.one (.sl xE))=λa k=>eh a k:=by kernel_rfl
theorem GG:w4 Tryz.prog 36 Cg:=by
 have h:=yd (ann:=Ch) (agg:=false) (cs:=(.one (.sl xE))) Sq zN Tryz.func36 (by kernel_rfl) (by kernel_rfl:Tryz.f36.body=some (vL Tryz.f36));rw[GF]at h;exact h
def GH:List (FuncId×y9):=(36,Cg)::Ec
theorem Sr:∀f M,tM GH f=some M->w4 Tryz.prog f M:=wX Pk GG
theorem Ss:wN Tryz.prog ⟨tis,ae,GH,true⟩:=aG.trees Sr
def z7 (p0:ue) (i1:Int):Option Bool :=
 (gV p0 1048576).bind λt18 =>
 cond (decide (t18<0))
 (some true)
 ((ca p0).bind λt23 =>
 (bm t23 i1).bind λt25 =>
 (ca p0).bind λt29 =>
 (aR t29 i1).bind λt33 =>
 (bW t33.1 t25.1).bind λt38 =>
 (cond (!t38)
 (some true)
 ((dX t33.2 t25.2).bind λt43 =>
 some (!t43))).bind λt45 =>
 cond t45
 (some false)
 ((ca p0).bind λt48 =>
 (bW t29 t48).bind λt49 =>
 cond (!t49)
 (some false)
 ((cP t29 1).bind λz =>
 (cond (decide (z.2<0))
 (some true)
 ((bW t33.1 t25.1).bind λt59 =>
 some (!t59))).bind λt61 =>
 (cond t61
 (some true)
 ((dX t33.2 t25.2).bind λt65 =>
 some (!t65))).bind λt67 =>
 cond t67
 (some false)
 ((cP t33.1 1).bind λz_1 =>
 (eh t33.2 z_1.2).bind λz_2 =>
 (ed (t33.1.1,t33.1.2.1,z_1.1.2.2.1,z_1.1.2.2.2.1,z_1.1.2.2.2.2.1,z_1.1.2.2.2.2.2.1,t33.1.2.2.2.2.2.2.1,t33.1.2.2.2.2.2.2.2.1,t33.1.2.2.2.2.2.2.2.2.1,t33.1.2.2.2.2.2.2.2.2.2.1,t33.1.2.2.2.2.2.2.2.2.2.2.1,t33.1.2.2.2.2.2.2.2.2.2.2.2.1,z_1.1.2.2.2.2.2.2.2.2.2.2.2.2.1,t33.1.2.2.2.2.2.2.2.2.2.2.2.2.2.1,t33.1.2.2.2.2.2.2.2.2.2.2.2.2.2.2) 1).bind λt76 =>
 cond (decide (t76<0))
 (some false)
 ((ee z_2.1 t76).bind λt81 =>
 cond (decide (t81<0))
 (some false)
 (cond (t81 != z_2.2)
 (some false)
 ((ca p0).bind λt89 =>
 (aR t89 i1).bind λt91 =>
 (bW t91.1 t25.1).bind λt96 =>
 (cond (!t96)
 (some true)
 ((dX t91.2 t25.2).bind λt101 =>
 some (!t101))).bind λt103 =>
 cond t103
 (some false)
 ((ed (t33.1.1,t33.1.2.1,z_1.1.2.2.1,z_1.1.2.2.2.1,z_1.1.2.2.2.2.1,z_1.1.2.2.2.2.2.1,t33.1.2.2.2.2.2.2.1,t33.1.2.2.2.2.2.2.2.1,t33.1.2.2.2.2.2.2.2.2.1,t33.1.2.2.2.2.2.2.2.2.2.1,t33.1.2.2.2.2.2.2.2.2.2.2.1,t33.1.2.2.2.2.2.2.2.2.2.2.2.1,z_1.1.2.2.2.2.2.2.2.2.2.2.2.2.1,t33.1.2.2.2.2.2.2.2.2.2.2.2.2.2.1,t33.1.2.2.2.2.2.2.2.2.2.2.2.2.2.2) 1).bind λt106 =>
 cond (decide (t106<0))
 (some false)
 ((ee z_2.1 t106).bind λt111 =>
 cond (decide (t111<0)) (some false) (cond (t111 != z_2.2) (some false) (some true)))))))))))
def Ff:Fn:=⟨[.val true uN false,.val false tU false],[.val false uD (some true)],λa=>z7 a.1 a.2⟩
theorem Fg:Fz ⟨tis,ae,GH,true⟩ [] Tryz.f5 (vL Tryz.f5) [.val true uN false,.val false tU false] [.val false uD (some true)]=λa=>z7 a.1 a.2:=by kernel_rfl
theorem m_laws_FnExactWork:Bz Tryz.prog 5 Ff:=by
 have h:=JS (ann:=[]) (ps:=[.val true uN false,.val false tU false]) (rs:=[.val false uD (some true)]) Ss zN Tryz.func5 (by kernel_rfl) (by kernel_rfl:Tryz.f5.body=some (vL Tryz.f5));rw[Fg]at h;exact h
end
end Go.V.W

