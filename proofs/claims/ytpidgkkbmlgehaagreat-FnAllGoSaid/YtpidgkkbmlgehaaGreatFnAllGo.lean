/- The law FnAllGo: part of the proof that for every input it returns true. No condition. -/
import Derived.Test.YtpidgkkbmlgehaaGreatFnAllGoP1
set_option linter.unusedVariables false
set_option linter.unusedSimpArgs false
namespace Go.V.W
open Go.Proofs
noncomputable section
def cm (i4_1:Int) (b0_4:List Int) (b1_4:Int) (b2_4:Int) (b0_5:Int) (b1_5:Int) (b2_5:Int) (b3_2:Int) (b4_2:List sB):Option ((Int×List Int×Int×Int×Int×Int×Int×Int×List sB)⊕(List Int×Int×Int×Int×Int×Int×Int×List sB)) :=
 cond (decide (i4_1>0))
 ((aJ (b0_4,b1_4,b2_4)).bind λt35_1 =>
 (ay t35_1.1).bind λt37_1 =>
 (sT b4_2 [(t35_1.2,t37_1.2.1,t37_1.2.2.1,t37_1.2.2.2.1,t37_1.2.2.2.2)]).bind λzs40_1 =>
 some (.inl (sy (i4_1-1),t37_1.1.1,t37_1.1.2.1,t37_1.1.2.2,b0_5,b1_5,b2_5,b3_2,zs40_1)))
 (some (.inr (b0_4,b1_4,b2_4,b0_5,b1_5,b2_5,b3_2,b4_2)))
def fD (c0:sN):Option (sN×tg) :=
 (ah c0 ([160,161,162,163,165]:List Int)).bind λt7 =>
 (cn t7.1).bind λt9 =>
 (av t9.2).bind λt10 =>
 (cond (t7.2==162) (some true) (some (t7.2==165))).bind λt19 =>
 cond t19
 ((aa t9.1 4).bind λt21 =>
 (aa t21.1 5).bind λt24 =>
 (aa t24.1 4).bind λt27 =>
 (loop (λz=>co z.1 z.2.1 z.2.2.1 z.2.2.2.1 z.2.2.2.2.1 z.2.2.2.2.2.1 z.2.2.2.2.2.2.1 z.2.2.2.2.2.2.2.1 z.2.2.2.2.2.2.2.2) (t27.2,t27.1.1,t27.1.2.1,t27.1.2.2,t7.2,t10,t21.2,t24.2,[])).bind λd =>
 some ((d.1,d.2.1,d.2.2.1),d.2.2.2))
 ((aa t9.1 4).bind λt27_1 =>
 (loop (λz=>cm z.1 z.2.1 z.2.2.1 z.2.2.2.1 z.2.2.2.2.1 z.2.2.2.2.2.1 z.2.2.2.2.2.2.1 z.2.2.2.2.2.2.2.1 z.2.2.2.2.2.2.2.2) (t27_1.2,t27_1.1.1,t27_1.1.2.1,t27_1.1.2.2,t7.2,t10,0,0,[])).bind λd_1 =>
 some ((d_1.1,d_1.2.1,d_1.2.2.1),d_1.2.2.2))
def iD:FL:=(194,⟨[.ptr ue none],[.val true uN (some true)],λa=>fD a⟩)::iE
theorem nE:Gd iD:=sI nF 194 Tryz.f194 [(0,⟨⟨[(4,false,[dI])],[(1,.box [.dat (.sl (.one (.int .u8))),dI,dI]),(270336,.box [dI,dI,dI,dI,.own 1000000000]),(1000000000,.root sS true)]⟩,
 ⟨[],[(1,.box [.dat (.sl (.one (.int .u8))),dI,dI]),(270336,.box [dI,dI,dI,dI,.own 1000000300]),(1000000300,.root sS true)]⟩,none⟩)] Tryz.func194
def fE (c0:sN) (b1:List Int):Option (sN×List Int) :=
 cond ((b1.length:Int)==0)
 (some (c0,b1))
 ((aa c0 5).bind λt10 =>
 cond (t10.2==0)
 ((aa t10.1 (b1.length:Int)).bind λt17 =>
 (ah t17.1 ([0,1,2,4,5,6,48,127,128,129,160,255]:List Int)).bind λt20 =>
 (ix b1.length t17.2).bind λj22 =>
 (b1[j22]?).bind λx =>
 some (t20.1,b1.set j22 (IntKind.u8.wrap (t20.2))))
 (cond (t10.2==1)
 ((sT b1 ([3]:List Int)).bind λzs27 =>
 some (t10.1,zs27))
 (cond (t10.2==2)
 ((aa t10.1 (b1.length:Int)).bind λt34 =>
 (uG b1.length 0 t34.2).bind λp =>
 some (t34.1,(b1.take p.2).drop p.1))
 (some (t10.1,b1)))))
def iF:FL:=(231,⟨[.ptr ue none,.val false uh true],[.val false uh none],λa=>fE a.1 a.2⟩)::iD
theorem nG:Gd iF:=sI nE 231 Tryz.f231 [] Tryz.func231
def cp (word0:List UInt8) (p1:tg):Option (List Int) :=
 (ez p1).bind λt8 =>
 (cond ((t8.length:Int)==0) (some true) (some (decide ((word0.length:Int)>20)))).bind λt16 =>
 cond t16
 (some ([]:List Int))
 ((aU 1).bind λt19 =>
 (aq ([]:List Int) 2 t19).bind λt20 =>
 (aq t20 4 (vl word0)).bind λt23 =>
 (sT t23 t8).bind λzs25 =>
 cond (decide ((zs25.length:Int)>250))
 (some ([]:List Int))
 ((aq ([]:List Int) 48 zs25).bind λt32 =>
 some t32))
def iG:FL:=(232,⟨[.val false Hx false,.val true uN false],[.val false uh (some true)],λa=>cp a.1 a.2⟩)::iF
theorem nH:Gd iG:=sI nG 232 Tryz.f232 [] Tryz.func232
def cq (c0:sN) (b1:sx):Option (sN×List Int) :=
 (aa c0 10).bind λt6 =>
 cond (t6.2==0)
 ((bO t6.1 b1).bind λt12 =>
 (cp [121,97,114,100] t12.2).bind λt13 =>
 (fE t12.1 t13).bind λt14 =>
 some t14)
 (cond (t6.2==1)
 ((bO t6.1 b1).bind λt19 =>
 (cp [111,116,104,101,114] t19.2).bind λt20 =>
 some (t19.1,t20))
 (cond (t6.2==2)
 ((fD t6.1).bind λt24 =>
 (cp [121,97,114,100] t24.2).bind λt25 =>
 some (t24.1,t25))
 ((bO t6.1 b1).bind λt28 =>
 (cp [121,97,114,100] t28.2).bind λt29 =>
 some (t28.1,t29))))
def iH:FL:=(128,⟨[.ptr ue none,.val true sX false],[.val false uh none],λa=>cq a.1 a.2⟩)::iG
theorem nI:Gd iH:=sI nH 128 Tryz.f128 [] Tryz.func128
def aK (l0:List sD) (i4:Int) (out3:List sD):Option ((Int×List sD)⊕(List sD)) :=
 cond (decide (i4<(l0.length:Int)))
 ((at? l0 i4).bind λx15 =>
 cond x15.2.2.2.2
 ((sT out3 [x15]).bind λzs22 =>
 some (.inl (sy (i4+1),zs22)))
 (cond (decide (x15.2.2.2.1<4))
 ((sT out3 [(x15.1,x15.2.1,x15.2.2.1,sy (x15.2.2.2.1+1),x15.2.2.2.2)]).bind λzs33 =>
 some (.inl (sy (i4+1),zs33)))
 (some (.inl (sy (i4+1),out3)))))
 (some (.inr out3))
def cr (l0:List sD):Option (List sD) :=
 (loop (λz=>aK l0 z.1 z.2) (0,([]:List sD))).bind λd =>
 some d
def iI:FL:=(301,⟨[.val false (.one (.sl th)) false],[.val false (.one (.sl th)) (some true)],λa=>cr a⟩)::iH
theorem nJ:Gd iI:=sI nI 301 Tryz.f301 [(0,⟨⟨[(3,false,[.own 1000000000]),(4,false,[dI])],[(1000000000,.root th true)]⟩,
 ⟨[(3,false,[.own 1000000300])],[(1000000300,.root th true)]⟩,none⟩)] Tryz.func301
def dl (b0:sx):Option sx :=
 (am b0).bind λt5 =>
 (aV b0).bind λt7 =>
 cond (!t7)
 (some t5)
 ((bf b0.2.2.2.2.2.2.1).bind λt12 =>
 (cr b0.2.2.2.1).bind λt16 =>
 (bP (t5.1,t5.2.1,t5.2.2.1,t16,t5.2.2.2.2.1,t5.2.2.2.2.2.1,t12,t5.2.2.2.2.2.2.2.1,t5.2.2.2.2.2.2.2.2.1,t5.2.2.2.2.2.2.2.2.2.1,t5.2.2.2.2.2.2.2.2.2.2)).bind λt19 =>
 some t19)
def iJ:FL:=(208,⟨[.val true sX false],[.val true sX (some true)],λa=>dl a⟩)::iI
theorem nK:Gd iJ:=sI nJ 208 Tryz.f208 [] Tryz.func208
def fF (i6:Int) (b0:List Int) (b1:Int) (b2:Int) (b0_1:Int) (b1_1:List UInt8) (b6:Int) (b7:Int) (b8:Int) (b9:Int) (b10:Int) (b11:List UInt8) (b13:Int) (b14:Int) (b2_1:List Pt) (b3:List sD) (b4:List sM) (b5:List Int) (b12:List tQ):Option ((Int×List Int×Int×Int×Int×List UInt8×Int×Int×Int×Int×Int×List UInt8×Int×Int×List Pt×List sD×List sM×List Int×List tQ)⊕(List Int×Int×Int×Int×List UInt8×Int×Int×Int×Int×Int×List UInt8×Int×Int×List Pt×List sD×List sM×List Int×List tQ)) :=
 cond (decide (i6>0))
 ((aa (b0,b1,b2) 6).bind λt19 =>
 cond (t19.2==0)
 (cond (t19.2==0)
 ((cq t19.1 (b0_1,b1_1,b2_1,b3,b4,b5,b6,b7,b8,b9,b10)).bind λt38 =>
 (bg (b0_1,b1_1,b2_1,b3,b4,b5,b6,b7,b8,b9,b10,b11,b12,b13,b14) t38.2).bind λt39 =>
 some (.inl (sy (i6-1),t38.1.1,t38.1.2.1,t38.1.2.2,t39.1,t39.2.1,t39.2.2.2.2.2.2.1,t39.2.2.2.2.2.2.2.1,t39.2.2.2.2.2.2.2.2.1,t39.2.2.2.2.2.2.2.2.2.1,t39.2.2.2.2.2.2.2.2.2.2.1,t39.2.2.2.2.2.2.2.2.2.2.2.1,t39.2.2.2.2.2.2.2.2.2.2.2.2.2.1,t39.2.2.2.2.2.2.2.2.2.2.2.2.2.2,t39.2.2.1,t39.2.2.2.1,t39.2.2.2.2.1,t39.2.2.2.2.2.1,t39.2.2.2.2.2.2.2.2.2.2.2.2.1)))
 (cond (t19.2==2)
 ((dl (b0_1,b1_1,b2_1,b3,b4,b5,b6,b7,b8,b9,b10)).bind λt44 =>
 some (.inl (sy (i6-1),t19.1.1,t19.1.2.1,t19.1.2.2,t44.1,t44.2.1,t44.2.2.2.2.2.2.1,t44.2.2.2.2.2.2.2.1,t44.2.2.2.2.2.2.2.2.1,t44.2.2.2.2.2.2.2.2.2.1,t44.2.2.2.2.2.2.2.2.2.2,b11,b13,b14,t44.2.2.1,t44.2.2.2.1,t44.2.2.2.2.1,t44.2.2.2.2.2.1,b12)))
 ((aa t19.1 (sy ((b12.length:Int)+1))).bind λt27 =>
 (bh (b0_1,b1_1,b2_1,b3,b4,b5,b6,b7,b8,b9,b10,b11,b12,b13,b14) t27.2).bind λt28 =>
 some (.inl (sy (i6-1),t27.1.1,t27.1.2.1,t27.1.2.2,t28.1.1,t28.1.2.1,t28.1.2.2.2.2.2.2.1,t28.1.2.2.2.2.2.2.2.1,t28.1.2.2.2.2.2.2.2.2.1,t28.1.2.2.2.2.2.2.2.2.2.1,t28.1.2.2.2.2.2.2.2.2.2.2.1,t28.1.2.2.2.2.2.2.2.2.2.2.2.1,t28.1.2.2.2.2.2.2.2.2.2.2.2.2.2.1,t28.1.2.2.2.2.2.2.2.2.2.2.2.2.2.2,t28.1.2.2.1,t28.1.2.2.2.1,t28.1.2.2.2.2.1,t28.1.2.2.2.2.2.1,t28.1.2.2.2.2.2.2.2.2.2.2.2.2.1)))))
 (cond (t19.2==1)
 ((cq t19.1 (b0_1,b1_1,b2_1,b3,b4,b5,b6,b7,b8,b9,b10)).bind λt38_1 =>
 (bg (b0_1,b1_1,b2_1,b3,b4,b5,b6,b7,b8,b9,b10,b11,b12,b13,b14) t38_1.2).bind λt39_1 =>
 some (.inl (sy (i6-1),t38_1.1.1,t38_1.1.2.1,t38_1.1.2.2,t39_1.1,t39_1.2.1,t39_1.2.2.2.2.2.2.1,t39_1.2.2.2.2.2.2.2.1,t39_1.2.2.2.2.2.2.2.2.1,t39_1.2.2.2.2.2.2.2.2.2.1,t39_1.2.2.2.2.2.2.2.2.2.2.1,t39_1.2.2.2.2.2.2.2.2.2.2.2.1,t39_1.2.2.2.2.2.2.2.2.2.2.2.2.2.1,t39_1.2.2.2.2.2.2.2.2.2.2.2.2.2.2,t39_1.2.2.1,t39_1.2.2.2.1,t39_1.2.2.2.2.1,t39_1.2.2.2.2.2.1,t39_1.2.2.2.2.2.2.2.2.2.2.2.2.1)))
 (cond (t19.2==2)
 ((dl (b0_1,b1_1,b2_1,b3,b4,b5,b6,b7,b8,b9,b10)).bind λt44_1 =>
 some (.inl (sy (i6-1),t19.1.1,t19.1.2.1,t19.1.2.2,t44_1.1,t44_1.2.1,t44_1.2.2.2.2.2.2.1,t44_1.2.2.2.2.2.2.2.1,t44_1.2.2.2.2.2.2.2.2.1,t44_1.2.2.2.2.2.2.2.2.2.1,t44_1.2.2.2.2.2.2.2.2.2.2,b11,b13,b14,t44_1.2.2.1,t44_1.2.2.2.1,t44_1.2.2.2.2.1,t44_1.2.2.2.2.2.1,b12)))
 ((aa t19.1 (sy ((b12.length:Int)+1))).bind λt27_1 =>
 (bh (b0_1,b1_1,b2_1,b3,b4,b5,b6,b7,b8,b9,b10,b11,b12,b13,b14) t27_1.2).bind λt28_1 =>
 some (.inl (sy (i6-1),t27_1.1.1,t27_1.1.2.1,t27_1.1.2.2,t28_1.1.1,t28_1.1.2.1,t28_1.1.2.2.2.2.2.2.1,t28_1.1.2.2.2.2.2.2.2.1,t28_1.1.2.2.2.2.2.2.2.2.1,t28_1.1.2.2.2.2.2.2.2.2.2.1,t28_1.1.2.2.2.2.2.2.2.2.2.2.1,t28_1.1.2.2.2.2.2.2.2.2.2.2.2.1,t28_1.1.2.2.2.2.2.2.2.2.2.2.2.2.2.1,t28_1.1.2.2.2.2.2.2.2.2.2.2.2.2.2.2,t28_1.1.2.2.1,t28_1.1.2.2.2.1,t28_1.1.2.2.2.2.1,t28_1.1.2.2.2.2.2.1,t28_1.1.2.2.2.2.2.2.2.2.2.2.2.2.1))))))
 (some (.inr (b0,b1,b2,b0_1,b1_1,b6,b7,b8,b9,b10,b11,b13,b14,b2_1,b3,b4,b5,b12)))
def eA (c0:sN) (most1:Int):Option (sN×sL) :=
 (ct c0).bind λt8 =>
 (fG t8.2 [121,97,114,100]).bind λt9 =>
 (aa t8.1 (sy (most1+1))).bind λt13 =>
 (loop (λz=>fF z.1 z.2.1 z.2.2.1 z.2.2.2.1 z.2.2.2.2.1 z.2.2.2.2.2.1 z.2.2.2.2.2.2.1 z.2.2.2.2.2.2.2.1 z.2.2.2.2.2.2.2.2.1 z.2.2.2.2.2.2.2.2.2.1 z.2.2.2.2.2.2.2.2.2.2.1 z.2.2.2.2.2.2.2.2.2.2.2.1 z.2.2.2.2.2.2.2.2.2.2.2.2.1 z.2.2.2.2.2.2.2.2.2.2.2.2.2.1 z.2.2.2.2.2.2.2.2.2.2.2.2.2.2.1 z.2.2.2.2.2.2.2.2.2.2.2.2.2.2.2.1 z.2.2.2.2.2.2.2.2.2.2.2.2.2.2.2.2.1 z.2.2.2.2.2.2.2.2.2.2.2.2.2.2.2.2.2.1 z.2.2.2.2.2.2.2.2.2.2.2.2.2.2.2.2.2.2) (t13.2,t13.1.1,t13.1.2.1,t13.1.2.2,t9.1,t9.2.1,t9.2.2.2.2.2.2.1,t9.2.2.2.2.2.2.2.1,t9.2.2.2.2.2.2.2.2.1,t9.2.2.2.2.2.2.2.2.2.1,t9.2.2.2.2.2.2.2.2.2.2.1,t9.2.2.2.2.2.2.2.2.2.2.2.1,t9.2.2.2.2.2.2.2.2.2.2.2.2.2.1,t9.2.2.2.2.2.2.2.2.2.2.2.2.2.2,t9.2.2.1,t9.2.2.2.1,t9.2.2.2.2.1,t9.2.2.2.2.2.1,t9.2.2.2.2.2.2.2.2.2.2.2.2.1)).bind λd =>
 some ((d.1,d.2.1,d.2.2.1),(d.2.2.2.1,d.2.2.2.2.1,d.2.2.2.2.2.2.2.2.2.2.2.2.2.1,d.2.2.2.2.2.2.2.2.2.2.2.2.2.2.1,d.2.2.2.2.2.2.2.2.2.2.2.2.2.2.2.1,d.2.2.2.2.2.2.2.2.2.2.2.2.2.2.2.2.1,d.2.2.2.2.2.1,d.2.2.2.2.2.2.1,d.2.2.2.2.2.2.2.1,d.2.2.2.2.2.2.2.2.1,d.2.2.2.2.2.2.2.2.2.1,d.2.2.2.2.2.2.2.2.2.2.1,d.2.2.2.2.2.2.2.2.2.2.2.2.2.2.2.2.2,d.2.2.2.2.2.2.2.2.2.2.2.1,d.2.2.2.2.2.2.2.2.2.2.2.2.1))
def iK:FL:=(126,⟨[.ptr ue none,.val false sH false],[.val true tV (some false)],λa=>eA a.1 a.2⟩)::iJ
theorem nL:Gd iK:=sI nK 126 Tryz.f126 [(0,⟨⟨[(6,false,[dI])],[(1,.box [.dat (.sl (.one (.int .u8))),dI,dI]),(266240,.box [dI,dS,.own 1000000000,.own 1000000001,.own 1000000002,.own 1000000003,dI,dI,dI,dI,dI,dS,.own 1000000004,dI,dI]),(1000000000,.root vc false),(1000000001,.root th false),(1000000002,.root u0 false),(1000000003,.root sH false),(1000000004,.root yp false)]⟩,
 ⟨[],[(1,.box [.dat (.sl (.one (.int .u8))),dI,dI]),(266240,.box [dI,dS,.own 1000000300,.own 1000000301,.own 1000000302,.own 1000000303,dI,dI,dI,dI,dI,dS,.own 1000000304,dI,dI]),(1000000300,.root vc false),(1000000301,.root th false),(1000000302,.root u0 false),(1000000303,.root sH false),(1000000304,.root yp false)]⟩,none⟩)] Tryz.func126
def bz (code0:List Int) (most1:Int):Option Int :=
 let n5:=sy (3+(sy ((code0.length:Int).tdiv 12)))
 cond (decide (n5>most1)) (some most1) (some n5)
def iL:FL:=(127,⟨[.val false uh false,.val false sH false],[.val false sH (some true)],λa=>bz a.1 a.2⟩)::iK
theorem nM:Gd iL:=sI nL 127 Tryz.f127 [] Tryz.func127
def fH (code0:List Int):Option (sL×List Int) :=
 (eB code0).bind λt7 =>
 (bz code0 14).bind λt10 =>
 (eA t7 (sy (6+t10))).bind λt12 =>
 (cq t12.1 (t12.2.1,t12.2.2.1,t12.2.2.2.1,t12.2.2.2.2.1,t12.2.2.2.2.2.1,t12.2.2.2.2.2.2.1,t12.2.2.2.2.2.2.2.1,t12.2.2.2.2.2.2.2.2.1,t12.2.2.2.2.2.2.2.2.2.1,t12.2.2.2.2.2.2.2.2.2.2.1,t12.2.2.2.2.2.2.2.2.2.2.2.1)).bind λt17 =>
 some (t12.2,t17.2)
def iM:FL:=(37,⟨[.val false uh false],[.val true tV none,.val false uh none],λa=>fH a⟩)::iL
theorem nN:Gd iM:=sI nM 37 Tryz.f37 [] Tryz.func37
def ac (n0:Int) (low1:Int) (high2:Int):Option Bool :=
 (cond (decide (n0>=low1)) (some (decide (n0<=high2))) (some false)).bind λt14 =>
 some t14
def iN:FL:=(90,⟨[.val false sH false,.val false sH false,.val false sH false],[.val false tK (some true)],λa=>ac a.1 a.2.1 a.2.2⟩)::iM
theorem nO:Gd iN:=sI nN 90 Tryz.f90 [] Tryz.func90
def bj (n0:Int):Option Bool :=
 (ac n0 0 1000000).bind λt4 =>
 some t4
def iO:FL:=(134,⟨[.val false sH false],[.val false tK (some true)],λa=>bj a⟩)::iN
theorem nP:Gd iO:=sI nO 134 Tryz.f134 [] Tryz.func134
def cu (v0:zg):Option Bool :=
 (ac v0.1 1 99).bind λt5 =>
 (cond t5
 ((ac v0.2.1 0 100000).bind λt9 =>
 some t9)
 (some false)).bind λt10 =>
 (cond t10
 ((ac v0.2.2.1 0 10).bind λt14 =>
 some t14)
 (some false)).bind λt15 =>
 (cond t15
 ((ac v0.2.2.2.1 1 99).bind λt19 =>
 some t19)
 (some false)).bind λt20 =>
 (cond t20
 ((ac v0.2.2.2.2 0 7).bind λt24 =>
 some t24)
 (some false)).bind λt25 =>
 some t25
def iP:FL:=(275,⟨[.val true xO false],[.val false tK (some true)],λa=>cu a⟩)::iO
theorem nQ:Gd iP:=sI nP 275 Tryz.f275 [] Tryz.func275
def eC (p0:Pt):Option Bool :=
 (ac p0.2.1 1 1000).bind λt5 =>
 (cond (!t5)
 (some true)
 ((cond p0.2.2.1 (some (!p0.1)) (some false)).bind λt14 =>
 some t14)).bind λt15 =>
 cond t15
 (some false)
 (cond p0.2.2.1
 ((cu p0.2.2.2).bind λt20 =>
 some t20)
 (let t2:=p0.2.2.2.1==0&&(p0.2.2.2.2.1==0&&(p0.2.2.2.2.2.1==0&&(p0.2.2.2.2.2.2.1==0&&(p0.2.2.2.2.2.2.2==0))))
 some t2))
def iQ:FL:=(168,⟨[.val true vc false],[.val false tK (some true)],λa=>eC a⟩)::iP
theorem nR:Gd iQ:=sI nQ 168 Tryz.f168 [] Tryz.func168
def dq (e0:sD):Option Bool :=
 (ac e0.1 1 99).bind λt5 =>
 (cond t5
 ((ac e0.2.1 1 9999).bind λt9 =>
 some t9)
 (some false)).bind λt10 =>
 (cond t10
 ((ac e0.2.2.1 0 7).bind λt14 =>
 some t14)
 (some false)).bind λt15 =>
 (cond t15
 ((ac e0.2.2.2.1 0 4).bind λt19 =>
 some t19)
 (some false)).bind λt20 =>
 (cond t20
 ((cond (!e0.2.2.2.2) (some true) (some (e0.2.2.2.1==0))).bind λt29 =>
 some t29)
 (some false)).bind λt30 =>
 some t30
def iR:FL:=(276,⟨[.val true th false],[.val false tK (some true)],λa=>dq a⟩)::iQ
theorem nS:Gd iR:=sI nR 276 Tryz.f276 [] Tryz.func276
def eD (e0:sD) (tag1:Int) (mac2:Int):Option Bool :=
 (cond (decide (e0.1>tag1))
 (some true)
 ((cond (e0.1==tag1) (some (decide (e0.2.1>mac2))) (some false)).bind λt21 =>
 some t21)).bind λt22 =>
 some t22
def iS:FL:=(277,⟨[.val true th false,.val false sH false,.val false sH false],[.val false tK (some true)],λa=>eD a.1 a.2.1 a.2.2⟩)::iR
theorem nT:Gd iS:=sI nS 277 Tryz.f277 [] Tryz.func277
def gW (l0:List sD) (t7:Int):Option (Int⊕(Unit⊕Bool)) :=
 cond (decide (t7<(l0.length:Int)))
 ((at? l0 t7).bind λx10 =>
 (dq x10).bind λt13 =>
 (cond (!t13)
 (some true)
 ((cond (decide (t7>0))
 ((at? l0 (sy (t7-1))).bind λx23 =>
 (at? l0 (sy (t7-1))).bind λx29 =>
 (eD x10 x23.1 x29.2.1).bind λt32 =>
 some (!t32))
 (some false)).bind λt34 =>
 some t34)).bind λt35 =>
 cond t35 (some (.inr (.inr false))) (some (.inl (sy (t7+1)))))
 (some (.inr (.inl ())))
def fJ (l0:List sD):Option Bool :=
 (loop (λz=>gW l0 z) 0).bind (Sum.elim (λd =>
 let t2:=decide ((l0.length:Int)<=12)
 some t2) (λr=>some r))
def iT:FL:=(169,⟨[.val false (.one (.sl th)) false],[.val false tK (some true)],λa=>fJ a⟩)::iS
theorem nU:Gd iT:=sI nT 169 Tryz.f169 [(0,⟨⟨(7,false,[dI])::us 16 19 [],[]⟩,
 ⟨[],[]⟩,some ⟨[(2,false,[dB])],[]⟩⟩)] Tryz.func169
def eE (ports0:Int):Option Int :=
 (shl .i64 1 ports0).bind λt4 =>
 some (sy (t4-1))
def iU:FL:=(278,⟨[.val false sH false],[.val false sH (some true)],λa=>eE a⟩)::iT
theorem nV:Gd iU:=sI nU 278 Tryz.f278 [] Tryz.func278
def aE (v0:tH) (id1:Int) (t10:Int):Option (Int⊕(Unit⊕Int)) :=
 cond (decide (t10<(v0.1.length:Int)))
 ((at? v0.1 t10).bind λx13 =>
 cond (x13.1==id1) (some (.inr (.inr t10))) (some (.inl (sy (t10+1)))))
 (some (.inr (.inl ())))
def ao (v0:tH) (id1:Int):Option Int :=
 (loop (λz=>aE v0 id1 z) 0).bind (Sum.elim (λd =>
 some (-1)) (λr=>some r))
def iV:FL:=(279,⟨[.val true uS false,.val false sH false],[.val false sH (some true)],λa=>ao a.1 a.2⟩)::iU
theorem nW:Gd iV:=sI nV 279 Tryz.f279 [(0,⟨⟨[(10,false,[dI])],[]⟩,
 ⟨[],[]⟩,some ⟨[(4,false,[dI])],[]⟩⟩)] Tryz.func279
def gX (p0:tH) (i1:Int) (t28:Int):Option (Int⊕(Unit⊕Bool)) :=
 cond (decide (t28<(p0.1.length:Int)))
 ((at? p0.1 t28).bind λx31 =>
 (ac x31.1 1 99).bind λt35 =>
 (cond (!t35)
 (some true)
 ((cond (decide (t28>0))
 ((at? p0.1 (sy (t28-1))).bind λx45 =>
 some (decide (x45.1>=x31.1)))
 (some false)).bind λt51 =>
 some t51)).bind λt52 =>
 (cond t52
 (some true)
 ((eE i1).bind λt57 =>
 (ac x31.2.1 0 t57).bind λt58 =>
 some (!t58))).bind λt60 =>
 (cond t60 (some true) (some ((Bw .i64 x31.2.2 x31.2.1) != 0))).bind λt68 =>
 cond t68 (some (.inr (.inr false))) (some (.inl (sy (t28+1)))))
 (some (.inr (.inl ())))
def fK (p0:tH) (t73:Int):Option (Int⊕(Unit⊕Bool)) :=
 cond (decide (t73<(p0.2.length:Int)))
 ((at? p0.2 t73).bind λx75 =>
 (ao p0 x75).bind λt79 =>
 cond (decide (t79<0)) (some (.inr (.inr false))) (some (.inl (sy (t73+1)))))
 (some (.inr (.inl ())))
def dt (p0:tH) (i1:Int):Option Bool :=
 (ac i1 1 6).bind λt10 =>
 (cond (!t10) (some true) (some ((p0.2.length:Int) != i1))).bind λt18 =>
 (cond t18 (some true) (some (decide ((p0.1.length:Int)>6)))).bind λt24 =>
 cond t24
 (some false)
 ((loop (λz=>gX p0 i1 z) 0).bind (Sum.elim (λd =>
 (loop (λz=>fK p0 z) 0).bind (Sum.elim (λd_1 =>
 some true) (λr=>some r))) (λr_1=>some r_1)))
def iW:FL:=(170,⟨[.val true uS false,.val false sH false],[.val false tK (some true)],λa=>dt a.1 a.2⟩)::iV
theorem nX:Gd iW:=sI nW 170 Tryz.f170 [(0,⟨⟨(28,false,[dI])::us 38 14 (us 54 6 (us 62 6 [])),[]⟩,
 ⟨[],[]⟩,some ⟨[(4,false,[dB])],[]⟩⟩),
 (2,⟨⟨[(73,false,[dI])],[]⟩,
 ⟨[],[]⟩,some ⟨[(4,false,[dB])],[]⟩⟩)] Tryz.func170
def gY (p0:sx) (t8:Int):Option (Int⊕(Unit⊕Bool)) :=
 cond (decide (t8<(p0.2.2.1.length:Int)))
 ((at? p0.2.2.1 t8).bind λx10 =>
 (eC x10).bind λt13 =>
 cond (!t13) (some (.inr (.inr false))) (some (.inl (sy (t8+1)))))
 (some (.inr (.inl ())))
def bm (p0:sx):Option Bool :=
 (loop (λz=>gY p0 z) 0).bind (Sum.elim (λd =>
 (ac p0.1 1 99).bind λt18 =>
 (cond (!t18) (some true) (some (decide ((p0.2.1.length:Int)>10)))).bind λt25 =>
 (cond t25
 (some true)
 ((ac (p0.2.2.1.length:Int) 1 6).bind λt30 =>
 some (!t30))).bind λt32 =>
 (cond t32
 (some true)
 ((fJ p0.2.2.2.1).bind λt36 =>
 some (!t36))).bind λt38 =>
 (cond t38
 (some true)
 ((dt (p0.2.2.2.2.1,p0.2.2.2.2.2.1) (p0.2.2.1.length:Int)).bind λt45 =>
 some (!t45))).bind λt47 =>
 cond t47
 (some false)
 ((bj p0.2.2.2.2.2.2.1).bind λt50 =>
 (cond t50
 ((bj p0.2.2.2.2.2.2.2.1).bind λt54 =>
 some t54)
 (some false)).bind λt55 =>
 (cond t55
 ((bj p0.2.2.2.2.2.2.2.2.1).bind λt59 =>
 some t59)
 (some false)).bind λt60 =>
 (cond t60
 ((bj p0.2.2.2.2.2.2.2.2.2.1).bind λt64 =>
 some t64)
 (some false)).bind λt65 =>
 (cond t65
 ((bj p0.2.2.2.2.2.2.2.2.2.2).bind λt69 =>
 some t69)
 (some false)).bind λt70 =>
 some t70)) (λr=>some r))
def iX:FL:=(77,⟨[.val true sX false],[.val false tK (some true)],λa=>bm a⟩)::iW
theorem nY:Gd iX:=sI nX 77 Tryz.f77 [(0,⟨⟨[(8,false,[dI])],[]⟩,
 ⟨[],[]⟩,some ⟨[(2,false,[dB])],[]⟩⟩)] Tryz.func77
def aL (o0:List Int) (t7:Int):Option (Int⊕(Unit⊕Bool)) :=
 cond (decide (t7<(o0.length:Int)))
 ((at? o0 t7).bind λx9 =>
 (ac x9 0 100000).bind λt12 =>
 cond (!t12) (some (.inr (.inr false))) (some (.inl (sy (t7+1)))))
 (some (.inr (.inl ())))
def ak (o0:List Int):Option Bool :=
 (loop (λz=>aL o0 z) 0).bind (Sum.elim (λd =>
 (ac (o0.length:Int) 1 10).bind λt17 =>
 some t17) (λr=>some r))
def iY:FL:=(91,⟨[.val false vb false],[.val false tK (some true)],λa=>ak a⟩)::iX
theorem nZ:Gd iY:=sI nY 91 Tryz.f91 [(0,⟨⟨[(7,false,[dI])],[]⟩,
 ⟨[],[]⟩,some ⟨[(2,false,[dB])],[]⟩⟩)] Tryz.func91
def du (a0:List Int) (b1:List Int) (t13:Int):Option (Int⊕(Unit⊕Bool)) :=
 cond (decide (t13<(a0.length:Int)))
 ((at? a0 t13).bind λx18 =>
 (at? b1 t13).bind λx22 =>
 cond (x18 != x22) (some (.inr (.inr false))) (some (.inl (sy (t13+1)))))
 (some (.inr (.inl ())))
def aF (a0:List Int) (b1:List Int):Option Bool :=
 cond ((a0.length:Int) != (b1.length:Int))
 (some false)
 ((loop (λz=>du a0 b1 z) 0).bind (Sum.elim (λd =>
 some true) (λr=>some r)))
def iZ:FL:=(19,⟨[.val false vb false,.val false vb false],[.val false tK (some true)],λa=>aF a.1 a.2⟩)::iY
theorem o4:Gd iZ:=sI nZ 19 Tryz.f19 [(0,⟨⟨[(13,false,[dI])],[]⟩,
 ⟨[],[]⟩,some ⟨[(4,false,[dB])],[]⟩⟩)] Tryz.func19
def bn (a0:wl) (b1:wl):Option Bool :=
 (cond (a0.1==b1.1) (some (a0.2.1==b1.2.1)) (some false)).bind λt16 =>
 (cond t16 (some (a0.2.2.1==b1.2.2.1)) (some false)).bind λt23 =>
 (cond t23
 ((aF a0.2.2.2 b1.2.2.2).bind λt29 =>
 some t29)
 (some false)).bind λt30 =>
 some t30
def ja:FL:=(20,⟨[.val true xB false,.val true xB false],[.val false tK (some true)],λa=>bn a.1 a.2⟩)::iZ
theorem o5:Gd ja:=sI o4 20 Tryz.f20 [] Tryz.func20
def az (n0:Int):Option Bool :=
 (ac n0 (-2147483648) 2147483647).bind λt4 =>
 some t4
def jb:FL:=(93,⟨[.val false sH false],[.val false tK (some true)],λa=>az a⟩)::ja
theorem o6:Gd jb:=sI o5 93 Tryz.f93 [] Tryz.func93
def al (v0:wl):Option Bool :=
 cond (v0.1==2)
 ((az v0.2.1).bind λt17 =>
 (cond t17
 ((bn v0 (v0.1,v0.2.1,[],[])).bind λt43 =>
 some t43)
 (some false)).bind λt44 =>
 some t44)
 (cond (v0.1==4)
 (let ok4:=decide ((v0.2.2.1.length:Int)<=20)
 (cond ok4
 ((bn v0 (v0.1,0,v0.2.2.1,[])).bind λt43_1 =>
 some t43_1)
 (some false)).bind λt44_1 =>
 some t44_1)
 (cond (v0.1==6)
 ((ak v0.2.2.2).bind λt34 =>
 (cond t34
 ((bn v0 (v0.1,0,[],v0.2.2.2)).bind λt43_2 =>
 some t43_2)
 (some false)).bind λt44_2 =>
 some t44_2)
 (cond (v0.1==5)
 (cond (v0.1==5)
 (((bn v0 (v0.1,0,[],[])).bind λt43_3 =>
 some t43_3).bind λt44_3 =>
 some t44_3)
 (some false))
 (cond (v0.1==128)
 (cond (v0.1==128)
 (((bn v0 (v0.1,0,[],[])).bind λt43_4 =>
 some t43_4).bind λt44_4 =>
 some t44_4)
 (some false))
 (cond (v0.1==130)
 (((bn v0 (v0.1,0,[],[])).bind λt43_5 =>
 some t43_5).bind λt44_5 =>
 some t44_5)
 (some false))))))
def jc:FL:=(92,⟨[.val true xB false],[.val false tK (some true)],λa=>al a⟩)::jb
theorem o7:Gd jc:=sI o6 92 Tryz.f92 [] Tryz.func92
def fL (p0:tg) (t35:Int):Option (Int⊕(Unit⊕Bool)) :=
 cond (decide (t35<(p0.2.2.2.2.length:Int)))
 ((at? p0.2.2.2.2 t35).bind λx38 =>
 (cond (decide (t35>=10))
 (some true)
 ((ak x38.1).bind λt45 =>
 some (!t45))).bind λt47 =>
 (cond t47
 (some true)
 ((al x38.2).bind λt51 =>
 some (!t51))).bind λt53 =>
 cond t53 (some (.inr (.inr false))) (some (.inl (sy (t35+1)))))
 (some (.inr (.inl ())))
def jd (p0:tg) (t35_1:Int):Option (Int⊕(Unit⊕Bool)) :=
 cond (decide (t35_1<(p0.2.2.2.2.length:Int)))
 ((at? p0.2.2.2.2 t35_1).bind λx38_1 =>
 (cond (decide (t35_1>=10))
 (some true)
 ((ak x38_1.1).bind λt45_1 =>
 some (!t45_1))).bind λt47_1 =>
 (cond t47_1
 (some true)
 ((al x38_1.2).bind λt51_1 =>
 some (!t51_1))).bind λt53_1 =>
 cond t53_1 (some (.inr (.inr false))) (some (.inl (sy (t35_1+1)))))
 (some (.inr (.inl ())))
def je (p0:tg) (t35_2:Int):Option (Int⊕(Unit⊕Bool)) :=
 cond (decide (t35_2<(p0.2.2.2.2.length:Int)))
 ((at? p0.2.2.2.2 t35_2).bind λx38_2 =>
 (cond (decide (t35_2>=10))
 (some true)
 ((ak x38_2.1).bind λt45_2 =>
 some (!t45_2))).bind λt47_2 =>
 (cond t47_2
 (some true)
 ((al x38_2.2).bind λt51_2 =>
 some (!t51_2))).bind λt53_2 =>
 cond t53_2 (some (.inr (.inr false))) (some (.inl (sy (t35_2+1)))))
 (some (.inr (.inl ())))
def jf (p0:tg) (t35_3:Int):Option (Int⊕(Unit⊕Bool)) :=
 cond (decide (t35_3<(p0.2.2.2.2.length:Int)))
 ((at? p0.2.2.2.2 t35_3).bind λx38_3 =>
 (cond (decide (t35_3>=10))
 (some true)
 ((ak x38_3.1).bind λt45_3 =>
 some (!t45_3))).bind λt47_3 =>
 (cond t47_3
 (some true)
 ((al x38_3.2).bind λt51_3 =>
 some (!t51_3))).bind λt53_3 =>
 cond t53_3 (some (.inr (.inr false))) (some (.inl (sy (t35_3+1)))))
 (some (.inr (.inl ())))
def jg (p0:tg) (t35_4:Int):Option (Int⊕(Unit⊕Bool)) :=
 cond (decide (t35_4<(p0.2.2.2.2.length:Int)))
 ((at? p0.2.2.2.2 t35_4).bind λx38_4 =>
 (cond (decide (t35_4>=10))
 (some true)
 ((ak x38_4.1).bind λt45_4 =>
 some (!t45_4))).bind λt47_4 =>
 (cond t47_4
 (some true)
 ((al x38_4.2).bind λt51_4 =>
 some (!t51_4))).bind λt53_4 =>
 cond t53_4 (some (.inr (.inr false))) (some (.inl (sy (t35_4+1)))))
 (some (.inr (.inl ())))
def jh (p0:tg) (t35_5:Int):Option (Int⊕(Unit⊕Bool)) :=
 cond (decide (t35_5<(p0.2.2.2.2.length:Int)))
 ((at? p0.2.2.2.2 t35_5).bind λx38_5 =>
 (cond (decide (t35_5>=10))
 (some true)
 ((ak x38_5.1).bind λt45_5 =>
 some (!t45_5))).bind λt47_5 =>
 (cond t47_5
 (some true)
 ((al x38_5.2).bind λt51_5 =>
 some (!t51_5))).bind λt53_5 =>
 cond t53_5 (some (.inr (.inr false))) (some (.inl (sy (t35_5+1)))))
 (some (.inr (.inl ())))
def ji (p0:tg) (t35_6:Int):Option (Int⊕(Unit⊕Bool)) :=
 cond (decide (t35_6<(p0.2.2.2.2.length:Int)))
 ((at? p0.2.2.2.2 t35_6).bind λx38_6 =>
 (cond (decide (t35_6>=10))
 (some true)
 ((ak x38_6.1).bind λt45_6 =>
 some (!t45_6))).bind λt47_6 =>
 (cond t47_6
 (some true)
 ((al x38_6.2).bind λt51_6 =>
 some (!t51_6))).bind λt53_6 =>
 cond t53_6 (some (.inr (.inr false))) (some (.inl (sy (t35_6+1)))))
 (some (.inr (.inl ())))
def jj (p0:tg) (t35_7:Int):Option (Int⊕(Unit⊕Bool)) :=
 cond (decide (t35_7<(p0.2.2.2.2.length:Int)))
 ((at? p0.2.2.2.2 t35_7).bind λx38_7 =>
 (cond (decide (t35_7>=10))
 (some true)
 ((ak x38_7.1).bind λt45_7 =>
 some (!t45_7))).bind λt47_7 =>
 (cond t47_7
 (some true)
 ((al x38_7.2).bind λt51_7 =>
 some (!t51_7))).bind λt53_7 =>
 cond t53_7 (some (.inr (.inr false))) (some (.inl (sy (t35_7+1)))))
 (some (.inr (.inl ())))
def jk (p0:tg) (t35_8:Int):Option (Int⊕(Unit⊕Bool)) :=
 cond (decide (t35_8<(p0.2.2.2.2.length:Int)))
 ((at? p0.2.2.2.2 t35_8).bind λx38_8 =>
 (cond (decide (t35_8>=10))
 (some true)
 ((ak x38_8.1).bind λt45_8 =>
 some (!t45_8))).bind λt47_8 =>
 (cond t47_8
 (some true)
 ((al x38_8.2).bind λt51_8 =>
 some (!t51_8))).bind λt53_8 =>
 cond t53_8 (some (.inr (.inr false))) (some (.inl (sy (t35_8+1)))))
 (some (.inr (.inl ())))
def cw (p0:tg):Option Bool :=
 cond (p0.1==160)
 (cond (p0.1==160)
 ((cond (p0.2.2.1 != 0) (some true) (some (p0.2.2.2.1 != 0))).bind λt18 =>
 cond t18
 (some false)
 ((loop (λz=>fL p0 z) 0).bind (Sum.elim (λd =>
 (az p0.2.1).bind λt57 =>
 some t57) (λr=>some r))))
 (cond (p0.1==162)
 (cond (p0.1==162)
 ((ac p0.2.2.1 0 1000).bind λt24 =>
 (cond (!t24)
 (some true)
 ((ac p0.2.2.2.1 0 1000).bind λt29 =>
 some (!t29))).bind λt31 =>
 cond t31
 (some false)
 ((loop (λz=>jd p0 z) 0).bind (Sum.elim (λd_1 =>
 (az p0.2.1).bind λt57_1 =>
 some t57_1) (λr_1=>some r_1))))
 (some false))
 (cond (p0.1==165)
 ((ac p0.2.2.1 0 1000).bind λt24_1 =>
 (cond (!t24_1)
 (some true)
 ((ac p0.2.2.2.1 0 1000).bind λt29_1 =>
 some (!t29_1))).bind λt31_1 =>
 cond t31_1
 (some false)
 ((loop (λz=>je p0 z) 0).bind (Sum.elim (λd_2 =>
 (az p0.2.1).bind λt57_2 =>
 some t57_2) (λr_2=>some r_2))))
 (some false))))
 (cond (p0.1==161)
 (cond (p0.1==161)
 ((cond (p0.2.2.1 != 0) (some true) (some (p0.2.2.2.1 != 0))).bind λt18_1 =>
 cond t18_1
 (some false)
 ((loop (λz=>jf p0 z) 0).bind (Sum.elim (λd_3 =>
 (az p0.2.1).bind λt57_3 =>
 some t57_3) (λr_3=>some r_3))))
 (cond (p0.1==162)
 (cond (p0.1==162)
 ((ac p0.2.2.1 0 1000).bind λt24_2 =>
 (cond (!t24_2)
 (some true)
 ((ac p0.2.2.2.1 0 1000).bind λt29_2 =>
 some (!t29_2))).bind λt31_2 =>
 cond t31_2
 (some false)
 ((loop (λz=>jg p0 z) 0).bind (Sum.elim (λd_4 =>
 (az p0.2.1).bind λt57_4 =>
 some t57_4) (λr_4=>some r_4))))
 (some false))
 (cond (p0.1==165)
 ((ac p0.2.2.1 0 1000).bind λt24_3 =>
 (cond (!t24_3)
 (some true)
 ((ac p0.2.2.2.1 0 1000).bind λt29_3 =>
 some (!t29_3))).bind λt31_3 =>
 cond t31_3
 (some false)
 ((loop (λz=>jh p0 z) 0).bind (Sum.elim (λd_5 =>
 (az p0.2.1).bind λt57_5 =>
 some t57_5) (λr_5=>some r_5))))
 (some false))))
 (cond (p0.1==163)
 ((cond (p0.2.2.1 != 0) (some true) (some (p0.2.2.2.1 != 0))).bind λt18_2 =>
 cond t18_2
 (some false)
 ((loop (λz=>ji p0 z) 0).bind (Sum.elim (λd_6 =>
 (az p0.2.1).bind λt57_6 =>
 some t57_6) (λr_6=>some r_6))))
 (cond (p0.1==162)
 (cond (p0.1==162)
 ((ac p0.2.2.1 0 1000).bind λt24_4 =>
 (cond (!t24_4)
 (some true)
 ((ac p0.2.2.2.1 0 1000).bind λt29_4 =>
 some (!t29_4))).bind λt31_4 =>
 cond t31_4
 (some false)
 ((loop (λz=>jj p0 z) 0).bind (Sum.elim (λd_7 =>
 (az p0.2.1).bind λt57_7 =>
 some t57_7) (λr_7=>some r_7))))
 (some false))
 (cond (p0.1==165)
 ((ac p0.2.2.1 0 1000).bind λt24_5 =>
 (cond (!t24_5)
 (some true)
 ((ac p0.2.2.2.1 0 1000).bind λt29_5 =>
 some (!t29_5))).bind λt31_5 =>
 cond t31_5
 (some false)
 ((loop (λz=>jk p0 z) 0).bind (Sum.elim (λd_8 =>
 (az p0.2.1).bind λt57_8 =>
 some t57_8) (λr_8=>some r_8))))
 (some false)))))
def jl:FL:=(17,⟨[.val true uN false],[.val false tK (some true)],λa=>cw a⟩)::jc
theorem o8:Gd jl:=sI o7 17 Tryz.f17 [(1,⟨⟨(35,false,[dI])::us 43 4 (us 49 4 []),[]⟩,
 ⟨[],[]⟩,some ⟨[(2,false,[dB])],[]⟩⟩)] Tryz.func17
def eF (j0:tQ):Option Bool :=
 (ac j0.2.2.1 0 2).bind λt5 =>
 (cond (!t5)
 (some true)
 ((ac j0.2.2.2.2.2.2.2.2.2.2.2.2.2.2.2.2.2.2.2.1 0 (j0.2.2.2.2.2.2.2.1.length:Int)).bind λt14 =>
 some (!t14))).bind λt16 =>
 (cond t16
 (some true)
 ((ac j0.2.2.2.2.2.2.2.2.2.2.2.2.2.2.2.2.2.2.2.2 0 3).bind λt20 =>
 some (!t20))).bind λt22 =>
 cond t22
 (some false)
 ((cond (j0.2.2.1==0)
 (some true)
 ((cw (j0.2.2.2.1,j0.2.2.2.2.1,j0.2.2.2.2.2.1,j0.2.2.2.2.2.2.1,j0.2.2.2.2.2.2.2.1)).bind λt29 =>
 (cond t29 (some (j0.2.2.2.1 != 162)) (some false)).bind λt35 =>
 (cond t35
 ((bm (j0.2.2.2.2.2.2.2.2.1,j0.2.2.2.2.2.2.2.2.2.1,j0.2.2.2.2.2.2.2.2.2.2.1,j0.2.2.2.2.2.2.2.2.2.2.2.1,j0.2.2.2.2.2.2.2.2.2.2.2.2.1,j0.2.2.2.2.2.2.2.2.2.2.2.2.2.1,j0.2.2.2.2.2.2.2.2.2.2.2.2.2.2.1,j0.2.2.2.2.2.2.2.2.2.2.2.2.2.2.2.1,j0.2.2.2.2.2.2.2.2.2.2.2.2.2.2.2.2.1,j0.2.2.2.2.2.2.2.2.2.2.2.2.2.2.2.2.2.1,j0.2.2.2.2.2.2.2.2.2.2.2.2.2.2.2.2.2.2.1)).bind λt39 =>
 some t39)
 (some false)).bind λt40 =>
 some t40)).bind λt41 =>
 some t41)
def jm:FL:=(135,⟨[.val true yp false],[.val false tK (some true)],λa=>eF a⟩)::jl
theorem o9:Gd jm:=sI o8 135 Tryz.f135 [] Tryz.func135
def gZ (p0:sL) (t36:Int):Option (Int⊕(Unit⊕Bool)) :=
 cond (decide (t36<(p0.2.2.2.2.2.2.2.2.2.2.2.2.1.length:Int)))
 ((at? p0.2.2.2.2.2.2.2.2.2.2.2.2.1 t36).bind λx39 =>
 (ac x39.1 1 p0.2.2.2.2.2.2.2.2.2.2.2.2.2.2).bind λt45 =>
 (cond (!t45)
 (some true)
 ((cond (decide (t36>0))
 ((at? p0.2.2.2.2.2.2.2.2.2.2.2.2.1 (sy (t36-1))).bind λx55 =>
 some (decide (x55.1>=x39.1)))
 (some false)).bind λt61 =>
 some t61)).bind λt62 =>
 (cond t62
 (some true)
 ((eF x39).bind λt65 =>
 some (!t65))).bind λt67 =>
 cond t67 (some (.inr (.inr false))) (some (.inl (sy (t36+1)))))
 (some (.inr (.inl ())))
def bQ (p0:sL):Option Bool :=
 (bm (p0.1,p0.2.1,p0.2.2.1,p0.2.2.2.1,p0.2.2.2.2.1,p0.2.2.2.2.2.1,p0.2.2.2.2.2.2.1,p0.2.2.2.2.2.2.2.1,p0.2.2.2.2.2.2.2.2.1,p0.2.2.2.2.2.2.2.2.2.1,p0.2.2.2.2.2.2.2.2.2.2.1)).bind λt7 =>
 (cond (!t7)
 (some true)
 (some (decide ((p0.2.2.2.2.2.2.2.2.2.2.2.1.length:Int)>20)))).bind λt14 =>
 (cond t14
 (some true)
 (some (decide ((p0.2.2.2.2.2.2.2.2.2.2.2.2.1.length:Int)>6)))).bind λt20 =>
 (cond t20
 (some true)
 ((bj p0.2.2.2.2.2.2.2.2.2.2.2.2.2.1).bind λt24 =>
 some (!t24))).bind λt26 =>
 (cond t26
 (some true)
 ((bj p0.2.2.2.2.2.2.2.2.2.2.2.2.2.2).bind λt30 =>
 some (!t30))).bind λt32 =>
 cond t32
 (some false)
 ((loop (λz=>gZ p0 z) 0).bind (Sum.elim (λd =>
 some true) (λr=>some r)))
def jn:FL:=(43,⟨[.val true tV false],[.val false tK (some true)],λa=>bQ a⟩)::jm
theorem oa:Gd jn:=sI o9 43 Tryz.f43 [(0,⟨⟨(36,false,[dI])::us 48 14 (us 64 3 []),[]⟩,
 ⟨[],[]⟩,some ⟨[(2,false,[dB])],[]⟩⟩)] Tryz.func43
def fM (l0:List sD):Option (List sD) :=
 (sT [] l0).bind λzs4 =>
 some zs4
def jo:FL:=(166,⟨[.val false (.one (.sl th)) false],[.val false (.one (.sl th)) (some true)],λa=>fM a⟩)::jn
theorem ob:Gd jo:=sI oa 166 Tryz.f166 [] Tryz.func166
def aX (l0:List Int):Option (List Int) :=
 (sT [] l0).bind λzs4 =>
 some zs4
def jp:FL:=(78,⟨[.val false vb false],[.val false vb (some true)],λa=>aX a⟩)::jo
theorem oc:Gd jp:=sI ob 78 Tryz.f78 [] Tryz.func78
def dv (v0:tH):Option tH :=
 (sT [] v0.1).bind λzs5 =>
 (aX v0.2).bind λt8 =>
 some (zs5,t8)
def jq:FL:=(167,⟨[.val true uS false],[.val true uS (some true)],λa=>dv a⟩)::jp
theorem od:Gd jq:=sI oc 167 Tryz.f167 [] Tryz.func167
def ap (b0:sx):Option sx :=
 (sT [] b0.2.2.1).bind λzs5 =>
 (fM b0.2.2.2.1).bind λt9 =>
 (dv (b0.2.2.2.2.1,b0.2.2.2.2.2.1)).bind λt12 =>
 some (b0.1,b0.2.1,zs5,t9,t12.1,t12.2,b0.2.2.2.2.2.2.1,b0.2.2.2.2.2.2.2.1,b0.2.2.2.2.2.2.2.2.1,b0.2.2.2.2.2.2.2.2.2.1,b0.2.2.2.2.2.2.2.2.2.2)
def jr:FL:=(76,⟨[.val true sX false],[.val true sX (some true)],λa=>ap a⟩)::jq
theorem oe:Gd jr:=sI od 76 Tryz.f76 [] Tryz.func76
def bA (b0:List Int):Option (List Int) :=
 (sT [] b0).bind λzs4 =>
 some zs4
def js:FL:=(131,⟨[.val false uh false],[.val false uh (some true)],λa=>bA a⟩)::jr
theorem og:Gd js:=sI oe 131 Tryz.f131 [] Tryz.func131
def fN (v0:wl):Option wl :=
 (aX v0.2.2.2).bind λt5 =>
 some (v0.1,v0.2.1,v0.2.2.1,t5)
def jt:FL:=(173,⟨[.val true xB false],[.val true xB (some true)],λa=>fN a⟩)::js
theorem oh:Gd jt:=sI og 173 Tryz.f173 [] Tryz.func173
def dw (l0:List sB) (t8:Int) (out3:List sB):Option ((Int×List sB)⊕(List sB)) :=
 cond (decide (t8<(l0.length:Int)))
 ((at? l0 t8).bind λx10 =>
 (aX x10.1).bind λt15 =>
 (fN x10.2).bind λt18 =>
 (sT out3 [(t15,t18.1,t18.2.1,t18.2.2.1,t18.2.2.2)]).bind λzs21 =>
 some (.inl (sy (t8+1),zs21)))
 (some (.inr out3))
def dx (l0:List sB):Option (List sB) :=
 (loop (λz=>dw l0 z.1 z.2) (0,[])).bind λd =>
 some d
def ju:FL:=(81,⟨[.val false (.one (.sl sS)) false],[.val false (.one (.sl sS)) (some true)],λa=>dx a⟩)::jt
theorem oi:Gd ju:=sI oh 81 Tryz.f81 [(0,⟨⟨[(3,false,[.own 1000000000]),(8,false,[dI])],[(1000000000,.root sS true)]⟩,
 ⟨[(3,false,[.own 1000000300])],[(1000000300,.root sS true)]⟩,none⟩)] Tryz.func81
def eG (p0:tg):Option tg :=
 (dx p0.2.2.2.2).bind λt5 =>
 some (p0.1,p0.2.1,p0.2.2.1,p0.2.2.2.1,t5)
def jv:FL:=(233,⟨[.val true uN false],[.val true uN (some true)],λa=>eG a⟩)::ju
theorem oj:Gd jv:=sI oi 233 Tryz.f233 [] Tryz.func233
def dy (a0:sL) (t13:Int) (jobs3:List tQ):Option ((Int×List tQ)⊕(List tQ)) :=
 cond (decide (t13<(a0.2.2.2.2.2.2.2.2.2.2.2.2.1.length:Int)))
 ((at? a0.2.2.2.2.2.2.2.2.2.2.2.2.1 t13).bind λx15 =>
 (bA x15.2.1).bind λt19 =>
 (eG (x15.2.2.2.1,x15.2.2.2.2.1,x15.2.2.2.2.2.1,x15.2.2.2.2.2.2.1,x15.2.2.2.2.2.2.2.1)).bind λt22 =>
 (ap (x15.2.2.2.2.2.2.2.2.1,x15.2.2.2.2.2.2.2.2.2.1,x15.2.2.2.2.2.2.2.2.2.2.1,x15.2.2.2.2.2.2.2.2.2.2.2.1,x15.2.2.2.2.2.2.2.2.2.2.2.2.1,x15.2.2.2.2.2.2.2.2.2.2.2.2.2.1,x15.2.2.2.2.2.2.2.2.2.2.2.2.2.2.1,x15.2.2.2.2.2.2.2.2.2.2.2.2.2.2.2.1,x15.2.2.2.2.2.2.2.2.2.2.2.2.2.2.2.2.1,x15.2.2.2.2.2.2.2.2.2.2.2.2.2.2.2.2.2.1,x15.2.2.2.2.2.2.2.2.2.2.2.2.2.2.2.2.2.2.1)).bind λt25 =>
 (sT jobs3 [(x15.1,t19,x15.2.2.1,t22.1,t22.2.1,t22.2.2.1,t22.2.2.2.1,t22.2.2.2.2,t25.1,t25.2.1,t25.2.2.1,t25.2.2.2.1,t25.2.2.2.2.1,t25.2.2.2.2.2.1,t25.2.2.2.2.2.2.1,t25.2.2.2.2.2.2.2.1,t25.2.2.2.2.2.2.2.2.1,t25.2.2.2.2.2.2.2.2.2.1,t25.2.2.2.2.2.2.2.2.2.2,x15.2.2.2.2.2.2.2.2.2.2.2.2.2.2.2.2.2.2.2.1,x15.2.2.2.2.2.2.2.2.2.2.2.2.2.2.2.2.2.2.2.2)]).bind λzs32 =>
 some (.inl (sy (t13+1),zs32)))
 (some (.inr jobs3))
def dz (a0:sL):Option sL :=
 (ap (a0.1,a0.2.1,a0.2.2.1,a0.2.2.2.1,a0.2.2.2.2.1,a0.2.2.2.2.2.1,a0.2.2.2.2.2.2.1,a0.2.2.2.2.2.2.2.1,a0.2.2.2.2.2.2.2.2.1,a0.2.2.2.2.2.2.2.2.2.1,a0.2.2.2.2.2.2.2.2.2.2.1)).bind λt8 =>
 (loop (λz=>dy a0 z.1 z.2) (0,[])).bind λd =>
 some (t8.1,t8.2.1,t8.2.2.1,t8.2.2.2.1,t8.2.2.2.2.1,t8.2.2.2.2.2.1,t8.2.2.2.2.2.2.1,t8.2.2.2.2.2.2.2.1,t8.2.2.2.2.2.2.2.2.1,t8.2.2.2.2.2.2.2.2.2.1,t8.2.2.2.2.2.2.2.2.2.2,a0.2.2.2.2.2.2.2.2.2.2.2.1,d,a0.2.2.2.2.2.2.2.2.2.2.2.2.2.1,a0.2.2.2.2.2.2.2.2.2.2.2.2.2.2)
def jw:FL:=(129,⟨[.val true tV false],[.val true tV (some true)],λa=>dz a⟩)::jv
theorem om:Gd jw:=sI oj 129 Tryz.f129 [(0,⟨⟨[(3,false,[.own 1000000000]),(13,false,[dI])],[(1000000000,.root yp true)]⟩,
 ⟨[(3,false,[.own 1000000300])],[(1000000300,.root yp true)]⟩,none⟩)] Tryz.func129
def aY (n0:Int):Option Int :=
 let t2:=min2 (sy (n0+1)) 1000000
 some t2
def jx:FL:=(130,⟨[.val false sH false],[.val false sH (some true)],λa=>aY a⟩)::jw
theorem oo:Gd jx:=sI om 130 Tryz.f130 [] Tryz.func130
def bo (a0:sL) (b1:List Int):Option sL :=
 (dz a0).bind λt7 =>
 (bQ a0).bind λt24 =>
 cond (!t24)
 (some t7)
 ((cond (decide ((a0.2.2.2.2.2.2.2.2.2.2.2.2.1.length:Int)>=6))
 (some true)
 (some (decide (a0.2.2.2.2.2.2.2.2.2.2.2.2.2.2>=1000000)))).bind λt35 =>
 cond t35
 ((aY a0.2.2.2.2.2.2.2.2.2.2.2.2.2.1).bind λt38 =>
 some (t7.1,t7.2.1,t7.2.2.1,t7.2.2.2.1,t7.2.2.2.2.1,t7.2.2.2.2.2.1,t7.2.2.2.2.2.2.1,t7.2.2.2.2.2.2.2.1,t7.2.2.2.2.2.2.2.2.1,t7.2.2.2.2.2.2.2.2.2.1,t7.2.2.2.2.2.2.2.2.2.2.1,t7.2.2.2.2.2.2.2.2.2.2.2.1,t7.2.2.2.2.2.2.2.2.2.2.2.2.1,t38,t7.2.2.2.2.2.2.2.2.2.2.2.2.2.2))
 ((bA b1).bind λt17 =>
 (sT t7.2.2.2.2.2.2.2.2.2.2.2.2.1 ([(sy (t7.2.2.2.2.2.2.2.2.2.2.2.2.2.2+1),t17,0,0,0,0,0,[],0,[],[],[],[],[],0,0,0,0,0,0,0)])).bind λzs20 =>
 some (t7.1,t7.2.1,t7.2.2.1,t7.2.2.2.1,t7.2.2.2.2.1,t7.2.2.2.2.2.1,t7.2.2.2.2.2.2.1,t7.2.2.2.2.2.2.2.1,t7.2.2.2.2.2.2.2.2.1,t7.2.2.2.2.2.2.2.2.2.1,t7.2.2.2.2.2.2.2.2.2.2.1,t7.2.2.2.2.2.2.2.2.2.2.2.1,zs20,t7.2.2.2.2.2.2.2.2.2.2.2.2.2.1,sy (t7.2.2.2.2.2.2.2.2.2.2.2.2.2.2+1))))
def jy:FL:=(38,⟨[.val true tV false,.val false uh false],[.val true tV (some true)],λa=>bo a.1 a.2⟩)::jx
theorem oq:Gd jy:=sI oo 38 Tryz.f38 [] Tryz.func38
def cz (p0:List Int) (i1:Int):Option (Int×(List Int)×Int×Bool) :=
 (cond (decide (i1<0)) (some true) (some (decide (i1>(sy ((p0.length:Int)-2)))))).bind λt18 =>
 cond t18
 (some (0,[],0,false))
 ((at? p0 (sy (i1+1))).bind λx22 =>
 cond (decide ((sy (x22))>=128))
 ((cond ((sy (x22)) != 129) (some true) (some (decide ((sy (i1+2))>=(p0.length:Int))))).bind λt36 =>
 (cond t36
 (some true)
 ((at? p0 (sy (i1+2))).bind λx40 =>
 some (decide (x40<128)))).bind λt43 =>
 cond t43
 (some (0,[],0,false))
 ((at? p0 (sy (i1+2))).bind λx46 =>
 (cond (decide ((sy (x46))>250))
 (some true)
 (some (decide ((sy (x46))>(sy ((p0.length:Int)-(sy ((sy (i1+2))+1)))))))).bind λt60 =>
 cond t60
 (some (0,[],0,false))
 ((at? p0 i1).bind λx63 =>
 (cut p0 (sy ((sy (i1+2))+1)) (sy ((sy ((sy (i1+2))+1))+(sy (x46))))).bind λt71 =>
 (bA t71).bind λt72 =>
 let t6:=sy ((sy ((sy (i1+2))+1))+(sy (x46)))
 some (sy (x63),t72,t6,true))))
 ((cond (decide ((sy (x22))>250))
 (some true)
 (some (decide ((sy (x22))>(sy ((p0.length:Int)-(sy (i1+2)))))))).bind λt60_1 =>
 cond t60_1
 (some (0,[],0,false))
 ((at? p0 i1).bind λx63_1 =>
 (cut p0 (sy (i1+2)) (sy ((sy (i1+2))+(sy (x22))))).bind λt71_1 =>
 (bA t71_1).bind λt72_1 =>
 let t6_1:=sy ((sy (i1+2))+(sy (x22)))
 some (sy (x63_1),t72_1,t6_1,true))))
def jz:FL:=(316,⟨[.val false uh false,.val false sH false],[.val false sH (some true),.val false uh (some true),.val false sH (some true),.val false tK (some true)],λa=>cz a.1 a.2⟩)::jy
theorem ot:Gd jz:=sI oq 316 Tryz.f316 [] Tryz.func316
def bB (r0:uX) (tag1:Int):Option (uX×List Int) :=
 (cz r0.1 r0.2.1).bind λt18 =>
 (cond r0.2.2 (some true) (some (!t18.2.2.2))).bind λt30 =>
 (cond t30 (some true) (some (t18.1 != tag1))).bind λt35 =>
 cond t35
 (some ((r0.1,r0.2.1,true),[]))
 (some ((r0.1,t18.2.2.1,r0.2.2),t18.2.1))
def jA:FL:=(318,⟨[.ptr xh none,.val false sH false],[.val false uh (some true)],λa=>bB a.1 a.2⟩)::jz
theorem ou:Gd jA:=sI ot 318 Tryz.f318 [] Tryz.func318
def aM (n0_1:Int) (k3:Int):Option (Int⊕Int) :=
 (cond (decide (k3<4))
 ((shl .i64 (-1) (sy ((sy (8*k3))-1))).bind λt16 =>
 (shl .i64 1 (sy ((sy (8*k3))-1))).bind λt20 =>
 (ac n0_1 t16 (sy (t20-1))).bind λt22 =>
 some (!t22))
 (some false)).bind λt24 =>
 cond t24 (some (.inl (sy (k3+1)))) (some (.inr k3))
def aA (n0_1:Int) (i5:Int) (out4:List Int):Option ((Int×List Int)⊕(List Int)) :=
 cond (decide (i5>=0))
 ((shr .i64 n0_1 (sy (8*i5))).bind λt37 =>
 (sT out4 [IntKind.u8.wrap (t37)]).bind λzs40 =>
 some (.inl (sy (i5-1),zs40)))
 (some (.inr out4))
def dA (n0:Int):Option (List Int) :=
 let n0_1:=max2 (-2147483648) (min2 n0 2147483647)
 (loop (λz=>aM n0_1 z) 1).bind λd =>
 (loop (λz=>aA n0_1 z.1 z.2) (sy (d-1),[])).bind λd_1 =>
 some d_1
def jC:FL:=(293,⟨[.val false sH false],[.val false uh (some true)],λa=>dA a⟩)::jA
theorem ov:Gd jC:=sI ou 293 Tryz.f293 [(0,⟨⟨(3,false,[dI])::us 12 12 [],[]⟩,
 ⟨[(3,false,[dI])],[]⟩,none⟩),
 (2,⟨⟨[(4,false,[.own 1000002000]),(5,false,[dI])],[(1000002000,.root (.one (.int .u8)) true)]⟩,
 ⟨[(4,false,[.own 1000002300])],[(1000002300,.root (.one (.int .u8)) true)]⟩,none⟩)] Tryz.func293
def dC (t17:List Int) (n4_1:Int) (t19:Int):Option ((Int×Int)⊕Int) :=
 cond (decide (t19<(t17.length:Int)))
 ((at? t17 t19).bind λx21 =>
 let n4_2:=zZ .i64 (sy (n4_1*2^8)) (sy (x21))
 some (.inl (n4_2,sy (t19+1))))
 (some (.inr n4_1))
def eH (b0:List Int):Option (Int×Bool) :=
 (ac (b0.length:Int) 1 4).bind λt9 =>
 cond (!t9)
 (some (0,false))
 ((at? b0 0).bind λx12 =>
 let n4:=sy (IntKind.i8.wrap (x12))
 (cut b0 1 (b0.length:Int)).bind λt17 =>
 (loop (λz=>dC t17 z.1 z.2) (n4,0)).bind λd =>
 (dA d).bind λt30 =>
 cond ((t30.length:Int) != (b0.length:Int)) (some (0,false)) (some (d,true)))
def jD:FL:=(350,⟨[.val false uh false],[.val false sH (some true),.val false tK (some true)],λa=>eH a⟩)::jC
theorem ow:Gd jD:=sI ov 350 Tryz.f350 [(0,⟨⟨[(4,false,[dI]),(19,false,[dI])],[]⟩,
 ⟨[(4,false,[dI])],[]⟩,none⟩)] Tryz.func350
def cA (r0:uX) (tag1:Int):Option (uX×Int) :=
 (bB r0 tag1).bind λt10 =>
 (eH t10.2).bind λt11 =>
 (cond t10.1.2.2 (some true) (some (!t11.2))).bind λt22 =>
 some ((t10.1.1,t10.1.2.1,t22),t11.1)
def jE:FL:=(317,⟨[.ptr xh none,.val false sH false],[.val false sH (some true)],λa=>cA a.1 a.2⟩)::jD
theorem ox:Gd jE:=sI ow 317 Tryz.f317 [] Tryz.func317
def cB (tag0:Int) (body1:List Int):Option ((List Int)×Bool) :=
 (ac tag0 0 255).bind λt8 =>
 (cond (!t8) (some true) (some (decide ((body1.length:Int)>250)))).bind λt14 =>
 cond t14
 (some ([],false))
 (cond (decide ((body1.length:Int)>=128))
 ((sT [IntKind.u8.wrap (tag0)] ([129]:List Int)).bind λzs23 =>
 (sT zs23 [IntKind.u8.wrap ((body1.length:Int))]).bind λzs29 =>
 (sT zs29 body1).bind λzs31 =>
 some (zs31,true))
 ((sT [IntKind.u8.wrap (tag0)] [IntKind.u8.wrap ((body1.length:Int))]).bind λzs29_1 =>
 (sT zs29_1 body1).bind λzs31_1 =>
 some (zs31_1,true)))
def jF:FL:=(182,⟨[.val false sH false,.val false uh false],[.val false uh (some true),.val false tK (some true)],λa=>cB a.1 a.2⟩)::jE
theorem oy:Gd jF:=sI ox 182 Tryz.f182 [] Tryz.func182
def bp (b0:List Int) (tag1:Int) (body2:List Int):Option (List Int) :=
 (cB tag1 body2).bind λt12 =>
 (bA b0).bind λt16 =>
 (sT t16 t12.1).bind λzs18 =>
 some zs18
def jG:FL:=(184,⟨[.val false uh false,.val false sH false,.val false uh false],[.val false uh (some true)],λa=>bp a.1 a.2.1 a.2.2⟩)::jF
theorem oz:Gd jG:=sI oy 184 Tryz.f184 [] Tryz.func184
def bR (x14:Int) (k6:Int):Option (Int⊕Int) :=
 (shr .i64 x14 (sy (7*k6))).bind λt19 =>
 cond (decide (t19>127)) (some (.inl (sy (k6+1)))) (some (.inr k6))
def cC (x14:Int) (k6_2:Int) (out3_1:List Int):Option ((Int×List Int)⊕(List Int)) :=
 cond (decide (k6_2>0))
 ((shr .i64 x14 (sy (7*k6_2))).bind λt31 =>
 (sT out3_1 [IntKind.u8.wrap (sy ((wh .i64 t31 127)+128))]).bind λzs36 =>
 some (.inl (sy (k6_2-1),zs36)))
 (some (.inr out3_1))
def dD (o0:List Int) (t12:Int) (out3:List Int):Option ((Int×List Int)⊕(List Int)) :=
 cond (decide (t12<(o0.length:Int)))
 ((at? o0 t12).bind λx14 =>
 (loop (λz=>bR x14 z) 0).bind λd =>
 (loop (λz=>cC x14 z.1 z.2) (d,out3)).bind λd_1 =>
 (sT d_1 [IntKind.u8.wrap (wh .i64 x14 127)]).bind λzs42 =>
 some (.inl (sy (t12+1),zs42)))
 (some (.inr out3))
def cD (o0:List Int):Option (List Int) :=
 (ak o0).bind λt8 =>
 cond (!t8)
 (some [])
 ((loop (λz=>dD o0 z.1 z.2) (0,[])).bind λd_2 =>
 some d_2)
def jH:FL:=(185,⟨[.val false vb false],[.val false uh (some true)],λa=>cD a⟩)::jG
theorem oA:Gd jH:=sI oz 185 Tryz.f185 [(0,⟨⟨[(3,false,[.own 1000000000]),(12,false,[dI])],[(1000000000,.root (.one (.int .u8)) true)]⟩,
 ⟨[(3,false,[.own 1000000300])],[(1000000300,.root (.one (.int .u8)) true)]⟩,none⟩),
 (2,⟨⟨[(6,false,[dI])],[]⟩,
 ⟨[(6,false,[dI])],[]⟩,none⟩),
 (4,⟨⟨[(3,false,[.own 1000004000]),(6,false,[dI])],[(1000004000,.root (.one (.int .u8)) true)]⟩,
 ⟨[(3,false,[.own 1000004300])],[(1000004300,.root (.one (.int .u8)) true)]⟩,none⟩)] Tryz.func185
def fO (b0:List Int) (v1:wl):Option (List Int) :=
 (al v1).bind λt7 =>
 cond (!t7)
 ((bA b0).bind λt10 =>
 some t10)
 (cond (v1.1==2)
 ((dA v1.2.1).bind λt17 =>
 (bp b0 v1.1 t17).bind λt32 =>
 some t32)
 (cond (v1.1==4)
 ((bp b0 v1.1 (vl v1.2.2.1)).bind λt32_1 =>
 some t32_1)
 (cond (v1.1==6)
 ((cD v1.2.2.2).bind λt27 =>
 (bp b0 v1.1 t27).bind λt32_2 =>
 some t32_2)
 ((bp b0 v1.1 []).bind λt32_3 =>
 some t32_3))))
def jI:FL:=(183,⟨[.val false uh false,.val true xB false],[.val false uh (some true)],λa=>fO a.1 a.2⟩)::jH
theorem oB:Gd jI:=sI oA 183 Tryz.f183 [] Tryz.func183
def dE (out0:List Int) (tag1:Int) (n2:Int):Option (List Int) :=
 (dA n2).bind λt10 =>
 (bp out0 tag1 t10).bind λt11 =>
 some t11
def jJ:FL:=(186,⟨[.val false uh false,.val false sH false,.val false sH false],[.val false uh (some true)],λa=>dE a.1 a.2.1 a.2.2⟩)::jI
theorem oC:Gd jJ:=sI oB 186 Tryz.f186 [] Tryz.func186
def dG (p0:tg) (t18:Int) (t3:List Int):Option ((Int×List Int)⊕((List Int)⊕(List Int))) :=
 cond (decide (t18<(p0.2.2.2.2.length:Int)))
 ((at? p0.2.2.2.2 t18).bind λx20 =>
 (cD x20.1).bind λt25 =>
 (bp [] 6 t25).bind λt26 =>
 (fO t26 x20.2).bind λt29 =>
 (cB 48 t29).bind λt30 =>
 cond (!t30.2)
 (some (.inr (.inr [])))
 ((sT t3 t30.1).bind λzs37 =>
 some (.inl (sy (t18+1),zs37))))
 (some (.inr (.inl t3)))
def eI (p0:tg):Option (List Int) :=
 (cw p0).bind λt13 =>
 cond (!t13)
 (some [])
 ((loop (λz=>dG p0 z.1 z.2) (0,[])).bind (Sum.elim (λd =>
 (cB 48 d).bind λt41 =>
 cond (!t41.2)
 (some [])
 ((dE [] 2 p0.2.1).bind λt51 =>
 (dE t51 2 p0.2.2.1).bind λt54 =>
 (dE t54 2 p0.2.2.2.1).bind λt57 =>
 (sT t57 t41.1).bind λzs59 =>
 (cB p0.1 zs59).bind λt60 =>
 cond (!t60.2) (some []) (some t60.1))) (λr=>some r)))
def jK:FL:=(94,⟨[.val true uN false],[.val false uh (some true)],λa=>eI a⟩)::jJ
theorem oD:Gd jK:=sI oC 94 Tryz.f94 [(0,⟨⟨[(3,false,[.own 1000000000]),(18,false,[dI])],[(1000000000,.root (.one (.int .u8)) true)]⟩,
 ⟨[(3,false,[.own 1000000300])],[(1000000300,.root (.one (.int .u8)) true)]⟩,some ⟨[(2,false,[.own 1000000600])],[(1000000600,.root (.one (.int .u8)) true)]⟩⟩)] Tryz.func94
def hC (r0:uX):Option (uX×Bool) :=
 (cond (!r0.2.2) (some (r0.2.1==(r0.1.length:Int))) (some false)).bind λt19 =>
 some (r0,t19)
def jL:FL:=(351,⟨[.ptr xh none],[.val false tK (some true)],λa=>hC a⟩)::jK
theorem oE:Gd jL:=sI oD 351 Tryz.f351 [] Tryz.func351
def aw (b0:List Int) (n5:Int) (t11:Int) (out4:List Int):Option ((Int×Int×List Int)⊕((List Int)⊕(Bool×List Int))) :=
 cond (decide (t11<(b0.length:Int)))
 ((at? b0 t11).bind λx14 =>
 cond (decide (t11>=40))
 (some (.inr (.inr (false,[]))))
 (let n5_1:=zZ .i64 (sy ((min2 n5 1048576)*2^7)) (sy (wh .u8 x14 127))
 cond (decide (x14<128))
 ((sT out4 [n5_1]).bind λzs30 =>
 some (.inl (0,sy (t11+1),zs30)))
 (some (.inl (n5_1,sy (t11+1),out4)))))
 (some (.inr (.inl out4)))
def bS (b0:List Int):Option ((List Int)×Bool) :=
 (loop (λz=>aw b0 z.1 z.2.1 z.2.2) (0,0,[])).bind (Sum.elim (λd =>
 (cD d).bind λt33 =>
 (cond ((t33.length:Int)==0) (some true) (some (!((uf t33)==(uf b0))))).bind λt43 =>
 cond t43 (some ([],false)) (some (d,true))) (λr=>some (r.2,r.1)))
def jM:FL:=(366,⟨[.val false uh false],[.val false vb (some true),.val false tK (some true)],λa=>bS a⟩)::jL
theorem oF:Gd jM:=sI oE 366 Tryz.f366 [(0,⟨⟨[(4,false,[.own 1000000000]),(5,false,[dI]),(11,false,[dI])],[(1000000000,.root sH true)]⟩,
 ⟨[(4,false,[.own 1000000300])],[(1000000300,.root sH true)]⟩,some ⟨[(2,false,[.own 1000000600]),(3,false,[dB])],[(1000000600,.root sH true)]⟩⟩)] Tryz.func366
def fP (b0:List Int) (at1:Int):Option (wl×Int×Bool) :=
 (cz b0 at1).bind λt15 =>
 cond (!t15.2.2.2)
 (some ((0,0,[],[]),0,false))
 (cond (t15.1==2)
 ((eH t15.2.1).bind λt33 =>
 (cond (!t33.2)
 (some true)
 ((al (t15.1,t33.1,[],[])).bind λt54 =>
 some (!t54))).bind λt56 =>
 cond t56
 (some ((0,0,[],[]),0,false))
 (some ((t15.1,t33.1,[],[]),t15.2.2.1,true)))
 (cond (t15.1==4)
 ((cond (!t15.2.2.2)
 (some true)
 ((al (t15.1,0,uf t15.2.1,[])).bind λt54_1 =>
 some (!t54_1))).bind λt56_1 =>
 cond t56_1
 (some ((0,0,[],[]),0,false))
 (some ((t15.1,0,uf t15.2.1,[]),t15.2.2.1,true)))
 (cond (t15.1==6)
 ((bS t15.2.1).bind λt46 =>
 (cond (!t46.2)
 (some true)
 ((al (t15.1,0,[],t46.1)).bind λt54_2 =>
 some (!t54_2))).bind λt56_2 =>
 cond t56_2
 (some ((0,0,[],[]),0,false))
 (some ((t15.1,0,[],t46.1),t15.2.2.1,true)))
 (let ok10:=(t15.2.1.length:Int)==0
 (cond (!ok10)
 (some true)
 ((al (t15.1,0,[],[])).bind λt54_3 =>
 some (!t54_3))).bind λt56_3 =>
 cond t56_3
 (some ((0,0,[],[]),0,false))
 (some ((t15.1,0,[],[]),t15.2.2.1,true))))))
def jN:FL:=(367,⟨[.val false uh false,.val false sH false],[.val true xB (some true),.val false sH (some true),.val false tK (some true)],λa=>fP a.1 a.2⟩)::jM
theorem oG:Gd jN:=sI oF 367 Tryz.f367 [] Tryz.func367
def fQ (b0:List Int):Option (sB×Bool) :=
 (bB (b0,0,false) 6).bind λt15 =>
 (bS t15.2).bind λt16 =>
 (fP b0 t15.1.2.1).bind λt25 =>
 (cond t15.1.2.2 (some true) (some (!t16.2))).bind λt36 =>
 (cond t36 (some true) (some (!t25.2.2))).bind λt40 =>
 (cond t40 (some true) (some (t25.2.1 != (b0.length:Int)))).bind λt46 =>
 cond t46
 (some (([],0,0,[],[]),false))
 (some ((t16.1,t25.1.1,t25.1.2.1,t25.1.2.2.1,t25.1.2.2.2),true))
def jO:FL:=(352,⟨[.val false uh false],[.val true sS (some true),.val false tK (some true)],λa=>fQ a⟩)::jN
theorem oH:Gd jO:=sI oG 352 Tryz.f352 [] Tryz.func352
def aC (b0:Int) (b1:Int) (b2:Int) (b3:Int) (b0_1:Int) (b1_1:Int) (b2_1:Int) (b3_1:Int) (b0_2:List Int) (b1_2:Int) (b2_2:Bool) (b4:List sB) (b4_1:List sB):Option ((Int×Int×Int×Int×Int×Int×Int×Int×List Int×Int×Bool×List sB×List sB)⊕((Int×Int×Int×Int×Int×Int×Int×Int×List Int×Int×Bool×List sB×List sB)⊕(Bool×Int×Int×Int×Int×List sB))) :=
 cond (decide (b1_2<(b0_2.length:Int)))
 ((bB (b0_2,b1_2,b2_2) 48).bind λt64 =>
 (fQ t64.2).bind λt65 =>
 (cond (!t65.2) (some true) (some (decide ((b4_1.length:Int)>=10)))).bind λt75 =>
 cond t75
 (some (.inr (.inr (false,0,0,0,0,[]))))
 ((sT b4_1 [t65.1]).bind λzs81 =>
 some (.inl (b0,b1,b2,b3,b0_1,b1_1,b2_1,b3_1,t64.1.1,t64.1.2.1,t64.1.2.2,b4,zs81))))
 (some (.inr (.inl (b0,b1,b2,b3,b0_1,b1_1,b2_1,b3_1,b0_2,b1_2,b2_2,b4,b4_1))))
def fR (p0:List Int):Option (tg×Bool) :=
 (cz p0 0).bind λt16 =>
 (cond (!t16.2.2.2) (some true) (some (t16.2.2.1 != (p0.length:Int)))).bind λt28 =>
 cond t28
 (some ((0,0,0,0,[]),false))
 ((cA (t16.2.1,0,false) 2).bind λt36 =>
 (cA t36.1 2).bind λt39 =>
 (cA t39.1 2).bind λt42 =>
 (bB t42.1 48).bind λt45 =>
 (hC t45.1).bind λt49 =>
 cond (!t49.2)
 (some ((0,0,0,0,[]),false))
 ((loop (λz=>aC z.1 z.2.1 z.2.2.1 z.2.2.2.1 z.2.2.2.2.1 z.2.2.2.2.2.1 z.2.2.2.2.2.2.1 z.2.2.2.2.2.2.2.1 z.2.2.2.2.2.2.2.2.1 z.2.2.2.2.2.2.2.2.2.1 z.2.2.2.2.2.2.2.2.2.2.1 z.2.2.2.2.2.2.2.2.2.2.2.1 z.2.2.2.2.2.2.2.2.2.2.2.2) (0,0,0,0,t16.1,t36.2,t39.2,t42.2,t45.2,0,false,[],[])).bind (Sum.elim (λd =>
 (eI (d.2.2.2.2.1,d.2.2.2.2.2.1,d.2.2.2.2.2.2.1,d.2.2.2.2.2.2.2.1,d.2.2.2.2.2.2.2.2.2.2.2.2)).bind λt84 =>
 (cond ((t84.length:Int)==0) (some true) (some (!((uf t84)==(uf p0))))).bind λt94 =>
 cond t94
 (some ((0,0,0,0,[]),false))
 (some ((d.2.2.2.2.1,d.2.2.2.2.2.1,d.2.2.2.2.2.2.1,d.2.2.2.2.2.2.2.1,d.2.2.2.2.2.2.2.2.2.2.2.2),true))) (λr=>some (r.2,r.1)))))
def jQ:FL:=(319,⟨[.val false uh false],[.val true uN (some true),.val false tK (some true)],λa=>fR a⟩)::jO
theorem oI:Gd jQ:=sI oH 319 Tryz.f319 [(0,⟨⟨us 71 4 [],[(1024,.box [dI,dI,dI,dI,.own 1000000000]),(1051648,.box [dI,dI,dI,dI,.own 1000000001]),(2363392,.box [.dat (.sl (.one (.int .u8))),dI,dB]),(1000000000,.root sS true),(1000000001,.root sS true)]⟩,
 ⟨[],[(1024,.box [dI,dI,dI,dI,.own 1000000300]),(1051648,.box [dI,dI,dI,dI,.own 1000000301]),(2363392,.box [.dat (.sl (.one (.int .u8))),dI,dB]),(1000000300,.root sS true),(1000000301,.root sS true)]⟩,some ⟨[(3,false,[dB])],[(1024,.box [dI,dI,dI,dI,.own 1000000600]),(1000000600,.root sS true)]⟩⟩)] Tryz.func319
def bT (p0:List UInt8) (i1:List Int):Option (tg×Int) :=
 (cz i1 0).bind λt17 =>
 (cond (!t17.2.2.2) (some true) (some (t17.1 != 48))).bind λt27 =>
 (cond t27 (some true) (some (t17.2.2.1 != (i1.length:Int)))).bind λt33 =>
 cond t33
 (some ((0,0,0,0,[]),1))
 ((cA (t17.2.1,0,false) 2).bind λt39 =>
 (bB t39.1 4).bind λt41 =>
 cond t41.1.2.2
 (some ((0,0,0,0,[]),1))
 (cond (t39.2 != 1)
 (some ((0,0,0,0,[]),2))
 (cond (!((uf t41.2)==p0))
 (some ((0,0,0,0,[]),3))
 ((cut t17.2.1 t41.1.2.1 (t17.2.1.length:Int)).bind λt64 =>
 (fR t64).bind λt65 =>
 cond (!t65.2) (some ((0,0,0,0,[]),1)) (some (t65.1,0))))))
def jR:FL:=(236,⟨[.val false Hx false,.val false uh false],[.val true uN (some true),.val false sH (some true)],λa=>bT a.1 a.2⟩)::jQ
theorem oJ:Gd jR:=sI oI 236 Tryz.f236 [] Tryz.func236
def bU (a0:sL) (k1:Int):Option sL :=
 (uG a0.2.2.2.2.2.2.2.2.2.2.2.2.1.length 0 k1).bind λp =>
 (uG a0.2.2.2.2.2.2.2.2.2.2.2.2.1.length (sy (k1+1)) (a0.2.2.2.2.2.2.2.2.2.2.2.2.1.length:Int)).bind λp_1 =>
 (CV a0.2.2.2.2.2.2.2.2.2.2.2.2.1 p.1 p.2 p_1.1 p_1.2).bind λzs18 =>
 some (a0.1,a0.2.1,a0.2.2.1,a0.2.2.2.1,a0.2.2.2.2.1,a0.2.2.2.2.2.1,a0.2.2.2.2.2.2.1,a0.2.2.2.2.2.2.2.1,a0.2.2.2.2.2.2.2.2.1,a0.2.2.2.2.2.2.2.2.2.1,a0.2.2.2.2.2.2.2.2.2.2.1,a0.2.2.2.2.2.2.2.2.2.2.2.1,zs18,a0.2.2.2.2.2.2.2.2.2.2.2.2.2.1,a0.2.2.2.2.2.2.2.2.2.2.2.2.2.2)
def jS:FL:=(313,⟨[.ptr tV (some true),.val false sH false],[],λa=>bU a.1 a.2⟩)::jR
theorem oK:Gd jS:=sI oJ 313 Tryz.f313 [] Tryz.func313
def eJ (a0:sL) (k1:Int):Option sL :=
 (ix a0.2.2.2.2.2.2.2.2.2.2.2.2.1.length k1).bind λj10 =>
 (ap (a0.1,a0.2.1,a0.2.2.1,a0.2.2.2.1,a0.2.2.2.2.1,a0.2.2.2.2.2.1,a0.2.2.2.2.2.2.1,a0.2.2.2.2.2.2.2.1,a0.2.2.2.2.2.2.2.2.1,a0.2.2.2.2.2.2.2.2.2.1,a0.2.2.2.2.2.2.2.2.2.2.1)).bind λt18 =>
 (a0.2.2.2.2.2.2.2.2.2.2.2.2.1[j10]?).bind λx =>
 ((a0.2.2.2.2.2.2.2.2.2.2.2.2.1.set j10 (x.1,x.2.1,1,x.2.2.2.1,x.2.2.2.2.1,x.2.2.2.2.2.1,x.2.2.2.2.2.2.1,x.2.2.2.2.2.2.2.1,x.2.2.2.2.2.2.2.2.1,x.2.2.2.2.2.2.2.2.2.1,x.2.2.2.2.2.2.2.2.2.2.1,x.2.2.2.2.2.2.2.2.2.2.2.1,x.2.2.2.2.2.2.2.2.2.2.2.2.1,x.2.2.2.2.2.2.2.2.2.2.2.2.2.1,x.2.2.2.2.2.2.2.2.2.2.2.2.2.2.1,x.2.2.2.2.2.2.2.2.2.2.2.2.2.2.2.1,x.2.2.2.2.2.2.2.2.2.2.2.2.2.2.2.2.1,x.2.2.2.2.2.2.2.2.2.2.2.2.2.2.2.2.2.1,x.2.2.2.2.2.2.2.2.2.2.2.2.2.2.2.2.2.2.1,x.2.2.2.2.2.2.2.2.2.2.2.2.2.2.2.2.2.2.2.1,x.2.2.2.2.2.2.2.2.2.2.2.2.2.2.2.2.2.2.2.2))[j10]?).bind λx_1 =>
 (((a0.2.2.2.2.2.2.2.2.2.2.2.2.1.set j10 (x.1,x.2.1,1,x.2.2.2.1,x.2.2.2.2.1,x.2.2.2.2.2.1,x.2.2.2.2.2.2.1,x.2.2.2.2.2.2.2.1,x.2.2.2.2.2.2.2.2.1,x.2.2.2.2.2.2.2.2.2.1,x.2.2.2.2.2.2.2.2.2.2.1,x.2.2.2.2.2.2.2.2.2.2.2.1,x.2.2.2.2.2.2.2.2.2.2.2.2.1,x.2.2.2.2.2.2.2.2.2.2.2.2.2.1,x.2.2.2.2.2.2.2.2.2.2.2.2.2.2.1,x.2.2.2.2.2.2.2.2.2.2.2.2.2.2.2.1,x.2.2.2.2.2.2.2.2.2.2.2.2.2.2.2.2.1,x.2.2.2.2.2.2.2.2.2.2.2.2.2.2.2.2.2.1,x.2.2.2.2.2.2.2.2.2.2.2.2.2.2.2.2.2.2.1,x.2.2.2.2.2.2.2.2.2.2.2.2.2.2.2.2.2.2.2.1,x.2.2.2.2.2.2.2.2.2.2.2.2.2.2.2.2.2.2.2.2)).set j10 (x_1.1,x_1.2.1,x_1.2.2.1,x_1.2.2.2.1,x_1.2.2.2.2.1,x_1.2.2.2.2.2.1,x_1.2.2.2.2.2.2.1,x_1.2.2.2.2.2.2.2.1,x_1.2.2.2.2.2.2.2.2.1,x_1.2.2.2.2.2.2.2.2.2.1,x_1.2.2.2.2.2.2.2.2.2.2.1,x_1.2.2.2.2.2.2.2.2.2.2.2.1,x_1.2.2.2.2.2.2.2.2.2.2.2.2.1,x_1.2.2.2.2.2.2.2.2.2.2.2.2.2.1,x_1.2.2.2.2.2.2.2.2.2.2.2.2.2.2.1,x_1.2.2.2.2.2.2.2.2.2.2.2.2.2.2.2.1,x_1.2.2.2.2.2.2.2.2.2.2.2.2.2.2.2.2.1,x_1.2.2.2.2.2.2.2.2.2.2.2.2.2.2.2.2.2.1,x_1.2.2.2.2.2.2.2.2.2.2.2.2.2.2.2.2.2.2.1,0,x_1.2.2.2.2.2.2.2.2.2.2.2.2.2.2.2.2.2.2.2.2))[j10]?).bind λx_2 =>
 some (a0.1,a0.2.1,a0.2.2.1,a0.2.2.2.1,a0.2.2.2.2.1,a0.2.2.2.2.2.1,a0.2.2.2.2.2.2.1,a0.2.2.2.2.2.2.2.1,a0.2.2.2.2.2.2.2.2.1,a0.2.2.2.2.2.2.2.2.2.1,a0.2.2.2.2.2.2.2.2.2.2.1,a0.2.2.2.2.2.2.2.2.2.2.2.1,((a0.2.2.2.2.2.2.2.2.2.2.2.2.1.set j10 (x.1,x.2.1,1,x.2.2.2.1,x.2.2.2.2.1,x.2.2.2.2.2.1,x.2.2.2.2.2.2.1,x.2.2.2.2.2.2.2.1,x.2.2.2.2.2.2.2.2.1,x.2.2.2.2.2.2.2.2.2.1,x.2.2.2.2.2.2.2.2.2.2.1,x.2.2.2.2.2.2.2.2.2.2.2.1,x.2.2.2.2.2.2.2.2.2.2.2.2.1,x.2.2.2.2.2.2.2.2.2.2.2.2.2.1,x.2.2.2.2.2.2.2.2.2.2.2.2.2.2.1,x.2.2.2.2.2.2.2.2.2.2.2.2.2.2.2.1,x.2.2.2.2.2.2.2.2.2.2.2.2.2.2.2.2.1,x.2.2.2.2.2.2.2.2.2.2.2.2.2.2.2.2.2.1,x.2.2.2.2.2.2.2.2.2.2.2.2.2.2.2.2.2.2.1,x.2.2.2.2.2.2.2.2.2.2.2.2.2.2.2.2.2.2.2.1,x.2.2.2.2.2.2.2.2.2.2.2.2.2.2.2.2.2.2.2.2)).set j10 (x_1.1,x_1.2.1,x_1.2.2.1,x_1.2.2.2.1,x_1.2.2.2.2.1,x_1.2.2.2.2.2.1,x_1.2.2.2.2.2.2.1,x_1.2.2.2.2.2.2.2.1,x_1.2.2.2.2.2.2.2.2.1,x_1.2.2.2.2.2.2.2.2.2.1,x_1.2.2.2.2.2.2.2.2.2.2.1,x_1.2.2.2.2.2.2.2.2.2.2.2.1,x_1.2.2.2.2.2.2.2.2.2.2.2.2.1,x_1.2.2.2.2.2.2.2.2.2.2.2.2.2.1,x_1.2.2.2.2.2.2.2.2.2.2.2.2.2.2.1,x_1.2.2.2.2.2.2.2.2.2.2.2.2.2.2.2.1,x_1.2.2.2.2.2.2.2.2.2.2.2.2.2.2.2.2.1,x_1.2.2.2.2.2.2.2.2.2.2.2.2.2.2.2.2.2.1,x_1.2.2.2.2.2.2.2.2.2.2.2.2.2.2.2.2.2.2.1,0,x_1.2.2.2.2.2.2.2.2.2.2.2.2.2.2.2.2.2.2.2.2)).set j10 (x_2.1,x_2.2.1,x_2.2.2.1,x_2.2.2.2.1,x_2.2.2.2.2.1,x_2.2.2.2.2.2.1,x_2.2.2.2.2.2.2.1,x_2.2.2.2.2.2.2.2.1,t18.1,t18.2.1,t18.2.2.1,t18.2.2.2.1,t18.2.2.2.2.1,t18.2.2.2.2.2.1,t18.2.2.2.2.2.2.1,t18.2.2.2.2.2.2.2.1,t18.2.2.2.2.2.2.2.2.1,t18.2.2.2.2.2.2.2.2.2.1,t18.2.2.2.2.2.2.2.2.2.2,x_2.2.2.2.2.2.2.2.2.2.2.2.2.2.2.2.2.2.2.2.1,x_2.2.2.2.2.2.2.2.2.2.2.2.2.2.2.2.2.2.2.2.2),a0.2.2.2.2.2.2.2.2.2.2.2.2.2.1,a0.2.2.2.2.2.2.2.2.2.2.2.2.2.2)
def jT:FL:=(314,⟨[.ptr tV (some true),.val false sH false],[],λa=>eJ a.1 a.2⟩)::jS
theorem oL:Gd jT:=sI oK 314 Tryz.f314 [] Tryz.func314
def eK (p0:sL) (i1:Int):Option sL :=
 (ix p0.2.2.2.2.2.2.2.2.2.2.2.2.1.length i1).bind λj16 =>
 (p0.2.2.2.2.2.2.2.2.2.2.2.2.1[j16]?).bind λx18 =>
 (bT p0.2.2.2.2.2.2.2.2.2.2.2.1 x18.2.1).bind λt19 =>
 cond (t19.2==3)
 ((aY p0.2.2.2.2.2.2.2.2.1).bind λt42 =>
 (bU (p0.1,p0.2.1,p0.2.2.1,p0.2.2.2.1,p0.2.2.2.2.1,p0.2.2.2.2.2.1,p0.2.2.2.2.2.2.1,p0.2.2.2.2.2.2.2.1,t42,p0.2.2.2.2.2.2.2.2.2.1,p0.2.2.2.2.2.2.2.2.2.2.1,p0.2.2.2.2.2.2.2.2.2.2.2.1,p0.2.2.2.2.2.2.2.2.2.2.2.2.1,p0.2.2.2.2.2.2.2.2.2.2.2.2.2.1,p0.2.2.2.2.2.2.2.2.2.2.2.2.2.2) i1).bind λt48 =>
 some t48)
 ((cond (t19.2 != 0) (some true) (some (t19.1.1==162))).bind λt56 =>
 cond t56
 ((aY p0.2.2.2.2.2.2.2.1).bind λt63 =>
 (bU (p0.1,p0.2.1,p0.2.2.1,p0.2.2.2.1,p0.2.2.2.2.1,p0.2.2.2.2.2.1,p0.2.2.2.2.2.2.1,t63,p0.2.2.2.2.2.2.2.2.1,p0.2.2.2.2.2.2.2.2.2.1,p0.2.2.2.2.2.2.2.2.2.2.1,p0.2.2.2.2.2.2.2.2.2.2.2.1,p0.2.2.2.2.2.2.2.2.2.2.2.2.1,p0.2.2.2.2.2.2.2.2.2.2.2.2.2.1,p0.2.2.2.2.2.2.2.2.2.2.2.2.2.2) i1).bind λt69 =>
 some t69)
 ((ix p0.2.2.2.2.2.2.2.2.2.2.2.2.1.length i1).bind λj28 =>
 (p0.2.2.2.2.2.2.2.2.2.2.2.2.1[j28]?).bind λx =>
 (eJ (p0.1,p0.2.1,p0.2.2.1,p0.2.2.2.1,p0.2.2.2.2.1,p0.2.2.2.2.2.1,p0.2.2.2.2.2.2.1,p0.2.2.2.2.2.2.2.1,p0.2.2.2.2.2.2.2.2.1,p0.2.2.2.2.2.2.2.2.2.1,p0.2.2.2.2.2.2.2.2.2.2.1,p0.2.2.2.2.2.2.2.2.2.2.2.1,p0.2.2.2.2.2.2.2.2.2.2.2.2.1.set j28 (x.1,x.2.1,x.2.2.1,t19.1.1,t19.1.2.1,t19.1.2.2.1,t19.1.2.2.2.1,t19.1.2.2.2.2,x.2.2.2.2.2.2.2.2.1,x.2.2.2.2.2.2.2.2.2.1,x.2.2.2.2.2.2.2.2.2.2.1,x.2.2.2.2.2.2.2.2.2.2.2.1,x.2.2.2.2.2.2.2.2.2.2.2.2.1,x.2.2.2.2.2.2.2.2.2.2.2.2.2.1,x.2.2.2.2.2.2.2.2.2.2.2.2.2.2.1,x.2.2.2.2.2.2.2.2.2.2.2.2.2.2.2.1,x.2.2.2.2.2.2.2.2.2.2.2.2.2.2.2.2.1,x.2.2.2.2.2.2.2.2.2.2.2.2.2.2.2.2.2.1,x.2.2.2.2.2.2.2.2.2.2.2.2.2.2.2.2.2.2.1,x.2.2.2.2.2.2.2.2.2.2.2.2.2.2.2.2.2.2.2.1,x.2.2.2.2.2.2.2.2.2.2.2.2.2.2.2.2.2.2.2.2),p0.2.2.2.2.2.2.2.2.2.2.2.2.2.1,p0.2.2.2.2.2.2.2.2.2.2.2.2.2.2) i1).bind λt32 =>
 some t32))
def jU:FL:=(234,⟨[.ptr tV (some true),.val false sH false],[],λa=>eK a.1 a.2⟩)::jT
theorem oM:Gd jU:=sI oL 234 Tryz.f234 [] Tryz.func234
def aN (p0:tg):Option Bool :=
 (eI p0).bind λt4 =>
 (ac (t4.length:Int) 1 120).bind λt6 =>
 some t6
def jV:FL:=(18,⟨[.val true uN false],[.val false tK (some true)],λa=>aN a⟩)::jU
theorem oN:Gd jV:=sI oM 18 Tryz.f18 [] Tryz.func18
def aG (v0:wl) (name1:List Int):Option sB :=
 (sT ([1,3,1]:List Int) name1).bind λzs7 =>
 some (zs7,v0.1,v0.2.1,v0.2.2.1,v0.2.2.2)
def jW:FL:=(187,⟨[.val true xB false,.val false vb false],[.val true sS none],λa=>aG a.1 a.2⟩)::jV
theorem oO:Gd jW:=sI oN 187 Tryz.f187 [] Tryz.func187
def aZ (n0:Int):Option wl :=
 some (2,n0,[],[])
def jX:FL:=(188,⟨[.val false sH false],[.val true xB (some true)],λa=>aZ a⟩)::jW
theorem oP:Gd jX:=sI oO 188 Tryz.f188 [] Tryz.func188
def eL (is0:Bool):Option Int :=
 cond is0 (some 1) (some 0)
def jY:FL:=(294,⟨[.val false tK false],[.val false sH (some true)],λa=>eL a⟩)::jX
theorem oQ:Gd jY:=sI oP 294 Tryz.f294 [] Tryz.func294
def dH (a0:zg) (b1:zg):Option Bool :=
 cond (a0.1 != b1.1)
 (some (decide (a0.1<b1.1)))
 (cond (a0.2.1 != b1.2.1)
 (some (decide (a0.2.1<b1.2.1)))
 (cond (a0.2.2.2.1 != b1.2.2.2.1)
 (let t4:=decide (a0.2.2.2.1<b1.2.2.2.1)
 some t4)
 (let t4_1:=decide (a0.2.2.2.2<b1.2.2.2.2)
 some t4_1)))
def jZ:FL:=(345,⟨[.val true xO false,.val true xO false],[.val false tK (some true)],λa=>dH a.1 a.2⟩)::jY
theorem oR:Gd jZ:=sI oQ 345 Tryz.f345 [] Tryz.func345
def eM (v0:zg) (cost1:Int):Option (zg×Bool) :=
 (cu v0).bind λt8 =>
 (cond (!t8)
 (some true)
 ((ac cost1 1 1000).bind λt12 =>
 some (!t12))).bind λt14 =>
 cond t14
 (some (v0,false))
 ((cu (v0.1,sy (v0.2.1+cost1),sy (v0.2.2.1+1),v0.2.2.2.1,v0.2.2.2.2)).bind λt27 =>
 cond (!t27)
 (some (v0,false))
 (some ((v0.1,sy (v0.2.1+cost1),sy (v0.2.2.1+1),v0.2.2.2.1,v0.2.2.2.2),true)))
def kc:FL:=(364,⟨[.val true xO false,.val false sH false],[.val true xO (some true),.val false tK (some true)],λa=>eM a.1 a.2⟩)::jZ
theorem oS:Gd kc:=sI oR 364 Tryz.f364 [] Tryz.func364
def dJ (p0:Int) (i1:List Pt) (t7:Int) (t18:Int) (b0:Int) (b1:Int) (b2:Int) (b3:Int) (b4:Int) (b0_1:Int) (b1_1:Int) (b2_1:Int) (b3_1:Int) (b4_1:Int):Option ((Int×Int×Int×Int×Int×Int×Int×Int×Int×Int×Int×Int)⊕(Int×Int×Int×Int×Int×Int×Int×Int×Int×Int×Int)) :=
 cond (decide (t18<(i1.length:Int)))
 ((at? i1 t18).bind λx21 =>
 (cond (!x21.1) (some true) (some (!x21.2.2.1))).bind λt30 =>
 cond t30
 (some (.inl (t7,sy (t18+1),b0,b1,b2,b3,b4,b0_1,b1_1,b2_1,b3_1,b4_1)))
 ((eM x21.2.2.2 x21.2.1).bind λt36 =>
 (cond t36.2 (some (decide (t36.1.1<p0))) (some false)).bind λt45 =>
 (cond t45
 ((cond (decide (t7<0))
 (some true)
 ((dH t36.1 (b0_1,b1_1,b2_1,b3_1,b4_1)).bind λt52 =>
 some t52)).bind λt53 =>
 some t53)
 (some false)).bind λt54 =>
 cond t54
 (some (.inl (t18,sy (t18+1),t36.1.1,t36.1.2.1,t36.1.2.2.1,p0,0,t36.1.1,t36.1.2.1,t36.1.2.2.1,t36.1.2.2.2.1,t36.1.2.2.2.2)))
 (some (.inl (t7,sy (t18+1),b0,b1,b2,b3,b4,b0_1,b1_1,b2_1,b3_1,b4_1)))))
 (some (.inr (t7,b0,b1,b2,b3,b4,b0_1,b1_1,b2_1,b3_1,b4_1)))
def bC (p0:Int) (i1:List Pt):Option (zg×Int) :=
 (loop (λz=>dJ p0 i1 z.1 z.2.1 z.2.2.1 z.2.2.2.1 z.2.2.2.2.1 z.2.2.2.2.2.1 z.2.2.2.2.2.2.1 z.2.2.2.2.2.2.2.1 z.2.2.2.2.2.2.2.2.1 z.2.2.2.2.2.2.2.2.2.1 z.2.2.2.2.2.2.2.2.2.2.1 z.2.2.2.2.2.2.2.2.2.2.2) ((-1),0,p0,0,0,p0,0,0,0,0,0,0)).bind λd =>
 some ((d.2.1,d.2.2.1,d.2.2.2.1,d.2.2.2.2.1,d.2.2.2.2.2.1),d.1)
def ke:FL:=(344,⟨[.val false sH false,.val false (.one (.sl vc)) false],[.val true xO (some true),.val false sH (some true)],λa=>bC a.1 a.2⟩)::kc
theorem oT:Gd ke:=sI oS 344 Tryz.f344 [(0,⟨⟨(7,false,[dI])::(18,false,[dI])::us 27 3 (us 41 4 (us 47 7 [])),[(266240,.box [dI,dI,dI,dI,dI]),(525312,.box [dI,dI,dI,dI,dI])]⟩,
 ⟨[(7,false,[dI])],[(266240,.box [dI,dI,dI,dI,dI]),(525312,.box [dI,dI,dI,dI,dI])]⟩,none⟩)] Tryz.func344
def eN (id0:Int) (l1:List Pt) (port2:Int):Option zg :=
 (bC id0 l1).bind λt12 =>
 some (t12.1.1,t12.1.2.1,t12.1.2.2.1,t12.1.2.2.2.1,port2)
def kf:FL:=(346,⟨[.val false sH false,.val false (.one (.sl vc)) false,.val false sH false],[.val true xO (some true)],λa=>eN a.1 a.2.1 a.2.2⟩)::ke
theorem oU:Gd kf:=sI oT 346 Tryz.f346 [] Tryz.func346
def aO (id0:Int) (l1:List Pt) (port2:Int):Option Int :=
 (ac port2 0 (sy ((l1.length:Int)-1))).bind λt13 =>
 (cond (!t13)
 (some true)
 ((at? l1 port2).bind λx18 =>
 some (!x18.1))).bind λt22 =>
 cond t22
 (some 4)
 ((bC id0 l1).bind λt26 =>
 cond (t26.2==port2)
 (some 1)
 ((at? l1 port2).bind λx36 =>
 (cond (!x36.2.2.1)
 (some true)
 ((eN id0 l1 port2).bind λt44 =>
 (at? l1 port2).bind λx47 =>
 (dH t44 x47.2.2.2).bind λt50 =>
 some t50)).bind λt51 =>
 cond t51 (some 2) (some 3)))
def kg:FL:=(295,⟨[.val false sH false,.val false (.one (.sl vc)) false,.val false sH false],[.val false sH (some true)],λa=>aO a.1 a.2.1 a.2.2⟩)::kf
theorem oV:Gd kg:=sI oU 295 Tryz.f295 [] Tryz.func295
def bV (b0:sx) (c1:Int) (p2:Int):Option Int :=
 cond (c1==1)
 ((at? b0.2.2.1 p2).bind λx13 =>
 (eL x13.1).bind λt16 =>
 some t16)
 (cond (c1==2)
 ((at? b0.2.2.1 p2).bind λx22 =>
 some x22.2.1)
 (cond (c1==3)
 ((aO b0.1 b0.2.2.1 p2).bind λt32 =>
 some t32)
 ((at? b0.2.2.2.2.2.1 p2).bind λx37 =>
 some x37)))
def kh:FL:=(189,⟨[.val true sX false,.val false sH false,.val false sH false],[.val false sH (some true)],λa=>bV a.1 a.2.1 a.2.2⟩)::kg
theorem oW:Gd kh:=sI oV 189 Tryz.f189 [] Tryz.func189
def ki (p0:sx) (t32:Int) (t3:List sB):Option ((Int×List sB)⊕(List sB)) :=
 cond (decide (t32<([p0.2.2.2.2.2.2.1,p0.2.2.2.2.2.2.2.1,p0.2.2.2.2.2.2.2.2.1,p0.2.2.2.2.2.2.2.2.2.1].length:Int)))
 ((ix [p0.2.2.2.2.2.2.1,p0.2.2.2.2.2.2.2.1,p0.2.2.2.2.2.2.2.2.1,p0.2.2.2.2.2.2.2.2.2.1].length t32).bind λj35 =>
 ([p0.2.2.2.2.2.2.1,p0.2.2.2.2.2.2.2.1,p0.2.2.2.2.2.2.2.2.1,p0.2.2.2.2.2.2.2.2.2.1][j35]?).bind λx36 =>
 (aZ x36).bind λt39 =>
 (aG t39 [1,sy (t32+2)]).bind λt43 =>
 (sT t3 [t43]).bind λzs45 =>
 some (.inl (sy (t32+1),zs45)))
 (some (.inr t3))
def bD (p0:sx) (t6:Int) (t54:Int) (t3_3:List sB):Option ((Int×List sB)⊕(List sB)) :=
 cond (decide (t54<(p0.2.2.1.length:Int)))
 ((bV p0 t6 t54).bind λt61 =>
 (aZ t61).bind λt62 =>
 (aG t62 [2,t6,sy (t54+1)]).bind λt67 =>
 (sT t3_3 [t67]).bind λzs69 =>
 some (.inl (sy (t54+1),zs69)))
 (some (.inr t3_3))
def bW (p0:sx) (t6:Int) (t3_2:List sB):Option ((Int×List sB)⊕(List sB)) :=
 cond (decide (t6<=4))
 ((loop (λz=>bD p0 t6 z.1 z.2) (0,t3_2)).bind λd_1 =>
 some (.inl (sy (t6+1),d_1)))
 (some (.inr t3_2))
def bE (p0:sx) (t8:Int) (t79:Int) (t3_7:List sB):Option ((Int×List sB)⊕(List sB)) :=
 cond (decide (t79<(p0.2.2.2.2.1.length:Int)))
 ((at? p0.2.2.2.2.1 t79).bind λx81 =>
 (ix [1,x81.2.1,x81.2.2].length (sy (t8-1))).bind λj91 =>
 ([1,x81.2.1,x81.2.2][j91]?).bind λx92 =>
 (aZ x92).bind λt93 =>
 (aG t93 [3,t8,x81.1]).bind λt98 =>
 (sT t3_7 [t98]).bind λzs100 =>
 some (.inl (sy (t79+1),zs100)))
 (some (.inr t3_7))
def bY (p0:sx) (t8:Int) (t3_6:List sB):Option ((Int×List sB)⊕(List sB)) :=
 cond (decide (t8<=3))
 ((loop (λz=>bE p0 t8 z.1 z.2) (0,t3_6)).bind λd_3 =>
 some (.inl (sy (t8+1),d_3)))
 (some (.inr t3_6))
def bq (p0:sx) (t105:Int) (t3_10:List sB):Option ((Int×List sB)⊕(List sB)) :=
 cond (decide (t105<(p0.2.2.2.1.length:Int)))
 ((at? p0.2.2.2.1 t105).bind λx107 =>
 (aZ (sy (x107.2.2.1+1))).bind λt113 =>
 (aG t113 [4,1,x107.1,x107.2.1]).bind λt119 =>
 (sT t3_10 [t119]).bind λzs121 =>
 some (.inl (sy (t105+1),zs121)))
 (some (.inr t3_10))
def bG (p0:sx):Option (List sB) :=
 (bm p0).bind λt14 =>
 cond (!t14)
 (some [])
 ((aG (4,0,p0.2.1,[]) ([1,1]:List Int)).bind λt20 =>
 (loop (λz=>ki p0 z.1 z.2) (0,[t20])).bind λd =>
 (loop (λz=>bW p0 z.1 z.2) (1,d)).bind λd_2 =>
 (loop (λz=>bY p0 z.1 z.2) (1,d_2)).bind λd_4 =>
 (loop (λz=>bq p0 z.1 z.2) (0,d_4)).bind λd_5 =>
 some d_5)
def kj:FL:=(95,⟨[.val true sX false],[.val false (.one (.sl sS)) none],λa=>bG a⟩)::kh
theorem oX:Gd kj:=sI oW 95 Tryz.f95 [(0,⟨⟨[(3,false,[.own 1000000000]),(32,false,[dI])],[(1000000000,.root sS false)]⟩,
 ⟨[(3,false,[.own 1000000300])],[(1000000300,.root sS false)]⟩,none⟩),
 (2,⟨⟨[(3,false,[.own 1000002000]),(6,false,[dI])],[(1000002000,.root sS false)]⟩,
 ⟨[(3,false,[.own 1000002300])],[(1000002300,.root sS false)]⟩,none⟩),
 (4,⟨⟨[(3,false,[.own 1000004000]),(54,false,[dI])],[(1000004000,.root sS false)]⟩,
 ⟨[(3,false,[.own 1000004300])],[(1000004300,.root sS false)]⟩,none⟩),
 (6,⟨⟨[(3,false,[.own 1000006000]),(8,false,[dI])],[(1000006000,.root sS false)]⟩,
 ⟨[(3,false,[.own 1000006300])],[(1000006300,.root sS false)]⟩,none⟩),
 (8,⟨⟨[(3,false,[.own 1000008000]),(79,false,[dI])],[(1000008000,.root sS false)]⟩,
 ⟨[(3,false,[.own 1000008300])],[(1000008300,.root sS false)]⟩,none⟩),
 (10,⟨⟨[(3,false,[.own 1000010000]),(105,false,[dI])],[(1000010000,.root sS false)]⟩,
 ⟨[(3,false,[.own 1000010300])],[(1000010300,.root sS false)]⟩,none⟩)] Tryz.func95
def br (o1:List Int) (t8:List sB) (t10:Int) (b0_1:Int) (b1:Int) (b2:List UInt8) (b3:List Int):Option ((Int×Int×Int×List UInt8×List Int)⊕((Int×Int×List UInt8×List Int)⊕(Int×Int×List UInt8×List Int))) :=
 cond (decide (t10<(t8.length:Int)))
 ((at? t8 t10).bind λx12 =>
 (aF x12.1 o1).bind λt17 =>
 cond t17
 (some (.inr (.inr x12.2)))
 (some (.inl (sy (t10+1),b0_1,b1,b2,b3))))
 (some (.inr (.inl (b0_1,b1,b2,b3))))
def bZ (b0:sx) (o1:List Int):Option wl :=
 (bG b0).bind λt8 =>
 (loop (λz=>br o1 t8 z.1 z.2.1 z.2.2.1 z.2.2.2.1 z.2.2.2.2) (0,0,0,[],[])).bind (Sum.elim (λd =>
 some (128,0,[],[])) (λr=>some r))
def kk:FL:=(21,⟨[.val true sX false,.val false vb false],[.val true xB none],λa=>bZ a.1 a.2⟩)::kj
theorem oY:Gd kk:=sI oX 21 Tryz.f21 [(0,⟨⟨[(10,false,[dI])],[(2048,.box [dI,dI,dS,.own 1000000000]),(1000000000,.root sH true)]⟩,
 ⟨[],[(2048,.box [dI,dI,dS,.own 1000000300]),(1000000300,.root sH true)]⟩,some ⟨[],[(2048,.box [dI,dI,dS,.dat (.sl sH)])]⟩⟩)] Tryz.func21
def dK (a0:List Int) (b1:List Int) (i5:Int):Option (Int⊕(Unit⊕Bool)) :=
 (cond (decide (i5<(a0.length:Int))) (some (decide (i5<(b1.length:Int)))) (some false)).bind λt15 =>
 cond t15
 ((at? a0 i5).bind λx20 =>
 (at? b1 i5).bind λx24 =>
 cond (x20 != x24)
 ((at? a0 i5).bind λx29 =>
 (at? b1 i5).bind λx33 =>
 some (.inr (.inr (decide (x29<x33)))))
 (some (.inl (sy (i5+1)))))
 (some (.inr (.inl ())))
def eO (a0:List Int) (b1:List Int):Option Bool :=
 (loop (λz=>dK a0 b1 z) 0).bind (Sum.elim (λd =>
 let t4:=decide ((a0.length:Int)<(b1.length:Int))
 some t4) (λr=>some r))
def kl:FL:=(96,⟨[.val false vb false,.val false vb false],[.val false tK (some true)],λa=>eO a.1 a.2⟩)::kk
theorem oZ:Gd kl:=sI oY 96 Tryz.f96 [(0,⟨⟨(5,false,[dI])::us 11 4 [],[]⟩,
 ⟨[],[]⟩,some ⟨[(4,false,[dB])],[]⟩⟩)] Tryz.func96
def ca (o1:List Int) (t8:List sB) (t10:Int) (b1:Int) (b2:Int) (b3:List UInt8) (b0_1:List Int) (b4:List Int):Option ((Int×Int×Int×List UInt8×List Int×List Int)⊕((Int×Int×List UInt8×List Int×List Int)⊕(List Int×Int×Int×List UInt8×List Int))) :=
 cond (decide (t10<(t8.length:Int)))
 ((at? t8 t10).bind λx12 =>
 (eO o1 x12.1).bind λt17 =>
 cond t17
 (some (.inr (.inr x12)))
 (some (.inl (sy (t10+1),b1,b2,b3,b0_1,b4))))
 (some (.inr (.inl (b1,b2,b3,b0_1,b4))))
def bt (b0:sx) (o1:List Int):Option sB :=
 (bG b0).bind λt8 =>
 (loop (λz=>ca o1 t8 z.1 z.2.1 z.2.2.1 z.2.2.2.1 z.2.2.2.2.1 z.2.2.2.2.2) (0,0,0,[],[],[])).bind (Sum.elim (λd =>
 (aX o1).bind λt21 =>
 some (t21,130,0,[],[])) (λr=>some r))
def ko:FL:=(22,⟨[.val true sX false,.val false vb false],[.val true sS none],λa=>bt a.1 a.2⟩)::kl
theorem p5:Gd ko:=sI oZ 22 Tryz.f22 [(0,⟨⟨[(10,false,[dI])],[(2048,.box [.own 1000000000,dI,dI,dS,.own 1000000001]),(1000000000,.root sH true),(1000000001,.root sH true)]⟩,
 ⟨[],[(2048,.box [.own 1000000300,dI,dI,dS,.own 1000000301]),(1000000300,.root sH true),(1000000301,.root sH true)]⟩,some ⟨[],[(2048,.box [.dat (.sl sH),dI,dI,dS,.dat (.sl sH)])]⟩⟩)] Tryz.func22
def dL (p0:sx) (t24:List sB) (t26:Int) (t5:List sB):Option ((Int×List sB)⊕(List sB)) :=
 cond (decide (t26<(t24.length:Int)))
 ((at? t24 t26).bind λx28 =>
 (bt p0 x28.1).bind λt34 =>
 (sT t5 [t34]).bind λzs36 =>
 some (.inl (sy (t26+1),zs36)))
 (some (.inr t5))
def dM (t41:List sB) (t43:Int) (t9:List (List Int)):Option ((Int×List (List Int))⊕(List (List Int))) :=
 cond (decide (t43<(t41.length:Int)))
 ((at? t41 t43).bind λx45 =>
 (sT t9 [x45.1]).bind λzs51 =>
 some (.inl (sy (t43+1),zs51)))
 (some (.inr t9))
def cE (p0:sx) (l:List (List Int)) (t71:Int) (t5_3:List sB) (l_1:List (List Int)):Option ((Int×List sB×List (List Int))⊕(List sB×List (List Int))) :=
 cond (decide (t71<(l.length:Int)))
 (cond (decide ((t5_3.length:Int)>=10))
 (some (.inr (t5_3,l_1)))
 ((ix l_1.length t71).bind λj80 =>
 (l_1[j80]?).bind λx81 =>
 (bt p0 x81).bind λt82 =>
 (ix l_1.length t71).bind λj87 =>
 (l_1[j87]?).bind λx =>
 (sT t5_3 [t82]).bind λzs91 =>
 some (.inl (sy (t71+1),zs91,l_1.set j87 t82.1))))
 (some (.inr (t5_3,l_1)))
def bH (p0:sx) (i1:tg) (t12:Int) (t5_2:List sB) (l:List (List Int)):Option ((Int×List sB×List (List Int))⊕(List sB×List (List Int))) :=
 (cond (decide (t12<i1.2.2.2.1)) (some (decide ((l.length:Int)>0))) (some false)).bind λt61 =>
 (cond t61 (some (decide ((t5_2.length:Int)<10))) (some false)).bind λt66 =>
 cond t66
 ((loop (λz=>cE p0 l z.1 z.2.1 z.2.2) (0,t5_2,l)).bind λd_2 =>
 some (.inl (sy (t12+1),d_2.1,d_2.2)))
 (some (.inr (t5_2,l)))
def fS (p0:sx) (i1:tg):Option (List sB) :=
 let t6:=min2 i1.2.2.1 (i1.2.2.2.2.length:Int)
 (cut i1.2.2.2.2 0 t6).bind λt24 =>
 (loop (λz=>dL p0 t24 z.1 z.2) (0,[])).bind λd =>
 (cut i1.2.2.2.2 t6 (i1.2.2.2.2.length:Int)).bind λt41 =>
 (loop (λz=>dM t41 z.1 z.2) (0,[])).bind λd_1 =>
 (loop (λz=>bH p0 i1 z.1 z.2.1 z.2.2) (0,d,d_1)).bind λd_3 =>
 some d_3.1
def kq:FL:=(79,⟨[.val true sX false,.val true uN false],[.val false (.one (.sl sS)) none],λa=>fS a.1 a.2⟩)::ko
theorem p6:Gd kq:=sI p5 79 Tryz.f79 [(0,⟨⟨[(5,false,[.own 1000000000]),(26,false,[dI])],[(1000000000,.root sS false)]⟩,
 ⟨[(5,false,[.own 1000000300])],[(1000000300,.root sS false)]⟩,none⟩),
 (2,⟨⟨[(9,false,[.own 1000002000]),(43,false,[dI])],[(1000002000,.root vb false)]⟩,
 ⟨[(9,false,[.own 1000002300])],[(1000002300,.root vb false)]⟩,none⟩),
 (4,⟨⟨(5,false,[.own 1000004000])::(12,false,[dI])::us 58 3 (us 63 3 []),[(1000004000,.root sS false),(1000002300,.keep vb false)]⟩,
 ⟨[(5,false,[.own 1000004300])],[(1000004300,.root sS false),(1000002300,.keep vb false)]⟩,none⟩),
 (6,⟨⟨[(5,false,[.own 1000006000]),(71,false,[dI])],[(1000006000,.root sS false),(1000002300,.keep vb false)]⟩,
 ⟨[(5,false,[.own 1000006300])],[(1000006300,.root sS false),(1000002300,.keep vb false)]⟩,none⟩)] Tryz.func79
def aP (o0:List Int) (low1:Int) (high2:Int) (head3:List Int):Option Bool :=
 cond ((o0.length:Int)==(sy ((head3.length:Int)+4)))
 ((cut o0 0 (sy ((o0.length:Int)-1))).bind λt20 =>
 (sT ([1,3,1]:List Int) head3).bind λzs23 =>
 (aF t20 zs23).bind λt24 =>
 (cond t24
 ((at? o0 (sy ((o0.length:Int)-1))).bind λx31 =>
 (ac x31 low1 high2).bind λt35 =>
 some t35)
 (some false)).bind λt36 =>
 some t36)
 ((some false).bind λt36_1 =>
 some t36_1)
def kr:FL:=(335,⟨[.val false vb false,.val false sH false,.val false sH false,.val false vb false],[.val false tK (some true)],λa=>aP a.1 a.2.1 a.2.2.1 a.2.2.2⟩)::kq
theorem p7:Gd kr:=sI p6 335 Tryz.f335 [] Tryz.func335
def fT (b0:sx) (o1:List Int):Option Bool :=
 (aP o1 1 1 ([1]:List Int)).bind λt11 =>
 (cond t11
 (some true)
 ((aP o1 1 (b0.2.2.1.length:Int) ([2,2]:List Int)).bind λt16 =>
 some t16)).bind λt17 =>
 (cond t17
 (some true)
 ((aP o1 1 (b0.2.2.1.length:Int) ([2,4]:List Int)).bind λt22 =>
 some t22)).bind λt23 =>
 (cond t23
 (some true)
 ((aP o1 1 99 ([3,1]:List Int)).bind λt27 =>
 some t27)).bind λt28 =>
 cond t28
 (some true)
 ((aP o1 1 99 ([3,2]:List Int)).bind λt31 =>
 (cond t31
 (some true)
 ((aP o1 1 99 ([3,3]:List Int)).bind λt35 =>
 some t35)).bind λt36 =>
 (cond t36
 ((at? o1 5).bind λx41 =>
 (ao (b0.2.2.2.2.1,b0.2.2.2.2.2.1) x41).bind λt43 =>
 some (decide (t43>=0)))
 (some false)).bind λt45 =>
 some t45)
def kt:FL:=(280,⟨[.val true sX false,.val false vb false],[.val false tK (some true)],λa=>fT a.1 a.2⟩)::kr
theorem p8:Gd kt:=sI p7 280 Tryz.f280 [] Tryz.func280
def fU (v0:tH) (r1:sM) (k7:Int):Option (Int⊕Int) :=
 (cond (decide (k7<(v0.1.length:Int)))
 ((at? v0.1 k7).bind λx31 =>
 some (decide (x31.1<=r1.1)))
 (some false)).bind λt37 =>
 cond t37 (some (.inl (sy (k7+1)))) (some (.inr k7))
def eP (v0:tH) (r1:sM):Option tH :=
 (dv v0).bind λt9 =>
 (ao v0 r1.1).bind λt13 =>
 cond (decide (t13>=0))
 ((ix t9.1.length t13).bind λj20 =>
 (t9.1[j20]?).bind λx =>
 some (t9.1.set j20 r1,t9.2))
 ((loop (λz=>fU v0 r1 z) 0).bind λd =>
 (cut v0.1 0 d).bind λt43 =>
 (sT [] t43).bind λzs44 =>
 (sT zs44 [r1]).bind λzs47 =>
 (cut v0.1 d (v0.1.length:Int)).bind λt51 =>
 (sT zs47 t51).bind λzs52 =>
 some (zs52,t9.2))
def ku:FL:=(360,⟨[.val true uS false,.val true u0 false],[.val true uS (some true)],λa=>eP a.1 a.2⟩)::kt
theorem p9:Gd ku:=sI p8 360 Tryz.f360 [(0,⟨⟨(7,false,[dI])::us 28 9 [],[]⟩,
 ⟨[(7,false,[dI])],[]⟩,none⟩)] Tryz.func360
def eQ (v0:tH) (id1:Int):Option tH :=
 (dv v0).bind λt8 =>
 (ao v0 id1).bind λt11 =>
 cond (decide (t11>=0))
 ((cut v0.1 0 t11).bind λt17 =>
 (sT [] t17).bind λzs18 =>
 (cut v0.1 (sy (t11+1)) (v0.1.length:Int)).bind λt23 =>
 (sT zs18 t23).bind λzs24 =>
 some (zs24,t8.2))
 (some t8)
def kv:FL:=(361,⟨[.val true uS false,.val false sH false],[.val true uS (some true)],λa=>eQ a.1 a.2⟩)::ku
theorem pa:Gd kv:=sI p9 361 Tryz.f361 [] Tryz.func361
def fV (p0:sx) (i1:Int) (a2:Int) (a3:Int):Option (sx×Int) :=
 (ao (p0.2.2.2.2.1,p0.2.2.2.2.2.1) a2).bind λt15 =>
 cond (i1==1)
 ((cond (a3==4) (some (decide (t15<0))) (some false)).bind λt24 =>
 (cond t24 (some (decide ((p0.2.2.2.2.1.length:Int)<6))) (some false)).bind λt33 =>
 cond t33
 ((eP (p0.2.2.2.2.1,p0.2.2.2.2.2.1) (a2,0,0)).bind λt41 =>
 some ((p0.1,p0.2.1,p0.2.2.1,p0.2.2.2.1,t41.1,t41.2,p0.2.2.2.2.2.2.1,p0.2.2.2.2.2.2.2.1,p0.2.2.2.2.2.2.2.2.1,p0.2.2.2.2.2.2.2.2.2.1,p0.2.2.2.2.2.2.2.2.2.2),0))
 ((cond (a3==6) (some (decide (t15>=0))) (some false)).bind λt50 =>
 cond t50
 ((eQ (p0.2.2.2.2.1,p0.2.2.2.2.2.1) a2).bind λt57 =>
 some ((p0.1,p0.2.1,p0.2.2.1,p0.2.2.2.1,t57.1,t57.2,p0.2.2.2.2.2.2.1,p0.2.2.2.2.2.2.2.1,p0.2.2.2.2.2.2.2.2.1,p0.2.2.2.2.2.2.2.2.2.1,p0.2.2.2.2.2.2.2.2.2.2),0))
 (some (p0,2))))
 ((eE (p0.2.2.1.length:Int)).bind λt66 =>
 (ac a3 0 t66).bind λt67 =>
 cond (!t67)
 (some (p0,2))
 (cond (i1==2)
 ((ix p0.2.2.2.2.1.length t15).bind λj78 =>
 (p0.2.2.2.2.1[j78]?).bind λx =>
 some ((p0.1,p0.2.1,p0.2.2.1,p0.2.2.2.1,p0.2.2.2.2.1.set j78 (x.1,a3,x.2.2),p0.2.2.2.2.2.1,p0.2.2.2.2.2.2.1,p0.2.2.2.2.2.2.2.1,p0.2.2.2.2.2.2.2.2.1,p0.2.2.2.2.2.2.2.2.2.1,p0.2.2.2.2.2.2.2.2.2.2),0))
 ((ix p0.2.2.2.2.1.length t15).bind λj87 =>
 (p0.2.2.2.2.1[j87]?).bind λx_1 =>
 some ((p0.1,p0.2.1,p0.2.2.1,p0.2.2.2.1,p0.2.2.2.2.1.set j87 (x_1.1,x_1.2.1,a3),p0.2.2.2.2.2.1,p0.2.2.2.2.2.2.1,p0.2.2.2.2.2.2.2.1,p0.2.2.2.2.2.2.2.2.1,p0.2.2.2.2.2.2.2.2.2.1,p0.2.2.2.2.2.2.2.2.2.2),0))))
def kw:FL:=(336,⟨[.ptr sX (some true),.val false sH false,.val false sH false,.val false sH false],[.val false sH (some true)],λa=>fV a.1 a.2.1 a.2.2.1 a.2.2.2⟩)::kv
theorem pb:Gd kw:=sI pa 336 Tryz.f336 [] Tryz.func336
def hN (p0:sx) (i1:List Int) (a2:wl):Option (sx×Int) :=
 (at? i1 3).bind λx9 =>
 (cond (x9==1) (some (a2.1 != 4)) (some false)).bind λt17 =>
 (cond t17
 (some true)
 ((cond (!(x9==1)) (some (a2.1 != 2)) (some false)).bind λt25 =>
 some t25)).bind λt26 =>
 cond t26
 (some (p0,1))
 (cond (x9==1)
 (cond (decide ((a2.2.2.1.length:Int)>10))
 (some (p0,2))
 (some ((p0.1,a2.2.2.1,p0.2.2.1,p0.2.2.2.1,p0.2.2.2.2.1,p0.2.2.2.2.2.1,p0.2.2.2.2.2.2.1,p0.2.2.2.2.2.2.2.1,p0.2.2.2.2.2.2.2.2.1,p0.2.2.2.2.2.2.2.2.2.1,p0.2.2.2.2.2.2.2.2.2.2),0)))
 ((at? i1 3).bind λx52 =>
 cond (x52==3)
 ((at? i1 4).bind λx57 =>
 (at? i1 5).bind λx60 =>
 (fV p0 x57 x60 a2.2.1).bind λt64 =>
 some t64)
 ((at? i1 4).bind λx67 =>
 cond (x67==2)
 ((ac a2.2.1 1 1000).bind λt72 =>
 cond (!t72)
 (some (p0,2))
 ((at? i1 5).bind λx79 =>
 (ix p0.2.2.1.length (sy (x79-1))).bind λj84 =>
 (p0.2.2.1[j84]?).bind λx =>
 some ((p0.1,p0.2.1,p0.2.2.1.set j84 (x.1,a2.2.1,x.2.2.1,x.2.2.2.1,x.2.2.2.2.1,x.2.2.2.2.2.1,x.2.2.2.2.2.2.1,x.2.2.2.2.2.2.2),p0.2.2.2.1,p0.2.2.2.2.1,p0.2.2.2.2.2.1,p0.2.2.2.2.2.2.1,p0.2.2.2.2.2.2.2.1,p0.2.2.2.2.2.2.2.2.1,p0.2.2.2.2.2.2.2.2.2.1,p0.2.2.2.2.2.2.2.2.2.2),0)))
 ((at? i1 5).bind λx33 =>
 (ix p0.2.2.2.2.2.1.length (sy (x33-1))).bind λj38 =>
 (p0.2.2.2.2.2.1[j38]?).bind λx_1 =>
 some ((p0.1,p0.2.1,p0.2.2.1,p0.2.2.2.1,p0.2.2.2.2.1,p0.2.2.2.2.2.1.set j38 a2.2.1,p0.2.2.2.2.2.2.1,p0.2.2.2.2.2.2.2.1,p0.2.2.2.2.2.2.2.2.1,p0.2.2.2.2.2.2.2.2.2.1,p0.2.2.2.2.2.2.2.2.2.2),0)))))
def kz:FL:=(281,⟨[.ptr sX (some true),.val false vb false,.val true xB false],[.val false sH (some true)],λa=>hN a.1 a.2.1 a.2.2⟩)::kw
theorem pc:Gd kz:=sI pb 281 Tryz.f281 [] Tryz.func281
def cG (l0:List sD) (tag1:Int) (mac2:Int) (t11:Int):Option (Int⊕(Unit⊕Int)) :=
 cond (decide (t11<(l0.length:Int)))
 ((at? l0 t11).bind λx14 =>
 (cond (x14.1==tag1) (some (x14.2.1==mac2)) (some false)).bind λt25 =>
 cond t25 (some (.inr (.inr t11))) (some (.inl (sy (t11+1)))))
 (some (.inr (.inl ())))
def fW (l0:List sD) (tag1:Int) (mac2:Int):Option Int :=
 (loop (λz=>cG l0 tag1 mac2 z) 0).bind (Sum.elim (λd =>
 some (-1)) (λr=>some r))
def kA:FL:=(337,⟨[.val false (.one (.sl th)) false,.val false sH false,.val false sH false],[.val false sH (some true)],λa=>fW a.1 a.2.1 a.2.2⟩)::kz
theorem pf:Gd kA:=sI pc 337 Tryz.f337 [(0,⟨⟨(11,false,[dI])::us 21 4 [],[]⟩,
 ⟨[],[]⟩,some ⟨[(6,false,[dI])],[]⟩⟩)] Tryz.func337
def fX (b0:sx) (o1:List Int):Option Bool :=
 (aP o1 2 5 ([1]:List Int)).bind λt11 =>
 (cond t11
 (some true)
 ((aP o1 1 (b0.2.2.1.length:Int) ([2,1]:List Int)).bind λt16 =>
 some t16)).bind λt17 =>
 (cond t17
 (some true)
 ((aP o1 1 (b0.2.2.1.length:Int) ([2,3]:List Int)).bind λt22 =>
 some t22)).bind λt23 =>
 cond t23
 (some true)
 ((cond ((o1.length:Int)==7)
 ((cut o1 0 5).bind λt29 =>
 (aF t29 ([1,3,1,4,1]:List Int)).bind λt31 =>
 some t31)
 (some false)).bind λt32 =>
 (cond t32
 ((at? o1 5).bind λx37 =>
 (at? o1 6).bind λx40 =>
 (fW b0.2.2.2.1 x37 x40).bind λt42 =>
 some (decide (t42>=0)))
 (some false)).bind λt44 =>
 some t44)
def kB:FL:=(282,⟨[.val true sX false,.val false vb false],[.val false tK (some true)],λa=>fX a.1 a.2⟩)::kA
theorem pj:Gd kB:=sI pf 282 Tryz.f282 [] Tryz.func282
def cH (b0:sx) (x1:sB):Option (sx×Int) :=
 (fT b0 x1.1).bind λt11 =>
 cond t11
 ((hN b0 x1.1 x1.2).bind λt17 =>
 some t17)
 ((fX b0 x1.1).bind λt24 =>
 cond t24 (some (b0,4)) (some (b0,3)))
def kC:FL:=(171,⟨[.ptr sX (some true),.val true sS false],[.val false sH (some true)],λa=>cH a.1 a.2⟩)::kB
theorem pk:Gd kC:=sI pj 171 Tryz.f171 [] Tryz.func171
def ba (id0:Int) (l1:List Pt) (bits5:Int) (port6:Int):Option ((Int×Int)⊕Int) :=
 (cond (decide (port6<(l1.length:Int))) (some (decide (port6<6))) (some false)).bind λt15 =>
 cond t15
 ((aO id0 l1 port6).bind λt21 =>
 (cond (t21==1) (some true) (some (t21==2))).bind λt27 =>
 cond t27
 ((shl .i64 1 port6).bind λt30 =>
 some (.inl (zZ .i64 bits5 t30,sy (port6+1))))
 (some (.inl (bits5,sy (port6+1)))))
 (some (.inr bits5))
def fY (id0:Int) (l1:List Pt):Option Int :=
 (loop (λz=>ba id0 l1 z.1 z.2) (0,0)).bind λd =>
 some d
def kD:FL:=(283,⟨[.val false sH false,.val false (.one (.sl vc)) false],[.val false sH (some true)],λa=>fY a.1 a.2⟩)::kC
theorem pm:Gd kD:=sI pk 283 Tryz.f283 [(0,⟨⟨[(5,false,[dI]),(6,false,[dI]),(13,false,[.undef]),(14,false,[.undef]),(25,false,[.undef]),(26,false,[.undef])],[]⟩,
 ⟨[(5,false,[dI])],[]⟩,none⟩)] Tryz.func283
def fZ (bits0:Int) (port1:Int):Option Bool :=
 (ac port1 0 62).bind λt6 =>
 (cond t6
 ((shr .i64 bits0 port1).bind λt10 =>
 some ((wh .i64 t10 1)==1))
 (some false)).bind λt13 =>
 some t13
def kE:FL:=(284,⟨[.val false sH false,.val false sH false],[.val false tK (some true)],λa=>fZ a.1 a.2⟩)::kD
theorem po:Gd kE:=sI pm 284 Tryz.f284 [] Tryz.func284
def dN (l0:List sD) (port1:Int) (t10:Int) (out5:List sD):Option ((Int×List sD)⊕(List sD)) :=
 cond (decide (t10<(l0.length:Int)))
 ((at? l0 t10).bind λx12 =>
 (cond x12.2.2.2.2 (some true) (some (x12.2.2.1 != port1))).bind λt21 =>
 cond t21
 ((sT out5 [x12]).bind λzs25 =>
 some (.inl (sy (t10+1),zs25)))
 (some (.inl (sy (t10+1),out5))))
 (some (.inr out5))
def ga (l0:List sD) (port1:Int):Option (List sD) :=
 (loop (λz=>dN l0 port1 z.1 z.2) (0,[])).bind λd =>
 some d
def kF:FL:=(285,⟨[.val false (.one (.sl th)) false,.val false sH false],[.val false (.one (.sl th)) (some true)],λa=>ga a.1 a.2⟩)::kE
theorem pp:Gd kF:=sI po 285 Tryz.f285 [(0,⟨⟨(5,false,[.own 1000000000])::(10,false,[dI])::us 17 4 [],[(1000000000,.root th true)]⟩,
 ⟨[(5,false,[.own 1000000300])],[(1000000300,.root th true)]⟩,none⟩)] Tryz.func285
def gb (b0:sx) (t20:Int) (t26:Int) (b0_1:Int) (b1:List UInt8) (b6:Int) (b7:Int) (b8:Int) (b9:Int) (b10:Int) (b3:List sD):Option ((Int×Int×List UInt8×Int×Int×Int×Int×Int×List sD)⊕(Int×List UInt8×Int×Int×Int×Int×Int×List sD)) :=
 cond (decide (t26<(b0.2.2.1.length:Int)))
 ((fZ t20 t26).bind λt31 =>
 cond (!t31)
 ((ga b3 t26).bind λt39 =>
 some (.inl (sy (t26+1),b0_1,b1,b6,b7,b8,b9,b10,t39)))
 (some (.inl (sy (t26+1),b0_1,b1,b6,b7,b8,b9,b10,b3))))
 (some (.inr (b0_1,b1,b6,b7,b8,b9,b10,b3)))
def bb (b0:sx):Option sx :=
 (aY b0.2.2.2.2.2.2.2.2.2.2).bind λt9 =>
 (fY b0.1 b0.2.2.1).bind λt20 =>
 (loop (λz=>gb b0 t20 z.1 z.2.1 z.2.2.1 z.2.2.2.1 z.2.2.2.2.1 z.2.2.2.2.2.1 z.2.2.2.2.2.2.1 z.2.2.2.2.2.2.2.1 z.2.2.2.2.2.2.2.2) (0,b0.1,b0.2.1,b0.2.2.2.2.2.2.1,b0.2.2.2.2.2.2.2.1,b0.2.2.2.2.2.2.2.2.1,b0.2.2.2.2.2.2.2.2.2.1,t9,b0.2.2.2.1)).bind λd =>
 some (d.1,d.2.1,b0.2.2.1,d.2.2.2.2.2.2.2,b0.2.2.2.2.1,b0.2.2.2.2.2.1,d.2.2.1,d.2.2.2.1,d.2.2.2.2.1,d.2.2.2.2.2.1,d.2.2.2.2.2.2.1)
def kG:FL:=(172,⟨[.ptr sX (some true)],[],λa=>bb a⟩)::kF
theorem pq:Gd kG:=sI pp 172 Tryz.f172 [(0,⟨⟨[(26,false,[dI])],[(1,.box [dI,dS,.same 4,.own 1000000000,.same 6,.same 7,dI,dI,dI,dI,dI]),(1000000000,.root th true)]⟩,
 ⟨[],[(1,.box [dI,dS,.same 4,.own 1000000300,.same 6,.same 7,dI,dI,dI,dI,dI]),(1000000300,.root th true)]⟩,none⟩)] Tryz.func172
def eR (p0:sx) (t25:Int) (x28:sB) (t32:List sB) (t34:Int) (b0_2:Int) (b1_2:List UInt8) (b6_2:Int) (b7_2:Int) (b8_2:Int) (b9_2:Int) (b10_2:Int):Option ((Int×Int×List UInt8×Int×Int×Int×Int×Int)⊕((Int×List UInt8×Int×Int×Int×Int×Int)⊕(Int×Int×Int×List UInt8×Int×Int×Int×Int×Int×List Pt×List sD×List sM×List Int))) :=
 cond (decide (t34<(t32.length:Int)))
 ((at? t32 t34).bind λx36 =>
 (aF x28.1 x36.1).bind λt42 =>
 cond t42
 ((ap p0).bind λt44 =>
 some (.inr (.inr (5,sy (t25+1),t44.1,t44.2.1,t44.2.2.2.2.2.2.1,t44.2.2.2.2.2.2.2.1,t44.2.2.2.2.2.2.2.2.1,t44.2.2.2.2.2.2.2.2.2.1,t44.2.2.2.2.2.2.2.2.2.2,t44.2.2.1,t44.2.2.2.1,t44.2.2.2.2.1,t44.2.2.2.2.2.1))))
 (some (.inl (sy (t34+1),b0_2,b1_2,b6_2,b7_2,b8_2,b9_2,b10_2))))
 (some (.inr (.inl (b0_2,b1_2,b6_2,b7_2,b8_2,b9_2,b10_2))))
def gd (p0:sx) (i1:List sB) (t25:Int) (b0:Int) (b1:List UInt8) (b6:Int) (b7:Int) (b8:Int) (b9:Int) (b10:Int) (b0_1:Int) (b1_1:List UInt8) (b6_1:Int) (b7_1:Int) (b8_1:Int) (b9_1:Int) (b10_1:Int) (b2:List Pt) (b3:List sD) (b4:List sM) (b5:List Int) (b2_1:List Pt) (b3_1:List sD) (b4_1:List sM) (b5_1:List Int):Option ((Int×Int×List UInt8×Int×Int×Int×Int×Int×Int×List UInt8×Int×Int×Int×Int×Int×List Pt×List sD×List sM×List Int×List Pt×List sD×List sM×List Int)⊕((Int×List UInt8×Int×Int×Int×Int×Int×Int×List UInt8×Int×Int×Int×Int×Int×List Pt×List sD×List sM×List Int×List Pt×List sD×List sM×List Int)⊕(Int×Int×Int×List UInt8×Int×Int×Int×Int×Int×List Pt×List sD×List sM×List Int))) :=
 cond (decide (t25<(i1.length:Int)))
 ((at? i1 t25).bind λx28 =>
 (cut i1 0 t25).bind λt32 =>
 (loop (λz=>eR p0 t25 x28 t32 z.1 z.2.1 z.2.2.1 z.2.2.2.1 z.2.2.2.2.1 z.2.2.2.2.2.1 z.2.2.2.2.2.2.1 z.2.2.2.2.2.2.2) (0,b0,b1,b6,b7,b8,b9,b10)).bind (Sum.elim (λd =>
 (cH (b0_1,b1_1,b2_1,b3_1,b4_1,b5_1,b6_1,b7_1,b8_1,b9_1,b10_1) x28).bind λt49 =>
 cond (t49.2 != 0)
 ((ap p0).bind λt53 =>
 some (.inr (.inr (t49.2,sy (t25+1),t53.1,t53.2.1,t53.2.2.2.2.2.2.1,t53.2.2.2.2.2.2.2.1,t53.2.2.2.2.2.2.2.2.1,t53.2.2.2.2.2.2.2.2.2.1,t53.2.2.2.2.2.2.2.2.2.2,t53.2.2.1,t53.2.2.2.1,t53.2.2.2.2.1,t53.2.2.2.2.2.1))))
 (some (.inl (sy (t25+1),d.1,d.2.1,d.2.2.1,d.2.2.2.1,d.2.2.2.2.1,d.2.2.2.2.2.1,d.2.2.2.2.2.2,t49.1.1,t49.1.2.1,t49.1.2.2.2.2.2.2.1,t49.1.2.2.2.2.2.2.2.1,t49.1.2.2.2.2.2.2.2.2.1,t49.1.2.2.2.2.2.2.2.2.2.1,t49.1.2.2.2.2.2.2.2.2.2.2,b2,b3,b4,b5,t49.1.2.2.1,t49.1.2.2.2.1,t49.1.2.2.2.2.1,t49.1.2.2.2.2.2.1)))) (λr=>some (.inr (.inr r)))))
 (some (.inr (.inl (b0,b1,b6,b7,b8,b9,b10,b0_1,b1_1,b6_1,b7_1,b8_1,b9_1,b10_1,b2,b3,b4,b5,b2_1,b3_1,b4_1,b5_1))))
def dO (p0:sx) (i1:List sB):Option (sx×Int×Int) :=
 (ap p0).bind λt14 =>
 cond ((i1.length:Int)==0)
 (some (t14,0,0))
 ((bm p0).bind λt20 =>
 cond (!t20)
 (some (t14,3,1))
 ((loop (λz=>gd p0 i1 z.1 z.2.1 z.2.2.1 z.2.2.2.1 z.2.2.2.2.1 z.2.2.2.2.2.1 z.2.2.2.2.2.2.1 z.2.2.2.2.2.2.2.1 z.2.2.2.2.2.2.2.2.1 z.2.2.2.2.2.2.2.2.2.1 z.2.2.2.2.2.2.2.2.2.2.1 z.2.2.2.2.2.2.2.2.2.2.2.1 z.2.2.2.2.2.2.2.2.2.2.2.2.1 z.2.2.2.2.2.2.2.2.2.2.2.2.2.1 z.2.2.2.2.2.2.2.2.2.2.2.2.2.2.1 z.2.2.2.2.2.2.2.2.2.2.2.2.2.2.2.1 z.2.2.2.2.2.2.2.2.2.2.2.2.2.2.2.2.1 z.2.2.2.2.2.2.2.2.2.2.2.2.2.2.2.2.2.1 z.2.2.2.2.2.2.2.2.2.2.2.2.2.2.2.2.2.2.1 z.2.2.2.2.2.2.2.2.2.2.2.2.2.2.2.2.2.2.2.1 z.2.2.2.2.2.2.2.2.2.2.2.2.2.2.2.2.2.2.2.2.1 z.2.2.2.2.2.2.2.2.2.2.2.2.2.2.2.2.2.2.2.2.2.1 z.2.2.2.2.2.2.2.2.2.2.2.2.2.2.2.2.2.2.2.2.2.2) (0,0,[],0,0,0,0,0,t14.1,t14.2.1,t14.2.2.2.2.2.2.1,t14.2.2.2.2.2.2.2.1,t14.2.2.2.2.2.2.2.2.1,t14.2.2.2.2.2.2.2.2.2.1,t14.2.2.2.2.2.2.2.2.2.2,[],[],[],[],t14.2.2.1,t14.2.2.2.1,t14.2.2.2.2.1,t14.2.2.2.2.2.1)).bind (Sum.elim (λd_1 =>
 (dt d_1.2.2.2.2.2.2.2.2.2.2.2.2.2.2.2.2.2.2.2.2 (d_1.2.2.2.2.2.2.2.2.2.2.2.2.2.2.2.2.2.2.1.length:Int)).bind λt63 =>
 cond (!t63)
 ((ap p0).bind λt66 =>
 some (t66,5,(i1.length:Int)))
 ((bb (d_1.2.2.2.2.2.2.2.1,d_1.2.2.2.2.2.2.2.2.1,d_1.2.2.2.2.2.2.2.2.2.2.2.2.2.2.2.2.2.2.1,d_1.2.2.2.2.2.2.2.2.2.2.2.2.2.2.2.2.2.2.2.1,d_1.2.2.2.2.2.2.2.2.2.2.2.2.2.2.2.2.2.2.2.2.1,d_1.2.2.2.2.2.2.2.2.2.2.2.2.2.2.2.2.2.2.2.2.2,d_1.2.2.2.2.2.2.2.2.2.1,d_1.2.2.2.2.2.2.2.2.2.2.1,d_1.2.2.2.2.2.2.2.2.2.2.2.1,d_1.2.2.2.2.2.2.2.2.2.2.2.2.1,d_1.2.2.2.2.2.2.2.2.2.2.2.2.2.1)).bind λt69 =>
 some (t69,0,0))) (λr_1=>some ((r_1.2.2.1,r_1.2.2.2.1,r_1.2.2.2.2.2.2.2.2.2.1,r_1.2.2.2.2.2.2.2.2.2.2.1,r_1.2.2.2.2.2.2.2.2.2.2.2.1,r_1.2.2.2.2.2.2.2.2.2.2.2.2,r_1.2.2.2.2.1,r_1.2.2.2.2.2.1,r_1.2.2.2.2.2.2.1,r_1.2.2.2.2.2.2.2.1,r_1.2.2.2.2.2.2.2.2.1),r_1.1,r_1.2.1)))))
def kH:FL:=(80,⟨[.val true sX false,.val false (.one (.sl sS)) false],[.val true sX (some true),.val false sH (some true),.val false sH (some true)],λa=>dO a.1 a.2⟩)::kG
theorem pr:Gd kH:=sI pq 80 Tryz.f80 [(0,⟨⟨[(25,false,[dI])],[(2048,.box [dI,dS,.own 1000000000,.own 1000000001,.own 1000000002,.own 1000000003,dI,dI,dI,dI,dI]),(265216,.box [dI,dS,.own 1000000004,.own 1000000005,.own 1000000006,.own 1000000007,dI,dI,dI,dI,dI]),(1000000000,.root vc true),(1000000001,.root th true),(1000000002,.root u0 true),(1000000003,.root sH true),(1000000004,.root vc true),(1000000005,.root th true),(1000000006,.root u0 true),(1000000007,.root sH true)]⟩,
 ⟨[],[(2048,.box [dI,dS,.own 1000000300,.own 1000000301,.own 1000000302,.own 1000000303,dI,dI,dI,dI,dI]),(265216,.box [dI,dS,.own 1000000304,.own 1000000305,.own 1000000306,.own 1000000307,dI,dI,dI,dI,dI]),(1000000300,.root vc true),(1000000301,.root th true),(1000000302,.root u0 true),(1000000303,.root sH true),(1000000304,.root vc true),(1000000305,.root th true),(1000000306,.root u0 true),(1000000307,.root sH true)]⟩,some ⟨[(5,false,[dI]),(6,false,[dI])],[(2048,.box [dI,dS,.own 1000000600,.own 1000000601,.own 1000000602,.own 1000000603,dI,dI,dI,dI,dI]),(1000000600,.root vc true),(1000000601,.root th true),(1000000602,.root u0 true),(1000000603,.root sH true)]⟩⟩),
 (2,⟨⟨[(34,false,[dI])],[(2048,.box [dI,dS,.same 1000000000,.same 1000000001,.same 1000000002,.same 1000000003,dI,dI,dI,dI,dI])]⟩,
 ⟨[],[(2048,.box [dI,dS,.same 1000000000,.same 1000000001,.same 1000000002,.same 1000000003,dI,dI,dI,dI,dI])]⟩,some ⟨[(5,false,[dI]),(6,false,[dI])],[(2048,.box [dI,dS,.own 1000002600,.own 1000002601,.own 1000002602,.own 1000002603,dI,dI,dI,dI,dI]),(1000002600,.root vc true),(1000002601,.root th true),(1000002602,.root u0 true),(1000002603,.root sH true)]⟩⟩)] Tryz.func80
def eS (p0:sx) (i1:tg) (t54:Int) (b0:Int) (b1:Int) (b2:Int) (b3:Int) (b4:List sB):Option ((Int×Int×Int×Int×Int×List sB)⊕(Int×Int×Int×Int×List sB)) :=
 cond (decide (t54<(i1.2.2.2.2.length:Int)))
 ((at? i1.2.2.2.2 t54).bind λx56 =>
 (aX x56.1).bind λt62 =>
 (bZ p0 x56.1).bind λt66 =>
 (sT b4 [(t62,t66.1,t66.2.1,t66.2.2.1,t66.2.2.2)]).bind λzs69 =>
 some (.inl (sy (t54+1),b0,b1,b2,b3,zs69)))
 (some (.inr (b0,b1,b2,b3,b4)))
def kI (i1:tg) (b0_2:Int) (b1_2:List UInt8) (b6:Int) (b7:Int) (b8:Int) (b9:Int) (b10:Int) (b0_3:Int) (b1_3:Int) (b2_2:Int) (b3_2:Int) (b0_4:Int) (b1_4:List UInt8) (b6_1:Int) (b7_1:Int) (b8_1:Int) (b9_1:Int) (b10_1:Int) (b0_5:Int) (b1_5:Int) (b2_3:Int) (b3_3:Int) (b4_2:List sB) (b2_4:List Pt) (b3_4:List sD) (b4_3:List sM) (b5:List Int) (b4_4:List sB) (b2_5:List Pt) (b3_5:List sD) (b4_5:List sM) (b5_1:List Int):Option ((Int×List UInt8×Int×Int×Int×Int×Int×Int×Int×Int×Int×Int×List UInt8×Int×Int×Int×Int×Int×Int×Int×Int×Int×List sB×List Pt×List sD×List sM×List Int×List sB×List Pt×List sD×List sM×List Int)⊕((Int×List UInt8×Int×Int×Int×Int×Int×Int×Int×Int×Int×Int×List UInt8×Int×Int×Int×Int×Int×Int×Int×Int×Int×List sB×List Pt×List sD×List sM×List Int×List sB×List Pt×List sD×List sM×List Int)⊕(Bool×Int×List UInt8×Int×Int×Int×Int×Int×Int×Int×Int×Int×List sB×List Pt×List sD×List sM×List Int))) :=
 (cond (i1.1==165) (some (decide ((b4_2.length:Int)>0))) (some false)).bind λt109 =>
 cond t109
 ((cut b4_2 0 (sy ((b4_2.length:Int)-1))).bind λt116 =>
 (aN (b0_5,b1_5,b2_3,b3_3,t116)).bind λt119 =>
 cond t119
 (some (.inr (.inr (true,b0_4,b1_4,b6_1,b7_1,b8_1,b9_1,b10_1,b0_5,b1_5,b2_3,b3_3,t116,b2_5,b3_5,b4_5,b5_1))))
 (some (.inl (b0_2,b1_2,b6,b7,b8,b9,b10,b0_3,b1_3,b2_2,b3_2,b0_4,b1_4,b6_1,b7_1,b8_1,b9_1,b10_1,b0_5,b1_5,b2_3,b3_3,t116,b2_4,b3_4,b4_3,b5,b4_4,b2_5,b3_5,b4_5,b5_1))))
 (some (.inr (.inl (b0_2,b1_2,b6,b7,b8,b9,b10,b0_3,b1_3,b2_2,b3_2,b0_4,b1_4,b6_1,b7_1,b8_1,b9_1,b10_1,b0_5,b1_5,b2_3,b3_3,b4_2,b2_4,b3_4,b4_3,b5,b4_4,b2_5,b3_5,b4_5,b5_1))))
def eT (p0:sx) (i1:tg) (t77:Int) (b0_10:Int) (b1_10:Int) (b2_10:Int) (b3_10:Int) (b4_10:List sB):Option ((Int×Int×Int×Int×Int×List sB)⊕(Int×Int×Int×Int×List sB)) :=
 cond (decide (t77<(i1.2.2.2.2.length:Int)))
 ((at? i1.2.2.2.2 t77).bind λx79 =>
 (bt p0 x79.1).bind λt86 =>
 (sT b4_10 [t86]).bind λzs88 =>
 some (.inl (sy (t77+1),b0_10,b1_10,b2_10,b3_10,zs88)))
 (some (.inr (b0_10,b1_10,b2_10,b3_10,b4_10)))
def kJ (i1:tg) (b0_12:Int) (b1_12:List UInt8) (b6_4:Int) (b7_4:Int) (b8_4:Int) (b9_4:Int) (b10_4:Int) (b0_13:Int) (b1_13:Int) (b2_12:Int) (b3_12:Int) (b0_14:Int) (b1_14:List UInt8) (b6_5:Int) (b7_5:Int) (b8_5:Int) (b9_5:Int) (b10_5:Int) (b0_15:Int) (b1_15:Int) (b2_13:Int) (b3_13:Int) (b4_12:List sB) (b2_14:List Pt) (b3_14:List sD) (b4_13:List sM) (b5_4:List Int) (b4_14:List sB) (b2_15:List Pt) (b3_15:List sD) (b4_15:List sM) (b5_5:List Int):Option ((Int×List UInt8×Int×Int×Int×Int×Int×Int×Int×Int×Int×Int×List UInt8×Int×Int×Int×Int×Int×Int×Int×Int×Int×List sB×List Pt×List sD×List sM×List Int×List sB×List Pt×List sD×List sM×List Int)⊕((Int×List UInt8×Int×Int×Int×Int×Int×Int×Int×Int×Int×Int×List UInt8×Int×Int×Int×Int×Int×Int×Int×Int×Int×List sB×List Pt×List sD×List sM×List Int×List sB×List Pt×List sD×List sM×List Int)⊕(Bool×Int×List UInt8×Int×Int×Int×Int×Int×Int×Int×Int×Int×List sB×List Pt×List sD×List sM×List Int))) :=
 (cond (i1.1==165) (some (decide ((b4_12.length:Int)>0))) (some false)).bind λt109_1 =>
 cond t109_1
 ((cut b4_12 0 (sy ((b4_12.length:Int)-1))).bind λt116_1 =>
 (aN (b0_15,b1_15,b2_13,b3_13,t116_1)).bind λt119_1 =>
 cond t119_1
 (some (.inr (.inr (true,b0_14,b1_14,b6_5,b7_5,b8_5,b9_5,b10_5,b0_15,b1_15,b2_13,b3_13,t116_1,b2_15,b3_15,b4_15,b5_5))))
 (some (.inl (b0_12,b1_12,b6_4,b7_4,b8_4,b9_4,b10_4,b0_13,b1_13,b2_12,b3_12,b0_14,b1_14,b6_5,b7_5,b8_5,b9_5,b10_5,b0_15,b1_15,b2_13,b3_13,t116_1,b2_14,b3_14,b4_13,b5_4,b4_14,b2_15,b3_15,b4_15,b5_5))))
 (some (.inr (.inl (b0_12,b1_12,b6_4,b7_4,b8_4,b9_4,b10_4,b0_13,b1_13,b2_12,b3_12,b0_14,b1_14,b6_5,b7_5,b8_5,b9_5,b10_5,b0_15,b1_15,b2_13,b3_13,b4_12,b2_14,b3_14,b4_13,b5_4,b4_14,b2_15,b3_15,b4_15,b5_5))))
def eU (i1:tg) (b0_20:Int) (b1_20:List UInt8) (b6_8:Int) (b7_8:Int) (b8_8:Int) (b9_8:Int) (b10_8:Int) (b0_21:Int) (b1_21:Int) (b2_20:Int) (b3_20:Int) (b0_22:Int) (b1_22:List UInt8) (b6_9:Int) (b7_9:Int) (b8_9:Int) (b9_9:Int) (b10_9:Int) (b0_23:Int) (b1_23:Int) (b2_21:Int) (b3_21:Int) (b4_20:List sB) (b2_22:List Pt) (b3_22:List sD) (b4_21:List sM) (b5_8:List Int) (b4_22:List sB) (b2_23:List Pt) (b3_23:List sD) (b4_23:List sM) (b5_9:List Int):Option ((Int×List UInt8×Int×Int×Int×Int×Int×Int×Int×Int×Int×Int×List UInt8×Int×Int×Int×Int×Int×Int×Int×Int×Int×List sB×List Pt×List sD×List sM×List Int×List sB×List Pt×List sD×List sM×List Int)⊕((Int×List UInt8×Int×Int×Int×Int×Int×Int×Int×Int×Int×Int×List UInt8×Int×Int×Int×Int×Int×Int×Int×Int×Int×List sB×List Pt×List sD×List sM×List Int×List sB×List Pt×List sD×List sM×List Int)⊕(Bool×Int×List UInt8×Int×Int×Int×Int×Int×Int×Int×Int×Int×List sB×List Pt×List sD×List sM×List Int))) :=
 (cond (i1.1==165) (some (decide ((b4_20.length:Int)>0))) (some false)).bind λt109_2 =>
 cond t109_2
 ((cut b4_20 0 (sy ((b4_20.length:Int)-1))).bind λt116_2 =>
 (aN (b0_23,b1_23,b2_21,b3_21,t116_2)).bind λt119_2 =>
 cond t119_2
 (some (.inr (.inr (true,b0_22,b1_22,b6_9,b7_9,b8_9,b9_9,b10_9,b0_23,b1_23,b2_21,b3_21,t116_2,b2_23,b3_23,b4_23,b5_9))))
 (some (.inl (b0_20,b1_20,b6_8,b7_8,b8_8,b9_8,b10_8,b0_21,b1_21,b2_20,b3_20,b0_22,b1_22,b6_9,b7_9,b8_9,b9_9,b10_9,b0_23,b1_23,b2_21,b3_21,t116_2,b2_22,b3_22,b4_21,b5_8,b4_22,b2_23,b3_23,b4_23,b5_9))))
 (some (.inr (.inl (b0_20,b1_20,b6_8,b7_8,b8_8,b9_8,b10_8,b0_21,b1_21,b2_20,b3_20,b0_22,b1_22,b6_9,b7_9,b8_9,b9_9,b10_9,b0_23,b1_23,b2_21,b3_21,b4_20,b2_22,b3_22,b4_21,b5_8,b4_22,b2_23,b3_23,b4_23,b5_9))))
def kK (i1:tg) (b0_28:Int) (b1_28:List UInt8) (b6_12:Int) (b7_12:Int) (b8_12:Int) (b9_12:Int) (b10_12:Int) (b0_29:Int) (b1_29:Int) (b2_28:Int) (b3_28:Int) (b0_30:Int) (b1_30:List UInt8) (b6_13:Int) (b7_13:Int) (b8_13:Int) (b9_13:Int) (b10_13:Int) (b0_31:Int) (b1_31:Int) (b2_29:Int) (b3_29:Int) (b4_28:List sB) (b2_30:List Pt) (b3_30:List sD) (b4_29:List sM) (b5_12:List Int) (b4_30:List sB) (b2_31:List Pt) (b3_31:List sD) (b4_31:List sM) (b5_13:List Int):Option ((Int×List UInt8×Int×Int×Int×Int×Int×Int×Int×Int×Int×Int×List UInt8×Int×Int×Int×Int×Int×Int×Int×Int×Int×List sB×List Pt×List sD×List sM×List Int×List sB×List Pt×List sD×List sM×List Int)⊕((Int×List UInt8×Int×Int×Int×Int×Int×Int×Int×Int×Int×Int×List UInt8×Int×Int×Int×Int×Int×Int×Int×Int×Int×List sB×List Pt×List sD×List sM×List Int×List sB×List Pt×List sD×List sM×List Int)⊕(Bool×Int×List UInt8×Int×Int×Int×Int×Int×Int×Int×Int×Int×List sB×List Pt×List sD×List sM×List Int))) :=
 (cond (i1.1==165) (some (decide ((b4_28.length:Int)>0))) (some false)).bind λt109_3 =>
 cond t109_3
 ((cut b4_28 0 (sy ((b4_28.length:Int)-1))).bind λt116_3 =>
 (aN (b0_31,b1_31,b2_29,b3_29,t116_3)).bind λt119_3 =>
 cond t119_3
 (some (.inr (.inr (true,b0_30,b1_30,b6_13,b7_13,b8_13,b9_13,b10_13,b0_31,b1_31,b2_29,b3_29,t116_3,b2_31,b3_31,b4_31,b5_13))))
 (some (.inl (b0_28,b1_28,b6_12,b7_12,b8_12,b9_12,b10_12,b0_29,b1_29,b2_28,b3_28,b0_30,b1_30,b6_13,b7_13,b8_13,b9_13,b10_13,b0_31,b1_31,b2_29,b3_29,t116_3,b2_30,b3_30,b4_29,b5_12,b4_30,b2_31,b3_31,b4_31,b5_13))))
 (some (.inr (.inl (b0_28,b1_28,b6_12,b7_12,b8_12,b9_12,b10_12,b0_29,b1_29,b2_28,b3_28,b0_30,b1_30,b6_13,b7_13,b8_13,b9_13,b10_13,b0_31,b1_31,b2_29,b3_29,b4_28,b2_30,b3_30,b4_29,b5_12,b4_30,b2_31,b3_31,b4_31,b5_13))))
def cI (p0:sx) (i1:tg):Option (sx×tg×Bool) :=
 (ap p0).bind λt14 =>
 (bm p0).bind λt16 =>
 (cond (!t16)
 (some true)
 ((cw i1).bind λt20 =>
 some (!t20))).bind λt22 =>
 (cond t22 (some true) (some (i1.1==162))).bind λt27 =>
 cond t27
 (some (t14,(0,0,0,0,[]),false))
 (cond (i1.1==160)
 ((loop (λz=>eS p0 i1 z.1 z.2.1 z.2.2.1 z.2.2.2.1 z.2.2.2.2.1 z.2.2.2.2.2) (0,162,i1.2.1,0,0,[])).bind λd =>
 (aN d).bind λt98 =>
 cond t98
 (some (t14,d,true))
 ((loop (λz=>kI i1 z.1 z.2.1 z.2.2.1 z.2.2.2.1 z.2.2.2.2.1 z.2.2.2.2.2.1 z.2.2.2.2.2.2.1 z.2.2.2.2.2.2.2.1 z.2.2.2.2.2.2.2.2.1 z.2.2.2.2.2.2.2.2.2.1 z.2.2.2.2.2.2.2.2.2.2.1 z.2.2.2.2.2.2.2.2.2.2.2.1 z.2.2.2.2.2.2.2.2.2.2.2.2.1 z.2.2.2.2.2.2.2.2.2.2.2.2.2.1 z.2.2.2.2.2.2.2.2.2.2.2.2.2.2.1 z.2.2.2.2.2.2.2.2.2.2.2.2.2.2.2.1 z.2.2.2.2.2.2.2.2.2.2.2.2.2.2.2.2.1 z.2.2.2.2.2.2.2.2.2.2.2.2.2.2.2.2.2.1 z.2.2.2.2.2.2.2.2.2.2.2.2.2.2.2.2.2.2.1 z.2.2.2.2.2.2.2.2.2.2.2.2.2.2.2.2.2.2.2.1 z.2.2.2.2.2.2.2.2.2.2.2.2.2.2.2.2.2.2.2.2.1 z.2.2.2.2.2.2.2.2.2.2.2.2.2.2.2.2.2.2.2.2.2.1 z.2.2.2.2.2.2.2.2.2.2.2.2.2.2.2.2.2.2.2.2.2.2.1 z.2.2.2.2.2.2.2.2.2.2.2.2.2.2.2.2.2.2.2.2.2.2.2.1 z.2.2.2.2.2.2.2.2.2.2.2.2.2.2.2.2.2.2.2.2.2.2.2.2.1 z.2.2.2.2.2.2.2.2.2.2.2.2.2.2.2.2.2.2.2.2.2.2.2.2.2.1 z.2.2.2.2.2.2.2.2.2.2.2.2.2.2.2.2.2.2.2.2.2.2.2.2.2.2.1 z.2.2.2.2.2.2.2.2.2.2.2.2.2.2.2.2.2.2.2.2.2.2.2.2.2.2.2.1 z.2.2.2.2.2.2.2.2.2.2.2.2.2.2.2.2.2.2.2.2.2.2.2.2.2.2.2.2.1 z.2.2.2.2.2.2.2.2.2.2.2.2.2.2.2.2.2.2.2.2.2.2.2.2.2.2.2.2.2.1 z.2.2.2.2.2.2.2.2.2.2.2.2.2.2.2.2.2.2.2.2.2.2.2.2.2.2.2.2.2.2.1 z.2.2.2.2.2.2.2.2.2.2.2.2.2.2.2.2.2.2.2.2.2.2.2.2.2.2.2.2.2.2.2) (0,[],0,0,0,0,0,0,0,0,0,t14.1,t14.2.1,t14.2.2.2.2.2.2.1,t14.2.2.2.2.2.2.2.1,t14.2.2.2.2.2.2.2.2.1,t14.2.2.2.2.2.2.2.2.2.1,t14.2.2.2.2.2.2.2.2.2.2,d.1,d.2.1,d.2.2.1,d.2.2.2.1,d.2.2.2.2,[],[],[],[],[],t14.2.2.1,t14.2.2.2.1,t14.2.2.2.2.1,t14.2.2.2.2.2.1)).bind (Sum.elim (λd_1 =>
 (ap p0).bind λt123 =>
 some (t123,(162,i1.2.1,7,0,[]),true)) (λr=>some ((r.2.1,r.2.2.1,r.2.2.2.2.2.2.2.2.2.2.2.2.2.1,r.2.2.2.2.2.2.2.2.2.2.2.2.2.2.1,r.2.2.2.2.2.2.2.2.2.2.2.2.2.2.2.1,r.2.2.2.2.2.2.2.2.2.2.2.2.2.2.2.2,r.2.2.2.1,r.2.2.2.2.1,r.2.2.2.2.2.1,r.2.2.2.2.2.2.1,r.2.2.2.2.2.2.2.1),(r.2.2.2.2.2.2.2.2.1,r.2.2.2.2.2.2.2.2.2.1,r.2.2.2.2.2.2.2.2.2.2.1,r.2.2.2.2.2.2.2.2.2.2.2.1,r.2.2.2.2.2.2.2.2.2.2.2.2.1),r.1)))))
 (cond (i1.1==161)
 ((loop (λz=>eT p0 i1 z.1 z.2.1 z.2.2.1 z.2.2.2.1 z.2.2.2.2.1 z.2.2.2.2.2) (0,162,i1.2.1,0,0,[])).bind λd_2 =>
 (aN d_2).bind λt98_1 =>
 cond t98_1
 (some (t14,d_2,true))
 ((loop (λz=>kJ i1 z.1 z.2.1 z.2.2.1 z.2.2.2.1 z.2.2.2.2.1 z.2.2.2.2.2.1 z.2.2.2.2.2.2.1 z.2.2.2.2.2.2.2.1 z.2.2.2.2.2.2.2.2.1 z.2.2.2.2.2.2.2.2.2.1 z.2.2.2.2.2.2.2.2.2.2.1 z.2.2.2.2.2.2.2.2.2.2.2.1 z.2.2.2.2.2.2.2.2.2.2.2.2.1 z.2.2.2.2.2.2.2.2.2.2.2.2.2.1 z.2.2.2.2.2.2.2.2.2.2.2.2.2.2.1 z.2.2.2.2.2.2.2.2.2.2.2.2.2.2.2.1 z.2.2.2.2.2.2.2.2.2.2.2.2.2.2.2.2.1 z.2.2.2.2.2.2.2.2.2.2.2.2.2.2.2.2.2.1 z.2.2.2.2.2.2.2.2.2.2.2.2.2.2.2.2.2.2.1 z.2.2.2.2.2.2.2.2.2.2.2.2.2.2.2.2.2.2.2.1 z.2.2.2.2.2.2.2.2.2.2.2.2.2.2.2.2.2.2.2.2.1 z.2.2.2.2.2.2.2.2.2.2.2.2.2.2.2.2.2.2.2.2.2.1 z.2.2.2.2.2.2.2.2.2.2.2.2.2.2.2.2.2.2.2.2.2.2.1 z.2.2.2.2.2.2.2.2.2.2.2.2.2.2.2.2.2.2.2.2.2.2.2.1 z.2.2.2.2.2.2.2.2.2.2.2.2.2.2.2.2.2.2.2.2.2.2.2.2.1 z.2.2.2.2.2.2.2.2.2.2.2.2.2.2.2.2.2.2.2.2.2.2.2.2.2.1 z.2.2.2.2.2.2.2.2.2.2.2.2.2.2.2.2.2.2.2.2.2.2.2.2.2.2.1 z.2.2.2.2.2.2.2.2.2.2.2.2.2.2.2.2.2.2.2.2.2.2.2.2.2.2.2.1 z.2.2.2.2.2.2.2.2.2.2.2.2.2.2.2.2.2.2.2.2.2.2.2.2.2.2.2.2.1 z.2.2.2.2.2.2.2.2.2.2.2.2.2.2.2.2.2.2.2.2.2.2.2.2.2.2.2.2.2.1 z.2.2.2.2.2.2.2.2.2.2.2.2.2.2.2.2.2.2.2.2.2.2.2.2.2.2.2.2.2.2.1 z.2.2.2.2.2.2.2.2.2.2.2.2.2.2.2.2.2.2.2.2.2.2.2.2.2.2.2.2.2.2.2) (0,[],0,0,0,0,0,0,0,0,0,t14.1,t14.2.1,t14.2.2.2.2.2.2.1,t14.2.2.2.2.2.2.2.1,t14.2.2.2.2.2.2.2.2.1,t14.2.2.2.2.2.2.2.2.2.1,t14.2.2.2.2.2.2.2.2.2.2,d_2.1,d_2.2.1,d_2.2.2.1,d_2.2.2.2.1,d_2.2.2.2.2,[],[],[],[],[],t14.2.2.1,t14.2.2.2.1,t14.2.2.2.2.1,t14.2.2.2.2.2.1)).bind (Sum.elim (λd_3 =>
 (ap p0).bind λt123_1 =>
 some (t123_1,(162,i1.2.1,7,0,[]),true)) (λr_1=>some ((r_1.2.1,r_1.2.2.1,r_1.2.2.2.2.2.2.2.2.2.2.2.2.2.1,r_1.2.2.2.2.2.2.2.2.2.2.2.2.2.2.1,r_1.2.2.2.2.2.2.2.2.2.2.2.2.2.2.2.1,r_1.2.2.2.2.2.2.2.2.2.2.2.2.2.2.2.2,r_1.2.2.2.1,r_1.2.2.2.2.1,r_1.2.2.2.2.2.1,r_1.2.2.2.2.2.2.1,r_1.2.2.2.2.2.2.2.1),(r_1.2.2.2.2.2.2.2.2.1,r_1.2.2.2.2.2.2.2.2.2.1,r_1.2.2.2.2.2.2.2.2.2.2.1,r_1.2.2.2.2.2.2.2.2.2.2.2.1,r_1.2.2.2.2.2.2.2.2.2.2.2.2.1),r_1.1)))))
 (cond (i1.1==165)
 ((fS p0 i1).bind λt95 =>
 (aN (162,i1.2.1,0,0,t95)).bind λt98_2 =>
 cond t98_2
 (some (t14,(162,i1.2.1,0,0,t95),true))
 ((loop (λz=>eU i1 z.1 z.2.1 z.2.2.1 z.2.2.2.1 z.2.2.2.2.1 z.2.2.2.2.2.1 z.2.2.2.2.2.2.1 z.2.2.2.2.2.2.2.1 z.2.2.2.2.2.2.2.2.1 z.2.2.2.2.2.2.2.2.2.1 z.2.2.2.2.2.2.2.2.2.2.1 z.2.2.2.2.2.2.2.2.2.2.2.1 z.2.2.2.2.2.2.2.2.2.2.2.2.1 z.2.2.2.2.2.2.2.2.2.2.2.2.2.1 z.2.2.2.2.2.2.2.2.2.2.2.2.2.2.1 z.2.2.2.2.2.2.2.2.2.2.2.2.2.2.2.1 z.2.2.2.2.2.2.2.2.2.2.2.2.2.2.2.2.1 z.2.2.2.2.2.2.2.2.2.2.2.2.2.2.2.2.2.1 z.2.2.2.2.2.2.2.2.2.2.2.2.2.2.2.2.2.2.1 z.2.2.2.2.2.2.2.2.2.2.2.2.2.2.2.2.2.2.2.1 z.2.2.2.2.2.2.2.2.2.2.2.2.2.2.2.2.2.2.2.2.1 z.2.2.2.2.2.2.2.2.2.2.2.2.2.2.2.2.2.2.2.2.2.1 z.2.2.2.2.2.2.2.2.2.2.2.2.2.2.2.2.2.2.2.2.2.2.1 z.2.2.2.2.2.2.2.2.2.2.2.2.2.2.2.2.2.2.2.2.2.2.2.1 z.2.2.2.2.2.2.2.2.2.2.2.2.2.2.2.2.2.2.2.2.2.2.2.2.1 z.2.2.2.2.2.2.2.2.2.2.2.2.2.2.2.2.2.2.2.2.2.2.2.2.2.1 z.2.2.2.2.2.2.2.2.2.2.2.2.2.2.2.2.2.2.2.2.2.2.2.2.2.2.1 z.2.2.2.2.2.2.2.2.2.2.2.2.2.2.2.2.2.2.2.2.2.2.2.2.2.2.2.1 z.2.2.2.2.2.2.2.2.2.2.2.2.2.2.2.2.2.2.2.2.2.2.2.2.2.2.2.2.1 z.2.2.2.2.2.2.2.2.2.2.2.2.2.2.2.2.2.2.2.2.2.2.2.2.2.2.2.2.2.1 z.2.2.2.2.2.2.2.2.2.2.2.2.2.2.2.2.2.2.2.2.2.2.2.2.2.2.2.2.2.2.1 z.2.2.2.2.2.2.2.2.2.2.2.2.2.2.2.2.2.2.2.2.2.2.2.2.2.2.2.2.2.2.2) (0,[],0,0,0,0,0,0,0,0,0,t14.1,t14.2.1,t14.2.2.2.2.2.2.1,t14.2.2.2.2.2.2.2.1,t14.2.2.2.2.2.2.2.2.1,t14.2.2.2.2.2.2.2.2.2.1,t14.2.2.2.2.2.2.2.2.2.2,162,i1.2.1,0,0,t95,[],[],[],[],[],t14.2.2.1,t14.2.2.2.1,t14.2.2.2.2.1,t14.2.2.2.2.2.1)).bind (Sum.elim (λd_4 =>
 (ap p0).bind λt123_2 =>
 some (t123_2,(162,i1.2.1,7,0,[]),true)) (λr_2=>some ((r_2.2.1,r_2.2.2.1,r_2.2.2.2.2.2.2.2.2.2.2.2.2.2.1,r_2.2.2.2.2.2.2.2.2.2.2.2.2.2.2.1,r_2.2.2.2.2.2.2.2.2.2.2.2.2.2.2.2.1,r_2.2.2.2.2.2.2.2.2.2.2.2.2.2.2.2.2,r_2.2.2.2.1,r_2.2.2.2.2.1,r_2.2.2.2.2.2.1,r_2.2.2.2.2.2.2.1,r_2.2.2.2.2.2.2.2.1),(r_2.2.2.2.2.2.2.2.2.1,r_2.2.2.2.2.2.2.2.2.2.1,r_2.2.2.2.2.2.2.2.2.2.2.1,r_2.2.2.2.2.2.2.2.2.2.2.2.1,r_2.2.2.2.2.2.2.2.2.2.2.2.2.1),r_2.1)))))
 ((dO p0 i1.2.2.2.2).bind λt39 =>
 (dx i1.2.2.2.2).bind λt47 =>
 (aN (162,i1.2.1,t39.2.1,t39.2.2,t47)).bind λt98_3 =>
 cond t98_3
 (some (t39.1,(162,i1.2.1,t39.2.1,t39.2.2,t47),true))
 ((loop (λz=>kK i1 z.1 z.2.1 z.2.2.1 z.2.2.2.1 z.2.2.2.2.1 z.2.2.2.2.2.1 z.2.2.2.2.2.2.1 z.2.2.2.2.2.2.2.1 z.2.2.2.2.2.2.2.2.1 z.2.2.2.2.2.2.2.2.2.1 z.2.2.2.2.2.2.2.2.2.2.1 z.2.2.2.2.2.2.2.2.2.2.2.1 z.2.2.2.2.2.2.2.2.2.2.2.2.1 z.2.2.2.2.2.2.2.2.2.2.2.2.2.1 z.2.2.2.2.2.2.2.2.2.2.2.2.2.2.1 z.2.2.2.2.2.2.2.2.2.2.2.2.2.2.2.1 z.2.2.2.2.2.2.2.2.2.2.2.2.2.2.2.2.1 z.2.2.2.2.2.2.2.2.2.2.2.2.2.2.2.2.2.1 z.2.2.2.2.2.2.2.2.2.2.2.2.2.2.2.2.2.2.1 z.2.2.2.2.2.2.2.2.2.2.2.2.2.2.2.2.2.2.2.1 z.2.2.2.2.2.2.2.2.2.2.2.2.2.2.2.2.2.2.2.2.1 z.2.2.2.2.2.2.2.2.2.2.2.2.2.2.2.2.2.2.2.2.2.1 z.2.2.2.2.2.2.2.2.2.2.2.2.2.2.2.2.2.2.2.2.2.2.1 z.2.2.2.2.2.2.2.2.2.2.2.2.2.2.2.2.2.2.2.2.2.2.2.1 z.2.2.2.2.2.2.2.2.2.2.2.2.2.2.2.2.2.2.2.2.2.2.2.2.1 z.2.2.2.2.2.2.2.2.2.2.2.2.2.2.2.2.2.2.2.2.2.2.2.2.2.1 z.2.2.2.2.2.2.2.2.2.2.2.2.2.2.2.2.2.2.2.2.2.2.2.2.2.2.1 z.2.2.2.2.2.2.2.2.2.2.2.2.2.2.2.2.2.2.2.2.2.2.2.2.2.2.2.1 z.2.2.2.2.2.2.2.2.2.2.2.2.2.2.2.2.2.2.2.2.2.2.2.2.2.2.2.2.1 z.2.2.2.2.2.2.2.2.2.2.2.2.2.2.2.2.2.2.2.2.2.2.2.2.2.2.2.2.2.1 z.2.2.2.2.2.2.2.2.2.2.2.2.2.2.2.2.2.2.2.2.2.2.2.2.2.2.2.2.2.2.1 z.2.2.2.2.2.2.2.2.2.2.2.2.2.2.2.2.2.2.2.2.2.2.2.2.2.2.2.2.2.2.2) (0,[],0,0,0,0,0,0,0,0,0,t39.1.1,t39.1.2.1,t39.1.2.2.2.2.2.2.1,t39.1.2.2.2.2.2.2.2.1,t39.1.2.2.2.2.2.2.2.2.1,t39.1.2.2.2.2.2.2.2.2.2.1,t39.1.2.2.2.2.2.2.2.2.2.2,162,i1.2.1,t39.2.1,t39.2.2,t47,[],[],[],[],[],t39.1.2.2.1,t39.1.2.2.2.1,t39.1.2.2.2.2.1,t39.1.2.2.2.2.2.1)).bind (Sum.elim (λd_5 =>
 (ap p0).bind λt123_3 =>
 some (t123_3,(162,i1.2.1,7,0,[]),true)) (λr_3=>some ((r_3.2.1,r_3.2.2.1,r_3.2.2.2.2.2.2.2.2.2.2.2.2.2.1,r_3.2.2.2.2.2.2.2.2.2.2.2.2.2.2.1,r_3.2.2.2.2.2.2.2.2.2.2.2.2.2.2.2.1,r_3.2.2.2.2.2.2.2.2.2.2.2.2.2.2.2.2,r_3.2.2.2.1,r_3.2.2.2.2.1,r_3.2.2.2.2.2.1,r_3.2.2.2.2.2.2.1,r_3.2.2.2.2.2.2.2.1),(r_3.2.2.2.2.2.2.2.2.1,r_3.2.2.2.2.2.2.2.2.2.1,r_3.2.2.2.2.2.2.2.2.2.2.1,r_3.2.2.2.2.2.2.2.2.2.2.2.1,r_3.2.2.2.2.2.2.2.2.2.2.2.2.1),r_3.1))))))))
def kL:FL:=(13,⟨[.val true sX false,.val true uN false],[.val true sX (some true),.val true uN none,.val false tK (some true)],λa=>cI a.1 a.2⟩)::kH
theorem pu:Gd kL:=sI pr 13 Tryz.f13 [(1,⟨⟨[(54,false,[dI])],[(1052672,.box [dI,dI,dI,dI,.own 1000001000]),(1000001000,.root sS false)]⟩,
 ⟨[],[(1052672,.box [dI,dI,dI,dI,.own 1000001300]),(1000001300,.root sS false)]⟩,none⟩),
 (3,⟨⟨[(77,false,[dI])],[(1052672,.box [dI,dI,dI,dI,.own 1000003000]),(1000003000,.root sS false)]⟩,
 ⟨[],[(1052672,.box [dI,dI,dI,dI,.own 1000003300]),(1000003300,.root sS false)]⟩,none⟩),
 (5,⟨⟨us 105 4 [],[(3072,.box [dI,dS,.own 1000005000,.own 1000005001,.own 1000005002,.own 1000005003,dI,dI,dI,dI,dI]),(4096,.box [dI,dI,dI,dI,.own 1000005004]),(265216,.box [dI,dS,.own 1000005005,.own 1000005006,.own 1000005007,.own 1000005008,dI,dI,dI,dI,dI]),(1052672,.box [dI,dI,dI,dI,.dat (.sl sS)]),(1000005000,.root vc true),(1000005001,.root th true),(1000005002,.root u0 true),(1000005003,.root sH true),(1000005004,.root sS true),(1000005005,.root vc true),(1000005006,.root th true),(1000005007,.root u0 true),(1000005008,.root sH true)]⟩,
 ⟨[],[(3072,.box [dI,dS,.own 1000005300,.own 1000005301,.own 1000005302,.own 1000005303,dI,dI,dI,dI,dI]),(4096,.box [dI,dI,dI,dI,.own 1000005304]),(265216,.box [dI,dS,.own 1000005305,.own 1000005306,.own 1000005307,.own 1000005308,dI,dI,dI,dI,dI]),(1052672,.box [dI,dI,dI,dI,.dat (.sl sS)]),(1000005300,.root vc true),(1000005301,.root th true),(1000005302,.root u0 true),(1000005303,.root sH true),(1000005304,.root sS true),(1000005305,.root vc true),(1000005306,.root th true),(1000005307,.root u0 true),(1000005308,.root sH true)]⟩,some ⟨[(6,false,[dB])],[(3072,.box [dI,dS,.own 1000005600,.own 1000005601,.own 1000005602,.own 1000005603,dI,dI,dI,dI,dI]),(4096,.box [dI,dI,dI,dI,.dat (.sl sS)]),(1000005600,.root vc true),(1000005601,.root th true),(1000005602,.root u0 true),(1000005603,.root sH true)]⟩⟩)] Tryz.func13
def eV (p0:tg):Option tg :=
 (dx p0.2.2.2.2).bind λt8 =>
 (aN (162,p0.2.1,6,1,t8)).bind λt11 =>
 cond (!t11) (some (162,p0.2.1,7,0,[])) (some (162,p0.2.1,6,1,t8))
def kM:FL:=(315,⟨[.val true uN false],[.val true uN (some true)],λa=>eV a⟩)::kL
theorem pv:Gd kM:=sI pu 315 Tryz.f315 [] Tryz.func315
def eW (p0:sL) (i1:Int):Option (sL×List vT) :=
 (ix p0.2.2.2.2.2.2.2.2.2.2.2.2.1.length i1).bind λj12 =>
 (p0.2.2.2.2.2.2.2.2.2.2.2.2.1[j12]?).bind λx13 =>
 cond (x13.2.2.2.1 != 163)
 ((cI (x13.2.2.2.2.2.2.2.2.1,x13.2.2.2.2.2.2.2.2.2.1,x13.2.2.2.2.2.2.2.2.2.2.1,x13.2.2.2.2.2.2.2.2.2.2.2.1,x13.2.2.2.2.2.2.2.2.2.2.2.2.1,x13.2.2.2.2.2.2.2.2.2.2.2.2.2.1,x13.2.2.2.2.2.2.2.2.2.2.2.2.2.2.1,x13.2.2.2.2.2.2.2.2.2.2.2.2.2.2.2.1,x13.2.2.2.2.2.2.2.2.2.2.2.2.2.2.2.2.1,x13.2.2.2.2.2.2.2.2.2.2.2.2.2.2.2.2.2.1,x13.2.2.2.2.2.2.2.2.2.2.2.2.2.2.2.2.2.2.1) (x13.2.2.2.1,x13.2.2.2.2.1,x13.2.2.2.2.2.1,x13.2.2.2.2.2.2.1,x13.2.2.2.2.2.2.2.1)).bind λt41 =>
 (bU p0 i1).bind λt81 =>
 some (t81,[(x13.1,t41.2.1.1,t41.2.1.2.1,t41.2.1.2.2.1,t41.2.1.2.2.2.1,t41.2.1.2.2.2.2)]))
 (let t46:=p0.2.2.2.2.2.2.2.2.2.2.1==x13.2.2.2.2.2.2.2.2.2.2.2.2.2.2.2.2.2.2.1
 cond t46
 ((cI (p0.1,p0.2.1,p0.2.2.1,p0.2.2.2.1,p0.2.2.2.2.1,p0.2.2.2.2.2.1,p0.2.2.2.2.2.2.1,p0.2.2.2.2.2.2.2.1,p0.2.2.2.2.2.2.2.2.1,p0.2.2.2.2.2.2.2.2.2.1,p0.2.2.2.2.2.2.2.2.2.2.1) (x13.2.2.2.1,x13.2.2.2.2.1,x13.2.2.2.2.2.1,x13.2.2.2.2.2.2.1,x13.2.2.2.2.2.2.2.1)).bind λt64 =>
 (bU (t64.1.1,t64.1.2.1,t64.1.2.2.1,t64.1.2.2.2.1,t64.1.2.2.2.2.1,t64.1.2.2.2.2.2.1,t64.1.2.2.2.2.2.2.1,t64.1.2.2.2.2.2.2.2.1,t64.1.2.2.2.2.2.2.2.2.1,t64.1.2.2.2.2.2.2.2.2.2.1,t64.1.2.2.2.2.2.2.2.2.2.2,p0.2.2.2.2.2.2.2.2.2.2.2.1,p0.2.2.2.2.2.2.2.2.2.2.2.2.1,p0.2.2.2.2.2.2.2.2.2.2.2.2.2.1,p0.2.2.2.2.2.2.2.2.2.2.2.2.2.2) i1).bind λt81_1 =>
 some (t81_1,[(x13.1,t64.2.1.1,t64.2.1.2.1,t64.2.1.2.2.1,t64.2.1.2.2.2.1,t64.2.1.2.2.2.2)]))
 (let t71:=decide (x13.2.2.2.2.2.2.2.2.2.2.2.2.2.2.2.2.2.2.2.2>=3)
 cond t71
 ((eV (x13.2.2.2.1,x13.2.2.2.2.1,x13.2.2.2.2.2.1,x13.2.2.2.2.2.2.1,x13.2.2.2.2.2.2.2.1)).bind λt77 =>
 (bU p0 i1).bind λt81_2 =>
 some (t81_2,[(x13.1,t77.1,t77.2.1,t77.2.2.1,t77.2.2.2.1,t77.2.2.2.2)]))
 ((ix p0.2.2.2.2.2.2.2.2.2.2.2.2.1.length i1).bind λj22 =>
 (p0.2.2.2.2.2.2.2.2.2.2.2.2.1[j22]?).bind λx24 =>
 (ix p0.2.2.2.2.2.2.2.2.2.2.2.2.1.length i1).bind λj26 =>
 (p0.2.2.2.2.2.2.2.2.2.2.2.2.1[j26]?).bind λx =>
 (eJ (p0.1,p0.2.1,p0.2.2.1,p0.2.2.2.1,p0.2.2.2.2.1,p0.2.2.2.2.2.1,p0.2.2.2.2.2.2.1,p0.2.2.2.2.2.2.2.1,p0.2.2.2.2.2.2.2.2.1,p0.2.2.2.2.2.2.2.2.2.1,p0.2.2.2.2.2.2.2.2.2.2.1,p0.2.2.2.2.2.2.2.2.2.2.2.1,p0.2.2.2.2.2.2.2.2.2.2.2.2.1.set j26 (x.1,x.2.1,x.2.2.1,x.2.2.2.1,x.2.2.2.2.1,x.2.2.2.2.2.1,x.2.2.2.2.2.2.1,x.2.2.2.2.2.2.2.1,x.2.2.2.2.2.2.2.2.1,x.2.2.2.2.2.2.2.2.2.1,x.2.2.2.2.2.2.2.2.2.2.1,x.2.2.2.2.2.2.2.2.2.2.2.1,x.2.2.2.2.2.2.2.2.2.2.2.2.1,x.2.2.2.2.2.2.2.2.2.2.2.2.2.1,x.2.2.2.2.2.2.2.2.2.2.2.2.2.2.1,x.2.2.2.2.2.2.2.2.2.2.2.2.2.2.2.1,x.2.2.2.2.2.2.2.2.2.2.2.2.2.2.2.2.1,x.2.2.2.2.2.2.2.2.2.2.2.2.2.2.2.2.2.1,x.2.2.2.2.2.2.2.2.2.2.2.2.2.2.2.2.2.2.1,x.2.2.2.2.2.2.2.2.2.2.2.2.2.2.2.2.2.2.2.1,sy (x24.2.2.2.2.2.2.2.2.2.2.2.2.2.2.2.2.2.2.2.2+1)),p0.2.2.2.2.2.2.2.2.2.2.2.2.2.1,p0.2.2.2.2.2.2.2.2.2.2.2.2.2.2) i1).bind λt30 =>
 some (t30,[]))))
def kN:FL:=(235,⟨[.ptr tV (some true),.val false sH false],[.val false (.one (.sl yX)) none],λa=>eW a.1 a.2⟩)::kM
theorem pw:Gd kN:=sI pv 235 Tryz.f235 [] Tryz.func235
def cJ (a0:sL) (k1:Int):Option (sL×List vT) :=
 (ix a0.2.2.2.2.2.2.2.2.2.2.2.2.1.length k1).bind λj11 =>
 (a0.2.2.2.2.2.2.2.2.2.2.2.2.1[j11]?).bind λx19 =>
 cond (x19.2.2.1==0)
 ((eK a0 k1).bind λt23 =>
 some (t23,[]))
 ((a0.2.2.2.2.2.2.2.2.2.2.2.2.1[j11]?).bind λx28 =>
 cond (x28.2.2.1==2)
 ((eW a0 k1).bind λt32 =>
 some t32)
 ((a0.2.2.2.2.2.2.2.2.2.2.2.2.1[j11]?).bind λx37 =>
 (a0.2.2.2.2.2.2.2.2.2.2.2.2.1[j11]?).bind λx42 =>
 let t33:=decide (x37.2.2.2.2.2.2.2.2.2.2.2.2.2.2.2.2.2.2.2.1<(x42.2.2.2.2.2.2.2.1.length:Int))
 cond t33
 ((a0.2.2.2.2.2.2.2.2.2.2.2.2.1[j11]?).bind λx48 =>
 (a0.2.2.2.2.2.2.2.2.2.2.2.2.1[j11]?).bind λx =>
 some ((a0.1,a0.2.1,a0.2.2.1,a0.2.2.2.1,a0.2.2.2.2.1,a0.2.2.2.2.2.1,a0.2.2.2.2.2.2.1,a0.2.2.2.2.2.2.2.1,a0.2.2.2.2.2.2.2.2.1,a0.2.2.2.2.2.2.2.2.2.1,a0.2.2.2.2.2.2.2.2.2.2.1,a0.2.2.2.2.2.2.2.2.2.2.2.1,a0.2.2.2.2.2.2.2.2.2.2.2.2.1.set j11 (x.1,x.2.1,x.2.2.1,x.2.2.2.1,x.2.2.2.2.1,x.2.2.2.2.2.1,x.2.2.2.2.2.2.1,x.2.2.2.2.2.2.2.1,x.2.2.2.2.2.2.2.2.1,x.2.2.2.2.2.2.2.2.2.1,x.2.2.2.2.2.2.2.2.2.2.1,x.2.2.2.2.2.2.2.2.2.2.2.1,x.2.2.2.2.2.2.2.2.2.2.2.2.1,x.2.2.2.2.2.2.2.2.2.2.2.2.2.1,x.2.2.2.2.2.2.2.2.2.2.2.2.2.2.1,x.2.2.2.2.2.2.2.2.2.2.2.2.2.2.2.1,x.2.2.2.2.2.2.2.2.2.2.2.2.2.2.2.2.1,x.2.2.2.2.2.2.2.2.2.2.2.2.2.2.2.2.2.1,x.2.2.2.2.2.2.2.2.2.2.2.2.2.2.2.2.2.2.1,sy (x48.2.2.2.2.2.2.2.2.2.2.2.2.2.2.2.2.2.2.2.1+1),x.2.2.2.2.2.2.2.2.2.2.2.2.2.2.2.2.2.2.2.2),a0.2.2.2.2.2.2.2.2.2.2.2.2.2.1,a0.2.2.2.2.2.2.2.2.2.2.2.2.2.2),[]))
 ((a0.2.2.2.2.2.2.2.2.2.2.2.2.1[j11]?).bind λx_1 =>
 some ((a0.1,a0.2.1,a0.2.2.1,a0.2.2.2.1,a0.2.2.2.2.1,a0.2.2.2.2.2.1,a0.2.2.2.2.2.2.1,a0.2.2.2.2.2.2.2.1,a0.2.2.2.2.2.2.2.2.1,a0.2.2.2.2.2.2.2.2.2.1,a0.2.2.2.2.2.2.2.2.2.2.1,a0.2.2.2.2.2.2.2.2.2.2.2.1,a0.2.2.2.2.2.2.2.2.2.2.2.2.1.set j11 (x_1.1,x_1.2.1,2,x_1.2.2.2.1,x_1.2.2.2.2.1,x_1.2.2.2.2.2.1,x_1.2.2.2.2.2.2.1,x_1.2.2.2.2.2.2.2.1,x_1.2.2.2.2.2.2.2.2.1,x_1.2.2.2.2.2.2.2.2.2.1,x_1.2.2.2.2.2.2.2.2.2.2.1,x_1.2.2.2.2.2.2.2.2.2.2.2.1,x_1.2.2.2.2.2.2.2.2.2.2.2.2.1,x_1.2.2.2.2.2.2.2.2.2.2.2.2.2.1,x_1.2.2.2.2.2.2.2.2.2.2.2.2.2.2.1,x_1.2.2.2.2.2.2.2.2.2.2.2.2.2.2.2.1,x_1.2.2.2.2.2.2.2.2.2.2.2.2.2.2.2.2.1,x_1.2.2.2.2.2.2.2.2.2.2.2.2.2.2.2.2.2.1,x_1.2.2.2.2.2.2.2.2.2.2.2.2.2.2.2.2.2.2.1,x_1.2.2.2.2.2.2.2.2.2.2.2.2.2.2.2.2.2.2.2.1,x_1.2.2.2.2.2.2.2.2.2.2.2.2.2.2.2.2.2.2.2.2),a0.2.2.2.2.2.2.2.2.2.2.2.2.2.1,a0.2.2.2.2.2.2.2.2.2.2.2.2.2.2),[]))))
def kO:FL:=(132,⟨[.ptr tV (some true),.val false sH false],[.val false (.one (.sl yX)) none],λa=>cJ a.1 a.2⟩)::kN
theorem pz:Gd kO:=sI pw 132 Tryz.f132 [] Tryz.func132
def eX (n1:Int) (i8:Int) (b0:Int) (b1:List UInt8) (b6:Int) (b7:Int) (b8:Int) (b9:Int) (b10:Int) (b11:List UInt8) (b13:Int) (b14:Int) (all7:List vT) (b2:List Pt) (b3:List sD) (b4:List sM) (b5:List Int) (b12:List tQ):Option ((Int×Int×List UInt8×Int×Int×Int×Int×Int×List UInt8×Int×Int×List vT×List Pt×List sD×List sM×List Int×List tQ)⊕(Int×List UInt8×Int×Int×Int×Int×Int×List UInt8×Int×Int×List vT×List Pt×List sD×List sM×List Int×List tQ)) :=
 (cond (decide (i8<n1)) (some (decide ((b12.length:Int)>0))) (some false)).bind λt29 =>
 cond t29
 ((cJ (b0,b1,b2,b3,b4,b5,b6,b7,b8,b9,b10,b11,b12,b13,b14) 0).bind λt32 =>
 (sT all7 t32.2).bind λzs35 =>
 some (.inl (sy (i8+1),t32.1.1,t32.1.2.1,t32.1.2.2.2.2.2.2.1,t32.1.2.2.2.2.2.2.2.1,t32.1.2.2.2.2.2.2.2.2.1,t32.1.2.2.2.2.2.2.2.2.2.1,t32.1.2.2.2.2.2.2.2.2.2.2.1,t32.1.2.2.2.2.2.2.2.2.2.2.2.1,t32.1.2.2.2.2.2.2.2.2.2.2.2.2.2.1,t32.1.2.2.2.2.2.2.2.2.2.2.2.2.2.2,zs35,t32.1.2.2.1,t32.1.2.2.2.1,t32.1.2.2.2.2.1,t32.1.2.2.2.2.2.1,t32.1.2.2.2.2.2.2.2.2.2.2.2.2.1)))
 (some (.inr (b0,b1,b6,b7,b8,b9,b10,b11,b13,b14,all7,b2,b3,b4,b5,b12)))
def eY (a0:sL) (n1:Int):Option (sL×List vT) :=
 (dz a0).bind λt11 =>
 (bQ a0).bind λt13 =>
 (cond (!t13)
 (some true)
 ((ac n1 0 500).bind λt17 =>
 some (!t17))).bind λt19 =>
 cond t19
 (some (t11,[]))
 ((loop (λz=>eX n1 z.1 z.2.1 z.2.2.1 z.2.2.2.1 z.2.2.2.2.1 z.2.2.2.2.2.1 z.2.2.2.2.2.2.1 z.2.2.2.2.2.2.2.1 z.2.2.2.2.2.2.2.2.1 z.2.2.2.2.2.2.2.2.2.1 z.2.2.2.2.2.2.2.2.2.2.1 z.2.2.2.2.2.2.2.2.2.2.2.1 z.2.2.2.2.2.2.2.2.2.2.2.2.1 z.2.2.2.2.2.2.2.2.2.2.2.2.2.1 z.2.2.2.2.2.2.2.2.2.2.2.2.2.2.1 z.2.2.2.2.2.2.2.2.2.2.2.2.2.2.2.1 z.2.2.2.2.2.2.2.2.2.2.2.2.2.2.2.2) (0,t11.1,t11.2.1,t11.2.2.2.2.2.2.1,t11.2.2.2.2.2.2.2.1,t11.2.2.2.2.2.2.2.2.1,t11.2.2.2.2.2.2.2.2.2.1,t11.2.2.2.2.2.2.2.2.2.2.1,t11.2.2.2.2.2.2.2.2.2.2.2.1,t11.2.2.2.2.2.2.2.2.2.2.2.2.2.1,t11.2.2.2.2.2.2.2.2.2.2.2.2.2.2,[],t11.2.2.1,t11.2.2.2.1,t11.2.2.2.2.1,t11.2.2.2.2.2.1,t11.2.2.2.2.2.2.2.2.2.2.2.2.1)).bind λd =>
 some ((d.1,d.2.1,d.2.2.2.2.2.2.2.2.2.2.2.1,d.2.2.2.2.2.2.2.2.2.2.2.2.1,d.2.2.2.2.2.2.2.2.2.2.2.2.2.1,d.2.2.2.2.2.2.2.2.2.2.2.2.2.2.1,d.2.2.1,d.2.2.2.1,d.2.2.2.2.1,d.2.2.2.2.2.1,d.2.2.2.2.2.2.1,d.2.2.2.2.2.2.2.1,d.2.2.2.2.2.2.2.2.2.2.2.2.2.2.2,d.2.2.2.2.2.2.2.2.1,d.2.2.2.2.2.2.2.2.2.1),d.2.2.2.2.2.2.2.2.2.2.1))
def kP:FL:=(39,⟨[.val true tV false,.val false sH false],[.val true tV (some true),.val false (.one (.sl yX)) none],λa=>eY a.1 a.2⟩)::kO
theorem pA:Gd kP:=sI pz 39 Tryz.f39 [(0,⟨⟨(7,false,[.own 1000000000])::(8,false,[dI])::us 25 4 [],[(265216,.box [dI,dS,.own 1000000001,.own 1000000002,.own 1000000003,.own 1000000004,dI,dI,dI,dI,dI,dS,.own 1000000005,dI,dI]),(1000000000,.root yX false),(1000000001,.root vc true),(1000000002,.root th true),(1000000003,.root u0 true),(1000000004,.root sH true),(1000000005,.root yp true)]⟩,
 ⟨[(7,false,[.own 1000000300])],[(265216,.box [dI,dS,.own 1000000301,.own 1000000302,.own 1000000303,.own 1000000304,dI,dI,dI,dI,dI,dS,.own 1000000305,dI,dI]),(1000000300,.root yX false),(1000000301,.root vc true),(1000000302,.root th true),(1000000303,.root u0 true),(1000000304,.root sH true),(1000000305,.root yp true)]⟩,none⟩)] Tryz.func39
def dP (a0:sL) (j1:tQ):Option (tg×Bool) :=
 (bT a0.2.2.2.2.2.2.2.2.2.2.2.1 j1.2.1).bind λt13 =>
 cond (t13.2==0) (some (t13.1,t13.1.1 != 162)) (some (t13.1,false))
def kQ:FL:=(133,⟨[.val true tV false,.val true yp false],[.val true uN (some true),.val false tK (some true)],λa=>dP a.1 a.2⟩)::kP
theorem pB:Gd kQ:=sI pA 133 Tryz.f133 [] Tryz.func133
def bI (a0:sL) (n3:Int) (t11:Int):Option ((Int×Int)⊕Int) :=
 cond (decide (t11<(a0.2.2.2.2.2.2.2.2.2.2.2.2.1.length:Int)))
 ((at? a0.2.2.2.2.2.2.2.2.2.2.2.2.1 t11).bind λx13 =>
 (dP a0 x13).bind λt18 =>
 (cond t18.2 (some true) (some (decide (x13.2.2.1>0)))).bind λt26 =>
 cond t26
 (some (.inl (sy (n3+1),sy (t11+1))))
 (some (.inl (n3,sy (t11+1)))))
 (some (.inr n3))
def cK (a0:sL):Option Int :=
 (loop (λz=>bI a0 z.1 z.2) (0,0)).bind λd =>
 some d
def kR:FL:=(40,⟨[.val true tV false],[.val false sH (some true)],λa=>cK a⟩)::kQ
theorem pC:Gd kR:=sI pB 40 Tryz.f40 [(0,⟨⟨(3,false,[dI])::(11,false,[dI])::us 23 3 [],[]⟩,
 ⟨[(3,false,[dI])],[]⟩,none⟩)] Tryz.func40
def ge (c0:sN):Option (sN×zg) :=
 (eZ c0).bind λt5 =>
 (aa t5.1 12).bind λt7 =>
 cond (t7.2==0)
 ((ah t7.1 ([0,99,100]:List Int)).bind λt12 =>
 some (t12.1,(t12.2,t5.2.2.1,t5.2.2.2.1,t5.2.2.2.2.1,t5.2.2.2.2.2)))
 (cond (t7.2==1)
 ((ah t7.1 ([(-1),99999,100000,100001]:List Int)).bind λt18 =>
 some (t18.1,(t5.2.1,t18.2,t5.2.2.2.1,t5.2.2.2.2.1,t5.2.2.2.2.2)))
 (cond (t7.2==2)
 ((ah t7.1 ([(-1),11]:List Int)).bind λt24 =>
 some (t24.1,(t5.2.1,t5.2.2.1,t24.2,t5.2.2.2.2.1,t5.2.2.2.2.2)))
 (cond (t7.2==3)
 ((ah t7.1 ([(-1),7,8]:List Int)).bind λt30 =>
 some (t30.1,(t5.2.1,t5.2.2.1,t5.2.2.2.1,t5.2.2.2.2.1,t30.2)))
 (some (t7.1,t5.2)))))
def kS:FL:=(296,⟨[.ptr ue none],[.val true xO (some true)],λa=>ge a⟩)::kR
theorem pD:Gd kS:=sI pC 296 Tryz.f296 [] Tryz.func296
def gg (c0:sN):Option (sN×List Pt) :=
 (aa c0 4).bind λt6 =>
 (cL t6.1 (sy (1+t6.2))).bind λt8 =>
 (aa t8.1 12).bind λt10 =>
 cond (t10.2==0)
 ((ge t10.1).bind λt15 =>
 (ix t8.2.length 0).bind λj16 =>
 (t8.2[j16]?).bind λx =>
 some (t15.1,t8.2.set j16 (x.1,x.2.1,x.2.2.1,t15.2.1,t15.2.2.1,t15.2.2.2.1,t15.2.2.2.2.1,t15.2.2.2.2.2)))
 (cond (t10.2==1)
 ((ah t10.1 ([0,1000,1001]:List Int)).bind λt23 =>
 (ix t8.2.length 0).bind λj24 =>
 (t8.2[j24]?).bind λx_1 =>
 some (t23.1,t8.2.set j24 (x_1.1,t23.2,x_1.2.2.1,x_1.2.2.2.1,x_1.2.2.2.2.1,x_1.2.2.2.2.2.1,x_1.2.2.2.2.2.2.1,x_1.2.2.2.2.2.2.2)))
 (cond (t10.2==2)
 ((ix t8.2.length 0).bind λj29 =>
 (t8.2[j29]?).bind λx_2 =>
 some (t10.1,t8.2.set j29 (false,x_2.2.1,x_2.2.2.1,x_2.2.2.2.1,x_2.2.2.2.2.1,x_2.2.2.2.2.2.1,x_2.2.2.2.2.2.2.1,x_2.2.2.2.2.2.2.2)))
 (some (t10.1,t8.2))))
def kT:FL:=(191,⟨[.ptr ue none],[.val false (.one (.sl vc)) (some true)],λa=>gg a⟩)::kS
theorem pE:Gd kT:=sI pD 191 Tryz.f191 [] Tryz.func191
def dQ (i4:Int) (b0:List Int) (b1:Int) (b2:Int) (l3:List sD):Option ((Int×List Int×Int×Int×List sD)⊕(List Int×Int×Int×List sD)) :=
 cond (decide (i4>0))
 ((aa (b0,b1,b2) 6).bind λt13 =>
 cond (t13.2==0)
 ((aa t13.1 3).bind λt31 =>
 (cc t31.1).bind λt34 =>
 (aa t34.1 4).bind λt36 =>
 (dR l3 (sy (1+t31.2)) t34.2 t36.2).bind λt37 =>
 some (.inl (sy (i4-1),t36.1.1,t36.1.2.1,t36.1.2.2,t37.1)))
 (cond (t13.2==1)
 ((cr l3).bind λt43 =>
 some (.inl (sy (i4-1),t13.1.1,t13.1.2.1,t13.1.2.2,t43)))
 ((aa t13.1 3).bind λt16 =>
 (cc t16.1).bind λt19 =>
 (aa t19.1 3).bind λt21 =>
 (aa t21.1 4).bind λt24 =>
 (f0 l3 (sy (1+t16.2)) (sy (t19.2+t21.2)) t24.2).bind λt25 =>
 some (.inl (sy (i4-1),t24.1.1,t24.1.2.1,t24.1.2.2,t25)))))
 (some (.inr (b0,b1,b2,l3)))
def gh (c0:sN):Option (sN×List sD) :=
 (aa c0 10).bind λt7 =>
 (loop (λz=>dQ z.1 z.2.1 z.2.2.1 z.2.2.2.1 z.2.2.2.2) (t7.2,t7.1.1,t7.1.2.1,t7.1.2.2,([]:List sD))).bind λd =>
 some ((d.1,d.2.1,d.2.2.1),d.2.2.2)
def kU:FL:=(297,⟨[.ptr ue none],[.val false (.one (.sl th)) (some true)],λa=>gh a⟩)::kT
theorem pF:Gd kU:=sI pE 297 Tryz.f297 [(0,⟨⟨[(3,false,[.own 1000000000]),(4,false,[dI])],[(1,.box [.dat (.sl (.one (.int .u8))),dI,dI]),(1000000000,.root th true)]⟩,
 ⟨[(3,false,[.own 1000000300])],[(1,.box [.dat (.sl (.one (.int .u8))),dI,dI]),(1000000300,.root th true)]⟩,none⟩)] Tryz.func297
def ce (i4:Int) (b0:List Int) (b1:Int) (b2:Int) (l3:List sD):Option ((Int×List Int×Int×Int×List sD)⊕(List Int×Int×Int×List sD)) :=
 (aa (b0,b1,b2) 3).bind λt31 =>
 cond (decide (i4<(sy (11+t31.2))))
 ((sT l3 [(50,sy (100+i4),1,0,false)]).bind λzs41 =>
 some (.inl (sy (i4+1),t31.1.1,t31.1.2.1,t31.1.2.2,zs41)))
 (some (.inr (t31.1.1,t31.1.2.1,t31.1.2.2,l3)))
def gi (c0:sN):Option (sN×List sD) :=
 (gh c0).bind λt6 =>
 (aa t6.1 12).bind λt8 =>
 cond (t8.2==0)
 ((ah t8.1 ([0,1,99,100]:List Int)).bind λt14 =>
 (ah t14.1 ([0,1,9999]:List Int)).bind λt17 =>
 (ah t17.1 ([(-1),7,8]:List Int)).bind λt20 =>
 (ah t20.1 ([(-1),4,5]:List Int)).bind λt23 =>
 (sT t6.2 [(t14.2,t17.2,t20.2,t23.2,false)]).bind λzs26 =>
 some (t23.1,zs26))
 (cond (t8.2==1)
 ((loop (λz=>ce z.1 z.2.1 z.2.2.1 z.2.2.2.1 z.2.2.2.2) (0,t8.1.1,t8.1.2.1,t8.1.2.2,t6.2)).bind λd =>
 some ((d.1,d.2.1,d.2.2.1),d.2.2.2))
 (some (t8.1,t6.2)))
def kV:FL:=(192,⟨[.ptr ue none],[.val false (.one (.sl th)) (some true)],λa=>gi a⟩)::kU
theorem pG:Gd kV:=sI pF 192 Tryz.f192 [(1,⟨⟨[(3,false,[.own 1000001000]),(4,false,[dI])],[(1,.box [.dat (.sl (.one (.int .u8))),dI,dI]),(1000001000,.root th true)]⟩,
 ⟨[(3,false,[.own 1000001300])],[(1,.box [.dat (.sl (.one (.int .u8))),dI,dI]),(1000001300,.root th true)]⟩,none⟩)] Tryz.func192
def dU (i6:Int) (b0:List sM) (b1:List Int):Option ((Int×List sM×List Int)⊕(List sM×List Int)) :=
 cond (decide (i6<6))
 ((aH (b0,b1) (sy (10+i6),0,0)).bind λt54 =>
 some (.inl (sy (i6+1),t54.1,t54.2)))
 (some (.inr (b0,b1)))
def gj (c0:sN):Option (sN×tH×Int) :=
 (aa c0 4).bind λt8 =>
 (cM t8.1 (sy (1+t8.2))).bind λt12 =>
 (aa t12.1 12).bind λt14 =>
 cond (t14.2==0)
 ((ah t14.1 ([0,1,9,100]:List Int)).bind λt21 =>
 (ah t21.1 ([(-1),0,1,64]:List Int)).bind λt24 =>
 (aa t24.1 3).bind λt26 =>
 (sT t12.2.1 [(t21.2,t24.2,t26.2)]).bind λzs29 =>
 some (t26.1,(zs29,t12.2.2),sy (1+t8.2)))
 (cond (t14.2==1)
 ((ah t14.1 ([0,7]:List Int)).bind λt37 =>
 (ix t12.2.2.length 0).bind λj38 =>
 (t12.2.2[j38]?).bind λx =>
 some (t37.1,(t12.2.1,t12.2.2.set j38 t37.2),sy (1+t8.2)))
 (cond (t14.2==2)
 ((ah t14.1 ([0,6,7]:List Int)).bind λt43 =>
 some (t43.1,t12.2,t43.2))
 (cond (t14.2==3)
 ((loop (λz=>dU z.1 z.2.1 z.2.2) (0,t12.2.1,t12.2.2)).bind λd =>
 some (t14.1,d,sy (1+t8.2)))
 (some (t14.1,t12.2,sy (1+t8.2))))))
def kW:FL:=(193,⟨[.ptr ue none],[.val true uS (some true),.val false sH (some true)],λa=>gj a⟩)::kV
theorem pH:Gd kW:=sI pG 193 Tryz.f193 [(1,⟨⟨[(6,false,[dI])],[(528384,.box [.own 1000001000,.own 1000001001]),(1000001000,.root u0 true),(1000001001,.root sH true)]⟩,
 ⟨[],[(528384,.box [.own 1000001300,.own 1000001301]),(1000001300,.root u0 true),(1000001301,.root sH true)]⟩,none⟩)] Tryz.func193
def gk (c0:sN):Option (sN×sx) :=
 (ct c0).bind λt5 =>
 (aa t5.1 16).bind λt7 =>
 cond (t7.2==0)
 ((ah t7.1 ([0,99,100]:List Int)).bind λt12 =>
 some (t12.1,(t12.2,t5.2.2.1,t5.2.2.2.1,t5.2.2.2.2.1,t5.2.2.2.2.2.1,t5.2.2.2.2.2.2.1,t5.2.2.2.2.2.2.2.1,t5.2.2.2.2.2.2.2.2.1,t5.2.2.2.2.2.2.2.2.2.1,t5.2.2.2.2.2.2.2.2.2.2.1,t5.2.2.2.2.2.2.2.2.2.2.2)))
 (cond (t7.2==1)
 ((bc t7.1 ([[116,101,110,45,98,121,116,101,115,45],[101,108,101,118,101,110,45,98,121,116,101]]:List (List UInt8))).bind λt18 =>
 some (t18.1,(t5.2.1,t18.2,t5.2.2.2.1,t5.2.2.2.2.1,t5.2.2.2.2.2.1,t5.2.2.2.2.2.2.1,t5.2.2.2.2.2.2.2.1,t5.2.2.2.2.2.2.2.2.1,t5.2.2.2.2.2.2.2.2.2.1,t5.2.2.2.2.2.2.2.2.2.2.1,t5.2.2.2.2.2.2.2.2.2.2.2)))
 (cond (t7.2==2)
 ((gg t7.1).bind λt23 =>
 some (t23.1,(t5.2.1,t5.2.2.1,t23.2,t5.2.2.2.2.1,t5.2.2.2.2.2.1,t5.2.2.2.2.2.2.1,t5.2.2.2.2.2.2.2.1,t5.2.2.2.2.2.2.2.2.1,t5.2.2.2.2.2.2.2.2.2.1,t5.2.2.2.2.2.2.2.2.2.2.1,t5.2.2.2.2.2.2.2.2.2.2.2)))
 (cond (t7.2==3)
 ((gi t7.1).bind λt28 =>
 some (t28.1,(t5.2.1,t5.2.2.1,t5.2.2.2.1,t28.2,t5.2.2.2.2.2.1,t5.2.2.2.2.2.2.1,t5.2.2.2.2.2.2.2.1,t5.2.2.2.2.2.2.2.2.1,t5.2.2.2.2.2.2.2.2.2.1,t5.2.2.2.2.2.2.2.2.2.2.1,t5.2.2.2.2.2.2.2.2.2.2.2)))
 (cond (t7.2==4)
 ((gj t7.1).bind λt34 =>
 some (t34.1,(t5.2.1,t5.2.2.1,t5.2.2.2.1,t5.2.2.2.2.1,t34.2.1.1,t34.2.1.2,t5.2.2.2.2.2.2.2.1,t5.2.2.2.2.2.2.2.2.1,t5.2.2.2.2.2.2.2.2.2.1,t5.2.2.2.2.2.2.2.2.2.2.1,t5.2.2.2.2.2.2.2.2.2.2.2)))
 (cond (t7.2==5)
 ((ah t7.1 ([(-1),1000000,1000001]:List Int)).bind λt42 =>
 some (t42.1,(t5.2.1,t5.2.2.1,t5.2.2.2.1,t5.2.2.2.2.1,t5.2.2.2.2.2.1,t5.2.2.2.2.2.2.1,t5.2.2.2.2.2.2.2.1,t5.2.2.2.2.2.2.2.2.1,t5.2.2.2.2.2.2.2.2.2.1,t42.2,t5.2.2.2.2.2.2.2.2.2.2.2)))
 (some (t7.1,t5.2)))))))
def kX:FL:=(98,⟨[.ptr ue none],[.val true sX (some true)],λa=>gk a⟩)::kW
theorem pI:Gd kX:=sI pH 98 Tryz.f98 [] Tryz.func98
def gl (t6:Int) (b0:Int) (b1:List UInt8) (b6:Int) (b7:Int) (b8:Int) (b9:Int) (b10:Int) (b11:List UInt8) (b13:Int) (b14:Int) (b2:List Pt) (b3:List sD) (b4:List sM) (b5:List Int) (b12:List tQ):Option ((Int×Int×List UInt8×Int×Int×Int×Int×Int×List UInt8×Int×Int×List Pt×List sD×List sM×List Int×List tQ)⊕(Int×List UInt8×Int×Int×Int×Int×Int×List UInt8×Int×Int×List Pt×List sD×List sM×List Int×List tQ)) :=
 cond (decide (t6<6))
 ((bg (b0,b1,b2,b3,b4,b5,b6,b7,b8,b9,b10,b11,b12,b13,b14) ([1]:List Int)).bind λt63 =>
 some (.inl (sy (t6+1),t63.1,t63.2.1,t63.2.2.2.2.2.2.1,t63.2.2.2.2.2.2.2.1,t63.2.2.2.2.2.2.2.2.1,t63.2.2.2.2.2.2.2.2.2.1,t63.2.2.2.2.2.2.2.2.2.2.1,t63.2.2.2.2.2.2.2.2.2.2.2.1,t63.2.2.2.2.2.2.2.2.2.2.2.2.2.1,t63.2.2.2.2.2.2.2.2.2.2.2.2.2.2,t63.2.2.1,t63.2.2.2.1,t63.2.2.2.2.1,t63.2.2.2.2.2.1,t63.2.2.2.2.2.2.2.2.2.2.2.2.1)))
 (some (.inr (b0,b1,b6,b7,b8,b9,b10,b11,b13,b14,b2,b3,b4,b5,b12)))
def gm (p0:sN) (i1:Int):Option (sN×sL) :=
 (eA p0 i1).bind λt9 =>
 (aa t9.1 16).bind λt11 =>
 cond (t11.2==0)
 ((gk t11.1).bind λt15 =>
 some (t15.1,(t15.2.1,t15.2.2.1,t15.2.2.2.1,t15.2.2.2.2.1,t15.2.2.2.2.2.1,t15.2.2.2.2.2.2.1,t15.2.2.2.2.2.2.2.1,t15.2.2.2.2.2.2.2.2.1,t15.2.2.2.2.2.2.2.2.2.1,t15.2.2.2.2.2.2.2.2.2.2.1,t15.2.2.2.2.2.2.2.2.2.2.2,t9.2.2.2.2.2.2.2.2.2.2.2.2.1,t9.2.2.2.2.2.2.2.2.2.2.2.2.2.1,t9.2.2.2.2.2.2.2.2.2.2.2.2.2.2.1,t9.2.2.2.2.2.2.2.2.2.2.2.2.2.2.2)))
 (cond (t11.2==1)
 ((ah t11.1 ([(-1),0,1000000,1000001]:List Int)).bind λt21 =>
 some (t21.1,(t9.2.1,t9.2.2.1,t9.2.2.2.1,t9.2.2.2.2.1,t9.2.2.2.2.2.1,t9.2.2.2.2.2.2.1,t9.2.2.2.2.2.2.2.1,t9.2.2.2.2.2.2.2.2.1,t9.2.2.2.2.2.2.2.2.2.1,t9.2.2.2.2.2.2.2.2.2.2.1,t9.2.2.2.2.2.2.2.2.2.2.2.1,t9.2.2.2.2.2.2.2.2.2.2.2.2.1,t9.2.2.2.2.2.2.2.2.2.2.2.2.2.1,t9.2.2.2.2.2.2.2.2.2.2.2.2.2.2.1,t21.2)))
 (cond (t11.2==2)
 ((ah t11.1 ([(-1),1000000]:List Int)).bind λt27 =>
 some (t27.1,(t9.2.1,t9.2.2.1,t9.2.2.2.1,t9.2.2.2.2.1,t9.2.2.2.2.2.1,t9.2.2.2.2.2.2.1,t9.2.2.2.2.2.2.2.1,t9.2.2.2.2.2.2.2.2.1,t9.2.2.2.2.2.2.2.2.2.1,t9.2.2.2.2.2.2.2.2.2.2.1,t9.2.2.2.2.2.2.2.2.2.2.2.1,t9.2.2.2.2.2.2.2.2.2.2.2.2.1,t9.2.2.2.2.2.2.2.2.2.2.2.2.2.1,t27.2,t9.2.2.2.2.2.2.2.2.2.2.2.2.2.2.2)))
 (cond (t11.2==3)
 ((aa t11.1 2).bind λt36 =>
 (aa t36.1 4).bind λt39 =>
 (aa t39.1 3).bind λt41 =>
 (aa t41.1 5).bind λt44 =>
 (bO t44.1 (t9.2.1,t9.2.2.1,t9.2.2.2.1,t9.2.2.2.2.1,t9.2.2.2.2.2.1,t9.2.2.2.2.2.2.1,t9.2.2.2.2.2.2.2.1,t9.2.2.2.2.2.2.2.2.1,t9.2.2.2.2.2.2.2.2.2.1,t9.2.2.2.2.2.2.2.2.2.2.1,t9.2.2.2.2.2.2.2.2.2.2.2.1)).bind λt48 =>
 (ct t48.1).bind λt50 =>
 (sT t9.2.2.2.2.2.2.2.2.2.2.2.2.2.1 ([(sy (t9.2.2.2.2.2.2.2.2.2.2.2.2.2.2.2+t36.2),[],t39.2,t48.2.1,t48.2.2.1,t48.2.2.2.1,t48.2.2.2.2.1,t48.2.2.2.2.2,t50.2.1,t50.2.2.1,t50.2.2.2.1,t50.2.2.2.2.1,t50.2.2.2.2.2.1,t50.2.2.2.2.2.2.1,t50.2.2.2.2.2.2.2.1,t50.2.2.2.2.2.2.2.2.1,t50.2.2.2.2.2.2.2.2.2.1,t50.2.2.2.2.2.2.2.2.2.2.1,t50.2.2.2.2.2.2.2.2.2.2.2,sy (t41.2-1),t44.2)])).bind λzs53 =>
 some (t50.1,(t9.2.1,t9.2.2.1,t9.2.2.2.1,t9.2.2.2.2.1,t9.2.2.2.2.2.1,t9.2.2.2.2.2.2.1,t9.2.2.2.2.2.2.2.1,t9.2.2.2.2.2.2.2.2.1,t9.2.2.2.2.2.2.2.2.2.1,t9.2.2.2.2.2.2.2.2.2.2.1,t9.2.2.2.2.2.2.2.2.2.2.2.1,t9.2.2.2.2.2.2.2.2.2.2.2.2.1,zs53,t9.2.2.2.2.2.2.2.2.2.2.2.2.2.2.1,t9.2.2.2.2.2.2.2.2.2.2.2.2.2.2.2)))
 (cond (t11.2==4)
 ((loop (λz=>gl z.1 z.2.1 z.2.2.1 z.2.2.2.1 z.2.2.2.2.1 z.2.2.2.2.2.1 z.2.2.2.2.2.2.1 z.2.2.2.2.2.2.2.1 z.2.2.2.2.2.2.2.2.1 z.2.2.2.2.2.2.2.2.2.1 z.2.2.2.2.2.2.2.2.2.2.1 z.2.2.2.2.2.2.2.2.2.2.2.1 z.2.2.2.2.2.2.2.2.2.2.2.2.1 z.2.2.2.2.2.2.2.2.2.2.2.2.2.1 z.2.2.2.2.2.2.2.2.2.2.2.2.2.2.1 z.2.2.2.2.2.2.2.2.2.2.2.2.2.2.2) (0,t9.2.1,t9.2.2.1,t9.2.2.2.2.2.2.2.1,t9.2.2.2.2.2.2.2.2.1,t9.2.2.2.2.2.2.2.2.2.1,t9.2.2.2.2.2.2.2.2.2.2.1,t9.2.2.2.2.2.2.2.2.2.2.2.1,t9.2.2.2.2.2.2.2.2.2.2.2.2.1,t9.2.2.2.2.2.2.2.2.2.2.2.2.2.2.1,t9.2.2.2.2.2.2.2.2.2.2.2.2.2.2.2,t9.2.2.2.1,t9.2.2.2.2.1,t9.2.2.2.2.2.1,t9.2.2.2.2.2.2.1,t9.2.2.2.2.2.2.2.2.2.2.2.2.2.1)).bind λd =>
 some (t11.1,(d.1,d.2.1,d.2.2.2.2.2.2.2.2.2.2.1,d.2.2.2.2.2.2.2.2.2.2.2.1,d.2.2.2.2.2.2.2.2.2.2.2.2.1,d.2.2.2.2.2.2.2.2.2.2.2.2.2.1,d.2.2.1,d.2.2.2.1,d.2.2.2.2.1,d.2.2.2.2.2.1,d.2.2.2.2.2.2.1,d.2.2.2.2.2.2.2.1,d.2.2.2.2.2.2.2.2.2.2.2.2.2.2,d.2.2.2.2.2.2.2.2.1,d.2.2.2.2.2.2.2.2.2.1)))
 (some (t11.1,t9.2))))))
def kY:FL:=(137,⟨[.ptr ue none,.val false sH false],[.val true tV none],λa=>gm a.1 a.2⟩)::kX
theorem pJ:Gd kY:=sI pI 137 Tryz.f137 [(1,⟨⟨[(6,false,[dI])],[(266240,.box [dI,dS,.own 1000001000,.own 1000001001,.own 1000001002,.own 1000001003,dI,dI,dI,dI,dI,dS,.own 1000001004,dI,dI]),(1000001000,.root vc false),(1000001001,.root th false),(1000001002,.root u0 false),(1000001003,.root sH false),(1000001004,.root yp false)]⟩,
 ⟨[],[(266240,.box [dI,dS,.own 1000001300,.own 1000001301,.own 1000001302,.own 1000001303,dI,dI,dI,dI,dI,dS,.own 1000001304,dI,dI]),(1000001300,.root vc false),(1000001301,.root th false),(1000001302,.root u0 false),(1000001303,.root sH false),(1000001304,.root yp false)]⟩,none⟩)] Tryz.func137
def gn (code0:List Int):Option sL :=
 (eB code0).bind λt5 =>
 (bz code0 12).bind λt8 =>
 (gm t5 t8).bind λt9 =>
 some t9.2
def kZ:FL:=(51,⟨[.val false uh false],[.val true tV none],λa=>gn a⟩)::kY
theorem pK:Gd kZ:=sI pJ 51 Tryz.f51 [] Tryz.func51
def gp (code0:List Int):Option sL :=
 (gn code0).bind λt4 =>
 some t4
def l6:FL:=(41,⟨[.val false uh false],[.val true tV none],λa=>gp a⟩)::kZ
theorem pL:Gd l6:=sI pK 41 Tryz.f41 [] Tryz.func41
def f7 (a0:sL):Option Bool :=
 let t2:=(a0.2.2.2.2.2.2.2.2.2.2.2.2.1.length:Int)==0
 some t2
def l7:FL:=(42,⟨[.val true tV false],[.val false tK (some true)],λa=>f7 a⟩)::l6
theorem pM:Gd l7:=sI pL 42 Tryz.f42 [] Tryz.func42
def gq (a0:sL) (n3:Int) (i4:Int):Option ((Int×Int)⊕Int) :=
 cond (decide (i4<(a0.2.2.2.2.2.2.2.2.2.2.2.2.1.length:Int)))
 ((at? a0.2.2.2.2.2.2.2.2.2.2.2.2.1 i4).bind λx20 =>
 (dV a0.2.2.2.2.2.2.2.2.2.2.2.1 x20.2.1).bind λt23 =>
 (at? a0.2.2.2.2.2.2.2.2.2.2.2.2.1 i4).bind λx29 =>
 (cond (decide (x29.2.2.1>0))
 (some true)
 ((cond (t23.2==0) (some (t23.1.1 != 162)) (some false)).bind λt40 =>
 some t40)).bind λt41 =>
 cond t41
 (some (.inl (sy (n3+1),sy (i4+1))))
 (some (.inl (n3,sy (i4+1)))))
 (some (.inr n3))
def gt (a0:sL):Option Int :=
 (loop (λz=>gq a0 z.1 z.2) (0,0)).bind λd =>
 some d
def pN:FL:=(44,⟨[.val true tV false],[.val false sH (some true)],λa=>gt a⟩)::l7
theorem pO:Gd pN:=sI pM 44 Tryz.f44 [(0,⟨⟨(3,false,[dI])::(4,false,[dI])::us 34 7 [],[]⟩,
 ⟨[(3,false,[dI])],[]⟩,none⟩)] Tryz.func44
def cN (t23:sL×List vT) (t10:Int):Option (Int⊕(Unit⊕Bool)) :=
 cond (decide (t10<(t23.2.length:Int)))
 ((at? t23.2 t10).bind λx38 =>
 (cond (x38.2.1 != 162)
 (some true)
 ((cond (decide (t10>0))
 ((at? t23.2 (sy (t10-1))).bind λx50 =>
 (at? t23.2 t10).bind λx55 =>
 some (decide (x50.1>=x55.1)))
 (some false)).bind λt59 =>
 some t59)).bind λt60 =>
 cond t60 (some (.inr (.inr false))) (some (.inl (sy (t10+1)))))
 (some (.inr (.inl ())))
def AW (p0:List Int):Option Bool :=
 (hP p0).bind λt12 =>
 cond t12
 (some true)
 ((fH p0).bind λt15 =>
 (bo t15.1 t15.2).bind λt20 =>
 (eY t20 500).bind λt23 =>
 (cK t20).bind λt27 =>
 (gp p0).bind λt29 =>
 (loop (λz=>cN t23 z) 0).bind (Sum.elim (λd =>
 (f7 t23.1).bind λt62 =>
 (cond t62 (some ((t23.2.length:Int)==t27)) (some false)).bind λt68 =>
 (cond t68
 ((bQ t23.1).bind λt71 =>
 some t71)
 (some false)).bind λt72 =>
 (cond t72
 ((cK t29).bind λt75 =>
 (gt t29).bind λt77 =>
 some (t75==t77))
 (some false)).bind λt79 =>
 (cond t79
 ((f7 t29).bind λt82 =>
 some (t82==((t29.2.2.2.2.2.2.2.2.2.2.2.2.1.length:Int)==0)))
 (some false)).bind λt88 =>
 some t88) (λr=>some r)))
def C4:Fn:=⟨[.val false uh false],[.val false tK (some true)],λa=>AW a⟩
def FH:List (Nat×sJ):=[(0,⟨⟨(10,false,[dI])::us 44 16 [],[]⟩,
 ⟨[],[]⟩,some ⟨[(2,false,[dB])],[]⟩⟩)]
theorem m_laws_FnAllGo:Bg Tryz.prog 6 C4:=Qa pO 6 Tryz.f6 FH C4 Tryz.func6
def cO (l0:List sD) (t8:Int) (out3:List sD):Option ((Int×List sD)⊕(List sD)) :=
 cond (decide (t8<(l0.length:Int)))
 ((at? l0 t8).bind λx10 =>
 cond (!x10.2.2.2.2)
 (cond (decide (x10.2.2.2.1>=4))
 (some (.inl (sy (t8+1),out3)))
 ((sT out3 [(x10.1,x10.2.1,x10.2.2.1,sy (x10.2.2.2.1+1),x10.2.2.2.2)]).bind λzs25 =>
 some (.inl (sy (t8+1),zs25))))
 ((sT out3 [x10]).bind λzs25_1 =>
 some (.inl (sy (t8+1),zs25_1))))
 (some (.inr out3))
def hU (l0:List sD):Option (List sD) :=
 (loop (λz=>cO l0 z.1 z.2) (0,[])).bind λd =>
 some d
def l8 (b0:sx):Option sx :=
 (ap b0).bind λt5 =>
 (bm b0).bind λt7 =>
 cond t7
 ((aY b0.2.2.2.2.2.2.1).bind λt10 =>
 (hU b0.2.2.2.1).bind λt14 =>
 (bb (t5.1,t5.2.1,t5.2.2.1,t14,t5.2.2.2.2.1,t5.2.2.2.2.2.1,t10,t5.2.2.2.2.2.2.2.1,t5.2.2.2.2.2.2.2.2.1,t5.2.2.2.2.2.2.2.2.2.1,t5.2.2.2.2.2.2.2.2.2.2)).bind λt16 =>
 some t16)
 (some t5)
def dW (a0:sL) (k1:Int):Option (sL×List vT) :=
 (dz a0).bind λt9 =>
 (bQ a0).bind λt11 =>
 (cond (!t11)
 (some true)
 ((ac k1 0 (sy ((a0.2.2.2.2.2.2.2.2.2.2.2.2.1.length:Int)-1))).bind λt19 =>
 some (!t19))).bind λt21 =>
 cond t21
 (some (t9,[]))
 ((cJ t9 k1).bind λt24 =>
 some t24)
end
end Go.V.W

