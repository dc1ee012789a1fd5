/- The law FnNeeds: part of the proof that for every input it returns true. No condition. -/
import Derived.Test.YtimnkopmjkcppaaGreatFnNeedsP1
set_option linter.unusedVariables false
set_option linter.unusedSimpArgs false
namespace Go.V.W
open Go.Proofs
noncomputable section
def ip:List (FuncId × Fn):=(340,⟨[.ptr cL1Cur none,.val true cBridge false],[.val true cBind (some true)],fun a=>fu a.1 a.2⟩) :: iq
theorem ng:Gd ip:=mkM nh 340 Tryz.f340 [] Tryz.func340
def ci (b1:Bridge) (i6:Int) (b0:List Int) (b1_1:Int) (b2:Int) (out5:List Bind):Option ((Int × List Int × Int × Int × List Bind) ⊕ (List Int × Int × Int × List Bind)) :=
 cond (decide (i6 > 0))
 ((fu (b0,b1_1,b2) b1).bind fun t17 =>
 (app out5 [t17.2]).bind fun zs19 =>
 some (.inl (w64 (i6 - 1),t17.1.1,t17.1.2.1,t17.1.2.2,zs19)))
 (some (.inr (b0,b1_1,b2,out5)))
def ej (c0:L1Cur) (b1:Bridge):Option (L1Cur × List Bind) :=
 (aa c0 4).bind fun t9 =>
 (loop (fun z=>ci b1 z.1 z.2.1 z.2.2.1 z.2.2.2.1 z.2.2.2.2) (t9.2,t9.1.1,t9.1.2.1,t9.1.2.2,([]:List Bind))).bind fun d =>
 some ((d.1,d.2.1,d.2.2.1),d.2.2.2)
def ir:List (FuncId × Fn):=(230,⟨[.ptr cL1Cur none,.val true cBridge false],[.val false (.one (.sl cBind)) (some true)],fun a=>ej a.1 a.2⟩) :: ip
theorem ni:Gd ir:=mkM ng 230 Tryz.f230 [(0,⟨⟨[(5,false,[.own 1000000000]),(6,false,[dI])],[(1,.box [.dat (.sl (.one (.int .u8))),dI,dI]),(1000000000,.root cBind true)]⟩,
 ⟨[(5,false,[.own 1000000300])],[(1,.box [.dat (.sl (.one (.int .u8))),dI,dI]),(1000000300,.root cBind true)]⟩,none⟩)] Tryz.func230
def cj (b1:Bridge) (i6:Int) (b0:List Int) (b1_1:Int) (b2:Int) (b0_1:Int) (b1_2:Int) (b2_1:Int) (b3:Int) (b4:List Bind):Option ((Int × List Int × Int × Int × Int × Int × Int × Int × List Bind) ⊕ (List Int × Int × Int × Int × Int × Int × Int × List Bind)) :=
 cond (decide (i6 > 0))
 ((av (b0,b1_1,b2) b1).bind fun t31 =>
 (app b4 ([(t31.2,5,0,[],[])])).bind fun zs35 =>
 some (.inl (w64 (i6 - 1),t31.1.1,t31.1.2.1,t31.1.2.2,b0_1,b1_2,b2_1,b3,zs35)))
 (some (.inr (b0,b1_1,b2,b0_1,b1_2,b2_1,b3,b4)))
def ck (c0:L1Cur) (b1:Bridge):Option (L1Cur × Pdu) :=
 (ai c0 ([160,161,163,163,165]:List Int)).bind fun t9 =>
 (aa t9.1 100).bind fun t11 =>
 cond (t9.2 == 163)
 ((ej t11.1 b1).bind fun t18 =>
 some (t18.1,(t9.2,t11.2,0,0,t18.2)))
 ((aa t11.1 4).bind fun t22 =>
 (loop (fun z=>cj b1 z.1 z.2.1 z.2.2.1 z.2.2.2.1 z.2.2.2.2.1 z.2.2.2.2.2.1 z.2.2.2.2.2.2.1 z.2.2.2.2.2.2.2.1 z.2.2.2.2.2.2.2.2) (t22.2,t22.1.1,t22.1.2.1,t22.1.2.2,t9.2,t11.2,0,0,[])).bind fun d =>
 cond (d.2.2.2.1 == 165)
 ((aa (d.1,d.2.1,d.2.2.1) 3).bind fun t41 =>
 (aa t41.1 5).bind fun t44 =>
 some (t44.1,(d.2.2.2.1,d.2.2.2.2.1,t41.2,t44.2,d.2.2.2.2.2.2.2)))
 (some ((d.1,d.2.1,d.2.2.1),d.2.2.2)))
def iu:List (FuncId × Fn):=(118,⟨[.ptr cL1Cur none,.val true cBridge false],[.val true cPdu (some true)],fun a=>ck a.1 a.2⟩) :: ir
theorem nj:Gd iu:=mkM ni 118 Tryz.f118 [(0,⟨⟨[(6,false,[dI])],[(1,.box [.dat (.sl (.one (.int .u8))),dI,dI]),(269312,.box [dI,dI,dI,dI,.own 1000000000]),(1000000000,.root cBind true)]⟩,
 ⟨[],[(1,.box [.dat (.sl (.one (.int .u8))),dI,dI]),(269312,.box [dI,dI,dI,dI,.own 1000000300]),(1000000300,.root cBind true)]⟩,none⟩)] Tryz.func118
def cl (i4:Int) (b0:List Int) (b1:Int) (b2:Int) (b0_1:Int) (b1_1:Int) (b2_1:Int) (b3:Int) (b4:List Bind):Option ((Int × List Int × Int × Int × Int × Int × Int × Int × List Bind) ⊕ (List Int × Int × Int × Int × Int × Int × Int × List Bind)) :=
 cond (decide (i4 > 0))
 ((aH (b0,b1,b2)).bind fun t35 =>
 (ay t35.1).bind fun t37 =>
 (app b4 [(t35.2,t37.2.1,t37.2.2.1,t37.2.2.2.1,t37.2.2.2.2)]).bind fun zs40 =>
 some (.inl (w64 (i4 - 1),t37.1.1,t37.1.2.1,t37.1.2.2,b0_1,b1_1,b2_1,b3,zs40)))
 (some (.inr (b0,b1,b2,b0_1,b1_1,b2_1,b3,b4)))
def cm (i4_1:Int) (b0_4:List Int) (b1_4:Int) (b2_4:Int) (b0_5:Int) (b1_5:Int) (b2_5:Int) (b3_2:Int) (b4_2:List Bind):Option ((Int × List Int × Int × Int × Int × Int × Int × Int × List Bind) ⊕ (List Int × Int × Int × Int × Int × Int × Int × List Bind)) :=
 cond (decide (i4_1 > 0))
 ((aH (b0_4,b1_4,b2_4)).bind fun t35_1 =>
 (ay t35_1.1).bind fun t37_1 =>
 (app b4_2 [(t35_1.2,t37_1.2.1,t37_1.2.2.1,t37_1.2.2.2.1,t37_1.2.2.2.2)]).bind fun zs40_1 =>
 some (.inl (w64 (i4_1 - 1),t37_1.1.1,t37_1.1.2.1,t37_1.1.2.2,b0_5,b1_5,b2_5,b3_2,zs40_1)))
 (some (.inr (b0_4,b1_4,b2_4,b0_5,b1_5,b2_5,b3_2,b4_2)))
def fv (c0:L1Cur):Option (L1Cur × Pdu) :=
 (ai c0 ([160,161,162,163,165]:List Int)).bind fun t7 =>
 (cn t7.1).bind fun t9 =>
 (aw t9.2).bind fun t10 =>
 (cond (t7.2 == 162) (some true) (some (t7.2 == 165))).bind fun t19 =>
 cond t19
 ((aa t9.1 4).bind fun t21 =>
 (aa t21.1 5).bind fun t24 =>
 (aa t24.1 4).bind fun t27 =>
 (loop (fun z=>cl z.1 z.2.1 z.2.2.1 z.2.2.2.1 z.2.2.2.2.1 z.2.2.2.2.2.1 z.2.2.2.2.2.2.1 z.2.2.2.2.2.2.2.1 z.2.2.2.2.2.2.2.2) (t27.2,t27.1.1,t27.1.2.1,t27.1.2.2,t7.2,t10,t21.2,t24.2,[])).bind fun d =>
 some ((d.1,d.2.1,d.2.2.1),d.2.2.2))
 ((aa t9.1 4).bind fun t27_1 =>
 (loop (fun z=>cm z.1 z.2.1 z.2.2.1 z.2.2.2.1 z.2.2.2.2.1 z.2.2.2.2.2.1 z.2.2.2.2.2.2.1 z.2.2.2.2.2.2.2.1 z.2.2.2.2.2.2.2.2) (t27_1.2,t27_1.1.1,t27_1.1.2.1,t27_1.1.2.2,t7.2,t10,0,0,[])).bind fun d_1 =>
 some ((d_1.1,d_1.2.1,d_1.2.2.1),d_1.2.2.2))
def iv:List (FuncId × Fn):=(177,⟨[.ptr cL1Cur none],[.val true cPdu (some true)],fun a=>fv a⟩) :: iu
theorem nk:Gd iv:=mkM nj 177 Tryz.f177 [(0,⟨⟨[(4,false,[dI])],[(1,.box [.dat (.sl (.one (.int .u8))),dI,dI]),(270336,.box [dI,dI,dI,dI,.own 1000000000]),(1000000000,.root cBind true)]⟩,
 ⟨[],[(1,.box [.dat (.sl (.one (.int .u8))),dI,dI]),(270336,.box [dI,dI,dI,dI,.own 1000000300]),(1000000300,.root cBind true)]⟩,none⟩)] Tryz.func177
def fw (c0:L1Cur) (b1:List Int):Option (L1Cur × List Int) :=
 cond ((b1.length:Int) == 0)
 (some (c0,b1))
 ((aa c0 5).bind fun t10 =>
 cond (t10.2 == 0)
 ((aa t10.1 (b1.length:Int)).bind fun t17 =>
 (ai t17.1 ([0,1,2,4,5,6,48,127,128,129,160,255]:List Int)).bind fun t20 =>
 (ix b1.length t17.2).bind fun j22 =>
 (b1[j22]?).bind fun x =>
 some (t20.1,b1.set j22 (IntKind.u8.wrap (t20.2))))
 (cond (t10.2 == 1)
 ((app b1 ([3]:List Int)).bind fun zs27 =>
 some (t10.1,zs27))
 (cond (t10.2 == 2)
 ((aa t10.1 (b1.length:Int)).bind fun t34 =>
 (cutIx b1.length 0 t34.2).bind fun p =>
 some (t34.1,(b1.take p.2).drop p.1))
 (some (t10.1,b1)))))
def iw:List (FuncId × Fn):=(180,⟨[.ptr cL1Cur none,.val false cNY true],[.val false cNY none],fun a=>fw a.1 a.2⟩) :: iv
theorem nl:Gd iw:=mkM nk 180 Tryz.f180 [] Tryz.func180
def co (word0:List UInt8) (p1:Pdu):Option (List Int) :=
 (em p1).bind fun t8 =>
 (cond ((t8.length:Int) == 0) (some true) (some (decide ((word0.length:Int) > 20)))).bind fun t16 =>
 cond t16
 (some ([]:List Int))
 ((aQ 1).bind fun t19 =>
 (aq ([]:List Int) 2 t19).bind fun t20 =>
 (aq t20 4 (intsOf word0)).bind fun t23 =>
 (app t23 t8).bind fun zs25 =>
 cond (decide ((zs25.length:Int) > 250))
 (some ([]:List Int))
 ((aq ([]:List Int) 48 zs25).bind fun t32 =>
 some t32))
def iy:List (FuncId × Fn):=(181,⟨[.val false cNS false,.val true cPdu false],[.val false cNY (some true)],fun a=>co a.1 a.2⟩) :: iw
theorem nn:Gd iy:=mkM nl 181 Tryz.f181 [] Tryz.func181
def cp (c0:L1Cur) (b1:Bridge):Option (L1Cur × List Int) :=
 (aa c0 10).bind fun t6 =>
 cond (t6.2 == 0)
 ((ck t6.1 b1).bind fun t12 =>
 (co [121,97,114,100] t12.2).bind fun t13 =>
 (fw t12.1 t13).bind fun t14 =>
 some t14)
 (cond (t6.2 == 1)
 ((ck t6.1 b1).bind fun t19 =>
 (co [111,116,104,101,114] t19.2).bind fun t20 =>
 some (t19.1,t20))
 (cond (t6.2 == 2)
 ((fv t6.1).bind fun t24 =>
 (co [121,97,114,100] t24.2).bind fun t25 =>
 some (t24.1,t25))
 ((ck t6.1 b1).bind fun t28 =>
 (co [121,97,114,100] t28.2).bind fun t29 =>
 some (t28.1,t29))))
def iz:List (FuncId × Fn):=(175,⟨[.ptr cL1Cur none,.val true cBridge false],[.val false cNY none],fun a=>cp a.1 a.2⟩) :: iy
theorem np:Gd iz:=mkM nn 175 Tryz.f175 [] Tryz.func175
def cq (l0:List Fent) (i4:Int) (out3:List Fent):Option ((Int × List Fent) ⊕ (List Fent)) :=
 cond (decide (i4 < (l0.length:Int)))
 ((at? l0 i4).bind fun x15 =>
 cond x15.2.2.2.2
 ((app out3 [x15]).bind fun zs22 =>
 some (.inl (w64 (i4 + 1),zs22)))
 (cond (decide (x15.2.2.2.1 < 4))
 ((app out3 [(x15.1,x15.2.1,x15.2.2.1,w64 (x15.2.2.2.1 + 1),x15.2.2.2.2)]).bind fun zs33 =>
 some (.inl (w64 (i4 + 1),zs33)))
 (some (.inl (w64 (i4 + 1),out3)))))
 (some (.inr out3))
def fx (l0:List Fent):Option (List Fent) :=
 (loop (fun z=>cq l0 z.1 z.2) (0,([]:List Fent))).bind fun d =>
 some d
def iA:List (FuncId × Fn):=(370,⟨[.val false (.one (.sl cFent)) false],[.val false (.one (.sl cFent)) (some true)],fun a=>fx a⟩) :: iz
theorem nq:Gd iA:=mkM np 370 Tryz.f370 [(0,⟨⟨[(3,false,[.own 1000000000]),(4,false,[dI])],[(1000000000,.root cFent true)]⟩,
 ⟨[(3,false,[.own 1000000300])],[(1000000300,.root cFent true)]⟩,none⟩)] Tryz.func370
def de (b0:Bridge):Option Bridge :=
 (am b0).bind fun t5 =>
 (aR b0).bind fun t7 =>
 cond (!t7)
 (some t5)
 ((aZ b0.2.2.2.2.2.2.1).bind fun t12 =>
 (fx b0.2.2.2.1).bind fun t16 =>
 (bL (t5.1,t5.2.1,t5.2.2.1,t16,t5.2.2.2.2.1,t5.2.2.2.2.2.1,t12,t5.2.2.2.2.2.2.2.1,t5.2.2.2.2.2.2.2.2.1,t5.2.2.2.2.2.2.2.2.2.1,t5.2.2.2.2.2.2.2.2.2.2)).bind fun t19 =>
 some t19)
def iB:List (FuncId × Fn):=(281,⟨[.val true cBridge false],[.val true cBridge (some true)],fun a=>de a⟩) :: iA
theorem nr:Gd iB:=mkM nq 281 Tryz.f281 [] Tryz.func281
def fy (i6:Int) (b0:List Int) (b1:Int) (b2:Int) (b0_1:Int) (b1_1:List UInt8) (b6:Int) (b7:Int) (b8:Int) (b9:Int) (b10:Int) (b11:List UInt8) (b13:Int) (b14:Int) (b2_1:List Pt) (b3:List Fent) (b4:List Vrow) (b5:List Int) (b12:List Job):Option ((Int × List Int × Int × Int × Int × List UInt8 × Int × Int × Int × Int × Int × List UInt8 × Int × Int × List Pt × List Fent × List Vrow × List Int × List Job) ⊕ (List Int × Int × Int × Int × List UInt8 × Int × Int × Int × Int × Int × List UInt8 × Int × Int × List Pt × List Fent × List Vrow × List Int × List Job)) :=
 cond (decide (i6 > 0))
 ((aa (b0,b1,b2) 6).bind fun t19 =>
 cond (t19.2 == 0)
 (cond (t19.2 == 0)
 ((cp t19.1 (b0_1,b1_1,b2_1,b3,b4,b5,b6,b7,b8,b9,b10)).bind fun t38 =>
 (bM (b0_1,b1_1,b2_1,b3,b4,b5,b6,b7,b8,b9,b10,b11,b12,b13,b14) t38.2).bind fun t39 =>
 some (.inl (w64 (i6 - 1),t38.1.1,t38.1.2.1,t38.1.2.2,t39.1,t39.2.1,t39.2.2.2.2.2.2.1,t39.2.2.2.2.2.2.2.1,t39.2.2.2.2.2.2.2.2.1,t39.2.2.2.2.2.2.2.2.2.1,t39.2.2.2.2.2.2.2.2.2.2.1,t39.2.2.2.2.2.2.2.2.2.2.2.1,t39.2.2.2.2.2.2.2.2.2.2.2.2.2.1,t39.2.2.2.2.2.2.2.2.2.2.2.2.2.2,t39.2.2.1,t39.2.2.2.1,t39.2.2.2.2.1,t39.2.2.2.2.2.1,t39.2.2.2.2.2.2.2.2.2.2.2.2.1)))
 (cond (t19.2 == 2)
 ((de (b0_1,b1_1,b2_1,b3,b4,b5,b6,b7,b8,b9,b10)).bind fun t44 =>
 some (.inl (w64 (i6 - 1),t19.1.1,t19.1.2.1,t19.1.2.2,t44.1,t44.2.1,t44.2.2.2.2.2.2.1,t44.2.2.2.2.2.2.2.1,t44.2.2.2.2.2.2.2.2.1,t44.2.2.2.2.2.2.2.2.2.1,t44.2.2.2.2.2.2.2.2.2.2,b11,b13,b14,t44.2.2.1,t44.2.2.2.1,t44.2.2.2.2.1,t44.2.2.2.2.2.1,b12)))
 ((aa t19.1 (w64 ((b12.length:Int) + 1))).bind fun t27 =>
 (ba (b0_1,b1_1,b2_1,b3,b4,b5,b6,b7,b8,b9,b10,b11,b12,b13,b14) t27.2).bind fun t28 =>
 some (.inl (w64 (i6 - 1),t27.1.1,t27.1.2.1,t27.1.2.2,t28.1.1,t28.1.2.1,t28.1.2.2.2.2.2.2.1,t28.1.2.2.2.2.2.2.2.1,t28.1.2.2.2.2.2.2.2.2.1,t28.1.2.2.2.2.2.2.2.2.2.1,t28.1.2.2.2.2.2.2.2.2.2.2.1,t28.1.2.2.2.2.2.2.2.2.2.2.2.1,t28.1.2.2.2.2.2.2.2.2.2.2.2.2.2.1,t28.1.2.2.2.2.2.2.2.2.2.2.2.2.2.2,t28.1.2.2.1,t28.1.2.2.2.1,t28.1.2.2.2.2.1,t28.1.2.2.2.2.2.1,t28.1.2.2.2.2.2.2.2.2.2.2.2.2.1)))))
 (cond (t19.2 == 1)
 ((cp t19.1 (b0_1,b1_1,b2_1,b3,b4,b5,b6,b7,b8,b9,b10)).bind fun t38_1 =>
 (bM (b0_1,b1_1,b2_1,b3,b4,b5,b6,b7,b8,b9,b10,b11,b12,b13,b14) t38_1.2).bind fun t39_1 =>
 some (.inl (w64 (i6 - 1),t38_1.1.1,t38_1.1.2.1,t38_1.1.2.2,t39_1.1,t39_1.2.1,t39_1.2.2.2.2.2.2.1,t39_1.2.2.2.2.2.2.2.1,t39_1.2.2.2.2.2.2.2.2.1,t39_1.2.2.2.2.2.2.2.2.2.1,t39_1.2.2.2.2.2.2.2.2.2.2.1,t39_1.2.2.2.2.2.2.2.2.2.2.2.1,t39_1.2.2.2.2.2.2.2.2.2.2.2.2.2.1,t39_1.2.2.2.2.2.2.2.2.2.2.2.2.2.2,t39_1.2.2.1,t39_1.2.2.2.1,t39_1.2.2.2.2.1,t39_1.2.2.2.2.2.1,t39_1.2.2.2.2.2.2.2.2.2.2.2.2.1)))
 (cond (t19.2 == 2)
 ((de (b0_1,b1_1,b2_1,b3,b4,b5,b6,b7,b8,b9,b10)).bind fun t44_1 =>
 some (.inl (w64 (i6 - 1),t19.1.1,t19.1.2.1,t19.1.2.2,t44_1.1,t44_1.2.1,t44_1.2.2.2.2.2.2.1,t44_1.2.2.2.2.2.2.2.1,t44_1.2.2.2.2.2.2.2.2.1,t44_1.2.2.2.2.2.2.2.2.2.1,t44_1.2.2.2.2.2.2.2.2.2.2,b11,b13,b14,t44_1.2.2.1,t44_1.2.2.2.1,t44_1.2.2.2.2.1,t44_1.2.2.2.2.2.1,b12)))
 ((aa t19.1 (w64 ((b12.length:Int) + 1))).bind fun t27_1 =>
 (ba (b0_1,b1_1,b2_1,b3,b4,b5,b6,b7,b8,b9,b10,b11,b12,b13,b14) t27_1.2).bind fun t28_1 =>
 some (.inl (w64 (i6 - 1),t27_1.1.1,t27_1.1.2.1,t27_1.1.2.2,t28_1.1.1,t28_1.1.2.1,t28_1.1.2.2.2.2.2.2.1,t28_1.1.2.2.2.2.2.2.2.1,t28_1.1.2.2.2.2.2.2.2.2.1,t28_1.1.2.2.2.2.2.2.2.2.2.1,t28_1.1.2.2.2.2.2.2.2.2.2.2.1,t28_1.1.2.2.2.2.2.2.2.2.2.2.2.1,t28_1.1.2.2.2.2.2.2.2.2.2.2.2.2.2.1,t28_1.1.2.2.2.2.2.2.2.2.2.2.2.2.2.2,t28_1.1.2.2.1,t28_1.1.2.2.2.1,t28_1.1.2.2.2.2.1,t28_1.1.2.2.2.2.2.1,t28_1.1.2.2.2.2.2.2.2.2.2.2.2.2.1))))))
 (some (.inr (b0,b1,b2,b0_1,b1_1,b6,b7,b8,b9,b10,b11,b13,b14,b2_1,b3,b4,b5,b12)))
def fA (c0:L1Cur) (most1:Int):Option (L1Cur × Agent) :=
 (fB c0).bind fun t8 =>
 (fC t8.2 [121,97,114,100]).bind fun t9 =>
 (aa t8.1 (w64 (most1 + 1))).bind fun t13 =>
 (loop (fun z=>fy z.1 z.2.1 z.2.2.1 z.2.2.2.1 z.2.2.2.2.1 z.2.2.2.2.2.1 z.2.2.2.2.2.2.1 z.2.2.2.2.2.2.2.1 z.2.2.2.2.2.2.2.2.1 z.2.2.2.2.2.2.2.2.2.1 z.2.2.2.2.2.2.2.2.2.2.1 z.2.2.2.2.2.2.2.2.2.2.2.1 z.2.2.2.2.2.2.2.2.2.2.2.2.1 z.2.2.2.2.2.2.2.2.2.2.2.2.2.1 z.2.2.2.2.2.2.2.2.2.2.2.2.2.2.1 z.2.2.2.2.2.2.2.2.2.2.2.2.2.2.2.1 z.2.2.2.2.2.2.2.2.2.2.2.2.2.2.2.2.1 z.2.2.2.2.2.2.2.2.2.2.2.2.2.2.2.2.2.1 z.2.2.2.2.2.2.2.2.2.2.2.2.2.2.2.2.2.2) (t13.2,t13.1.1,t13.1.2.1,t13.1.2.2,t9.1,t9.2.1,t9.2.2.2.2.2.2.1,t9.2.2.2.2.2.2.2.1,t9.2.2.2.2.2.2.2.2.1,t9.2.2.2.2.2.2.2.2.2.1,t9.2.2.2.2.2.2.2.2.2.2.1,t9.2.2.2.2.2.2.2.2.2.2.2.1,t9.2.2.2.2.2.2.2.2.2.2.2.2.2.1,t9.2.2.2.2.2.2.2.2.2.2.2.2.2.2,t9.2.2.1,t9.2.2.2.1,t9.2.2.2.2.1,t9.2.2.2.2.2.1,t9.2.2.2.2.2.2.2.2.2.2.2.2.1)).bind fun d =>
 some ((d.1,d.2.1,d.2.2.1),(d.2.2.2.1,d.2.2.2.2.1,d.2.2.2.2.2.2.2.2.2.2.2.2.2.1,d.2.2.2.2.2.2.2.2.2.2.2.2.2.2.1,d.2.2.2.2.2.2.2.2.2.2.2.2.2.2.2.1,d.2.2.2.2.2.2.2.2.2.2.2.2.2.2.2.2.1,d.2.2.2.2.2.1,d.2.2.2.2.2.2.1,d.2.2.2.2.2.2.2.1,d.2.2.2.2.2.2.2.2.1,d.2.2.2.2.2.2.2.2.2.1,d.2.2.2.2.2.2.2.2.2.2.1,d.2.2.2.2.2.2.2.2.2.2.2.2.2.2.2.2.2,d.2.2.2.2.2.2.2.2.2.2.2.1,d.2.2.2.2.2.2.2.2.2.2.2.2.1))
def iC:List (FuncId × Fn):=(173,⟨[.ptr cL1Cur none,.val false cNI false],[.val true cAgent (some false)],fun a=>fA a.1 a.2⟩) :: iB
theorem nu:Gd iC:=mkM nr 173 Tryz.f173 [(0,⟨⟨[(6,false,[dI])],[(1,.box [.dat (.sl (.one (.int .u8))),dI,dI]),(266240,.box [dI,dS,.own 1000000000,.own 1000000001,.own 1000000002,.own 1000000003,dI,dI,dI,dI,dI,dS,.own 1000000004,dI,dI]),(1000000000,.root cPt false),(1000000001,.root cFent false),(1000000002,.root cVrow false),(1000000003,.root cNI false),(1000000004,.root cJob false)]⟩,
 ⟨[],[(1,.box [.dat (.sl (.one (.int .u8))),dI,dI]),(266240,.box [dI,dS,.own 1000000300,.own 1000000301,.own 1000000302,.own 1000000303,dI,dI,dI,dI,dI,dS,.own 1000000304,dI,dI]),(1000000300,.root cPt false),(1000000301,.root cFent false),(1000000302,.root cVrow false),(1000000303,.root cNI false),(1000000304,.root cJob false)]⟩,none⟩)] Tryz.func173
def cr (code0:List Int) (most1:Int):Option Int :=
 let n5:=w64 (3 + (w64 ((code0.length:Int).tdiv 12)))
 cond (decide (n5 > most1)) (some most1) (some n5)
def iD:List (FuncId × Fn):=(174,⟨[.val false cNY false,.val false cNI false],[.val false cNI (some true)],fun a=>cr a.1 a.2⟩) :: iC
theorem nv:Gd iD:=mkM nu 174 Tryz.f174 [] Tryz.func174
def fD (code0:List Int):Option (Agent × List Int) :=
 (fE code0).bind fun t7 =>
 (cr code0 14).bind fun t10 =>
 (fA t7 (w64 (6 + t10))).bind fun t12 =>
 (cp t12.1 (t12.2.1,t12.2.2.1,t12.2.2.2.1,t12.2.2.2.2.1,t12.2.2.2.2.2.1,t12.2.2.2.2.2.2.1,t12.2.2.2.2.2.2.2.1,t12.2.2.2.2.2.2.2.2.1,t12.2.2.2.2.2.2.2.2.2.1,t12.2.2.2.2.2.2.2.2.2.2.1,t12.2.2.2.2.2.2.2.2.2.2.2.1)).bind fun t17 =>
 some (t12.2,t17.2)
def iE:List (FuncId × Fn):=(59,⟨[.val false cNY false],[.val true cAgent none,.val false cNY none],fun a=>fD a⟩) :: iD
theorem nx:Gd iE:=mkM nv 59 Tryz.f59 [] Tryz.func59
def ct (a0:Agent):Option Bool :=
 let t2:=(a0.2.2.2.2.2.2.2.2.2.2.2.2.1.length:Int) == 0
 some t2
def iF:List (FuncId × Fn):=(64,⟨[.val true cAgent false],[.val false cNB (some true)],fun a=>ct a⟩) :: iE
theorem ny:Gd iF:=mkM nx 64 Tryz.f64 [] Tryz.func64
def ac (n0:Int) (low1:Int) (high2:Int):Option Bool :=
 (cond (decide (n0 ≥ low1)) (some (decide (n0 ≤ high2))) (some false)).bind fun t14 =>
 some t14
def iG:List (FuncId × Fn):=(133,⟨[.val false cNI false,.val false cNI false,.val false cNI false],[.val false cNB (some true)],fun a=>ac a.1 a.2.1 a.2.2⟩) :: iF
theorem nz:Gd iG:=mkM ny 133 Tryz.f133 [] Tryz.func133
def bb (n0:Int):Option Bool :=
 (ac n0 0 1000000).bind fun t4 =>
 some t4
def iH:List (FuncId × Fn):=(192,⟨[.val false cNI false],[.val false cNB (some true)],fun a=>bb a⟩) :: iG
theorem nA:Gd iH:=mkM nz 192 Tryz.f192 [] Tryz.func192
def cu (v0:Vec):Option Bool :=
 (ac v0.1 1 99).bind fun t5 =>
 (cond t5
 ((ac v0.2.1 0 100000).bind fun t9 =>
 some t9)
 (some false)).bind fun t10 =>
 (cond t10
 ((ac v0.2.2.1 0 10).bind fun t14 =>
 some t14)
 (some false)).bind fun t15 =>
 (cond t15
 ((ac v0.2.2.2.1 1 99).bind fun t19 =>
 some t19)
 (some false)).bind fun t20 =>
 (cond t20
 ((ac v0.2.2.2.2 0 7).bind fun t24 =>
 some t24)
 (some false)).bind fun t25 =>
 some t25
def iI:List (FuncId × Fn):=(321,⟨[.val true cVec false],[.val false cNB (some true)],fun a=>cu a⟩) :: iH
theorem nB:Gd iI:=mkM nA 321 Tryz.f321 [] Tryz.func321
def eo (p0:Pt):Option Bool :=
 (ac p0.2.1 1 1000).bind fun t5 =>
 (cond (!t5)
 (some true)
 ((cond p0.2.2.1 (some (!p0.1)) (some false)).bind fun t14 =>
 some t14)).bind fun t15 =>
 cond t15
 (some false)
 (cond p0.2.2.1
 ((cu p0.2.2.2).bind fun t20 =>
 some t20)
 (let t2:=p0.2.2.2.1 == 0 && (p0.2.2.2.2.1 == 0 && (p0.2.2.2.2.2.1 == 0 && (p0.2.2.2.2.2.2.1 == 0 && (p0.2.2.2.2.2.2.2 == 0))))
 some t2))
def iJ:List (FuncId × Fn):=(234,⟨[.val true cPt false],[.val false cNB (some true)],fun a=>eo a⟩) :: iI
theorem nC:Gd iJ:=mkM nB 234 Tryz.f234 [] Tryz.func234
def dg (e0:Fent):Option Bool :=
 (ac e0.1 1 99).bind fun t5 =>
 (cond t5
 ((ac e0.2.1 1 9999).bind fun t9 =>
 some t9)
 (some false)).bind fun t10 =>
 (cond t10
 ((ac e0.2.2.1 0 7).bind fun t14 =>
 some t14)
 (some false)).bind fun t15 =>
 (cond t15
 ((ac e0.2.2.2.1 0 4).bind fun t19 =>
 some t19)
 (some false)).bind fun t20 =>
 (cond t20
 ((cond (!e0.2.2.2.2) (some true) (some (e0.2.2.2.1 == 0))).bind fun t29 =>
 some t29)
 (some false)).bind fun t30 =>
 some t30
def iK:List (FuncId × Fn):=(343,⟨[.val true cFent false],[.val false cNB (some true)],fun a=>dg a⟩) :: iJ
theorem nD:Gd iK:=mkM nC 343 Tryz.f343 [] Tryz.func343
def ep (e0:Fent) (tag1:Int) (mac2:Int):Option Bool :=
 (cond (decide (e0.1 > tag1))
 (some true)
 ((cond (e0.1 == tag1) (some (decide (e0.2.1 > mac2))) (some false)).bind fun t21 =>
 some t21)).bind fun t22 =>
 some t22
def iL:List (FuncId × Fn):=(344,⟨[.val true cFent false,.val false cNI false,.val false cNI false],[.val false cNB (some true)],fun a=>ep a.1 a.2.1 a.2.2⟩) :: iK
theorem nE:Gd iL:=mkM nD 344 Tryz.f344 [] Tryz.func344
def gL (l0:List Fent) (t7:Int):Option (Int ⊕ (Unit ⊕ Bool)) :=
 cond (decide (t7 < (l0.length:Int)))
 ((at? l0 t7).bind fun x10 =>
 (dg x10).bind fun t13 =>
 (cond (!t13)
 (some true)
 ((cond (decide (t7 > 0))
 ((at? l0 (w64 (t7 - 1))).bind fun x23 =>
 (at? l0 (w64 (t7 - 1))).bind fun x29 =>
 (ep x10 x23.1 x29.2.1).bind fun t32 =>
 some (!t32))
 (some false)).bind fun t34 =>
 some t34)).bind fun t35 =>
 cond t35 (some (.inr (.inr false))) (some (.inl (w64 (t7 + 1)))))
 (some (.inr (.inl ())))
def fF (l0:List Fent):Option Bool :=
 (loop (fun z=>gL l0 z) 0).bind (Sum.elim (fun d =>
 let t2:=decide ((l0.length:Int) ≤ 12)
 some t2) (fun r=>some r))
def iM:List (FuncId × Fn):=(235,⟨[.val false (.one (.sl cFent)) false],[.val false cNB (some true)],fun a=>fF a⟩) :: iL
theorem nF:Gd iM:=mkM nE 235 Tryz.f235 [(0,⟨⟨(7,false,[dI]) :: us 16 19 [],[]⟩,
 ⟨[],[]⟩,some ⟨[(2,false,[dB])],[]⟩⟩)] Tryz.func235
def es (ports0:Int):Option Int :=
 (shl .i64 1 ports0).bind fun t4 =>
 some (w64 (t4 - 1))
def iN:List (FuncId × Fn):=(345,⟨[.val false cNI false],[.val false cNI (some true)],fun a=>es a⟩) :: iM
theorem nG:Gd iN:=mkM nF 345 Tryz.f345 [] Tryz.func345
def aD (v0:Vtab) (id1:Int) (t10:Int):Option (Int ⊕ (Unit ⊕ Int)) :=
 cond (decide (t10 < (v0.1.length:Int)))
 ((at? v0.1 t10).bind fun x13 =>
 cond (x13.1 == id1) (some (.inr (.inr t10))) (some (.inl (w64 (t10 + 1)))))
 (some (.inr (.inl ())))
def ao (v0:Vtab) (id1:Int):Option Int :=
 (loop (fun z=>aD v0 id1 z) 0).bind (Sum.elim (fun d =>
 some (-1)) (fun r=>some r))
def iO:List (FuncId × Fn):=(346,⟨[.val true cVtab false,.val false cNI false],[.val false cNI (some true)],fun a=>ao a.1 a.2⟩) :: iN
theorem nH:Gd iO:=mkM nG 346 Tryz.f346 [(0,⟨⟨[(10,false,[dI])],[]⟩,
 ⟨[],[]⟩,some ⟨[(4,false,[dI])],[]⟩⟩)] Tryz.func346
def gM (p0:Vtab) (i1:Int) (t28:Int):Option (Int ⊕ (Unit ⊕ Bool)) :=
 cond (decide (t28 < (p0.1.length:Int)))
 ((at? p0.1 t28).bind fun x31 =>
 (ac x31.1 1 99).bind fun t35 =>
 (cond (!t35)
 (some true)
 ((cond (decide (t28 > 0))
 ((at? p0.1 (w64 (t28 - 1))).bind fun x45 =>
 some (decide (x45.1 ≥ x31.1)))
 (some false)).bind fun t51 =>
 some t51)).bind fun t52 =>
 (cond t52
 (some true)
 ((es i1).bind fun t57 =>
 (ac x31.2.1 0 t57).bind fun t58 =>
 some (!t58))).bind fun t60 =>
 (cond t60 (some true) (some ((bclr .i64 x31.2.2 x31.2.1) != 0))).bind fun t68 =>
 cond t68 (some (.inr (.inr false))) (some (.inl (w64 (t28 + 1)))))
 (some (.inr (.inl ())))
def fG (p0:Vtab) (t73:Int):Option (Int ⊕ (Unit ⊕ Bool)) :=
 cond (decide (t73 < (p0.2.length:Int)))
 ((at? p0.2 t73).bind fun x75 =>
 (ao p0 x75).bind fun t79 =>
 cond (decide (t79 < 0)) (some (.inr (.inr false))) (some (.inl (w64 (t73 + 1)))))
 (some (.inr (.inl ())))
def dh (p0:Vtab) (i1:Int):Option Bool :=
 (ac i1 1 6).bind fun t10 =>
 (cond (!t10) (some true) (some ((p0.2.length:Int) != i1))).bind fun t18 =>
 (cond t18 (some true) (some (decide ((p0.1.length:Int) > 6)))).bind fun t24 =>
 cond t24
 (some false)
 ((loop (fun z=>gM p0 i1 z) 0).bind (Sum.elim (fun d =>
 (loop (fun z=>fG p0 z) 0).bind (Sum.elim (fun d_1 =>
 some true) (fun r=>some r))) (fun r_1=>some r_1)))
def iP:List (FuncId × Fn):=(236,⟨[.val true cVtab false,.val false cNI false],[.val false cNB (some true)],fun a=>dh a.1 a.2⟩) :: iO
theorem nI:Gd iP:=mkM nH 236 Tryz.f236 [(0,⟨⟨(28,false,[dI]) :: us 38 14 (us 54 6 (us 62 6 [])),[]⟩,
 ⟨[],[]⟩,some ⟨[(4,false,[dB])],[]⟩⟩),
 (2,⟨⟨[(73,false,[dI])],[]⟩,
 ⟨[],[]⟩,some ⟨[(4,false,[dB])],[]⟩⟩)] Tryz.func236
def gN (p0:Bridge) (t8:Int):Option (Int ⊕ (Unit ⊕ Bool)) :=
 cond (decide (t8 < (p0.2.2.1.length:Int)))
 ((at? p0.2.2.1 t8).bind fun x10 =>
 (eo x10).bind fun t13 =>
 cond (!t13) (some (.inr (.inr false))) (some (.inl (w64 (t8 + 1)))))
 (some (.inr (.inl ())))
def bc (p0:Bridge):Option Bool :=
 (loop (fun z=>gN p0 z) 0).bind (Sum.elim (fun d =>
 (ac p0.1 1 99).bind fun t18 =>
 (cond (!t18) (some true) (some (decide ((p0.2.1.length:Int) > 10)))).bind fun t25 =>
 (cond t25
 (some true)
 ((ac (p0.2.2.1.length:Int) 1 6).bind fun t30 =>
 some (!t30))).bind fun t32 =>
 (cond t32
 (some true)
 ((fF p0.2.2.2.1).bind fun t36 =>
 some (!t36))).bind fun t38 =>
 (cond t38
 (some true)
 ((dh (p0.2.2.2.2.1,p0.2.2.2.2.2.1) (p0.2.2.1.length:Int)).bind fun t45 =>
 some (!t45))).bind fun t47 =>
 cond t47
 (some false)
 ((bb p0.2.2.2.2.2.2.1).bind fun t50 =>
 (cond t50
 ((bb p0.2.2.2.2.2.2.2.1).bind fun t54 =>
 some t54)
 (some false)).bind fun t55 =>
 (cond t55
 ((bb p0.2.2.2.2.2.2.2.2.1).bind fun t59 =>
 some t59)
 (some false)).bind fun t60 =>
 (cond t60
 ((bb p0.2.2.2.2.2.2.2.2.2.1).bind fun t64 =>
 some t64)
 (some false)).bind fun t65 =>
 (cond t65
 ((bb p0.2.2.2.2.2.2.2.2.2.2).bind fun t69 =>
 some t69)
 (some false)).bind fun t70 =>
 some t70)) (fun r=>some r))
def iQ:List (FuncId × Fn):=(120,⟨[.val true cBridge false],[.val false cNB (some true)],fun a=>bc a⟩) :: iP
theorem nJ:Gd iQ:=mkM nI 120 Tryz.f120 [(0,⟨⟨[(8,false,[dI])],[]⟩,
 ⟨[],[]⟩,some ⟨[(2,false,[dB])],[]⟩⟩)] Tryz.func120
def aI (o0:List Int) (t7:Int):Option (Int ⊕ (Unit ⊕ Bool)) :=
 cond (decide (t7 < (o0.length:Int)))
 ((at? o0 t7).bind fun x9 =>
 (ac x9 0 100000).bind fun t12 =>
 cond (!t12) (some (.inr (.inr false))) (some (.inl (w64 (t7 + 1)))))
 (some (.inr (.inl ())))
def ak (o0:List Int):Option Bool :=
 (loop (fun z=>aI o0 z) 0).bind (Sum.elim (fun d =>
 (ac (o0.length:Int) 1 10).bind fun t17 =>
 some t17) (fun r=>some r))
def iR:List (FuncId × Fn):=(134,⟨[.val false cNN false],[.val false cNB (some true)],fun a=>ak a⟩) :: iQ
theorem nK:Gd iR:=mkM nJ 134 Tryz.f134 [(0,⟨⟨[(7,false,[dI])],[]⟩,
 ⟨[],[]⟩,some ⟨[(2,false,[dB])],[]⟩⟩)] Tryz.func134
def dj (a0:List Int) (b1:List Int) (t13:Int):Option (Int ⊕ (Unit ⊕ Bool)) :=
 cond (decide (t13 < (a0.length:Int)))
 ((at? a0 t13).bind fun x18 =>
 (at? b1 t13).bind fun x22 =>
 cond (x18 != x22) (some (.inr (.inr false))) (some (.inl (w64 (t13 + 1)))))
 (some (.inr (.inl ())))
def aE (a0:List Int) (b1:List Int):Option Bool :=
 cond ((a0.length:Int) != (b1.length:Int))
 (some false)
 ((loop (fun z=>dj a0 b1 z) 0).bind (Sum.elim (fun d =>
 some true) (fun r=>some r)))
def iS:List (FuncId × Fn):=(36,⟨[.val false cNN false,.val false cNN false],[.val false cNB (some true)],fun a=>aE a.1 a.2⟩) :: iR
theorem nL:Gd iS:=mkM nK 36 Tryz.f36 [(0,⟨⟨[(13,false,[dI])],[]⟩,
 ⟨[],[]⟩,some ⟨[(4,false,[dB])],[]⟩⟩)] Tryz.func36
def bf (a0:Val) (b1:Val):Option Bool :=
 (cond (a0.1 == b1.1) (some (a0.2.1 == b1.2.1)) (some false)).bind fun t16 =>
 (cond t16 (some (a0.2.2.1 == b1.2.2.1)) (some false)).bind fun t23 =>
 (cond t23
 ((aE a0.2.2.2 b1.2.2.2).bind fun t29 =>
 some t29)
 (some false)).bind fun t30 =>
 some t30
def iT:List (FuncId × Fn):=(37,⟨[.val true cVal false,.val true cVal false],[.val false cNB (some true)],fun a=>bf a.1 a.2⟩) :: iS
theorem nM:Gd iT:=mkM nL 37 Tryz.f37 [] Tryz.func37
def az (n0:Int):Option Bool :=
 (ac n0 (-2147483648) 2147483647).bind fun t4 =>
 some t4
def iU:List (FuncId × Fn):=(136,⟨[.val false cNI false],[.val false cNB (some true)],fun a=>az a⟩) :: iT
theorem nN:Gd iU:=mkM nM 136 Tryz.f136 [] Tryz.func136
def al (v0:Val):Option Bool :=
 cond (v0.1 == 2)
 ((az v0.2.1).bind fun t17 =>
 (cond t17
 ((bf v0 (v0.1,v0.2.1,[],[])).bind fun t43 =>
 some t43)
 (some false)).bind fun t44 =>
 some t44)
 (cond (v0.1 == 4)
 (let ok4:=decide ((v0.2.2.1.length:Int) ≤ 20)
 (cond ok4
 ((bf v0 (v0.1,0,v0.2.2.1,[])).bind fun t43_1 =>
 some t43_1)
 (some false)).bind fun t44_1 =>
 some t44_1)
 (cond (v0.1 == 6)
 ((ak v0.2.2.2).bind fun t34 =>
 (cond t34
 ((bf v0 (v0.1,0,[],v0.2.2.2)).bind fun t43_2 =>
 some t43_2)
 (some false)).bind fun t44_2 =>
 some t44_2)
 (cond (v0.1 == 5)
 (cond (v0.1 == 5)
 (((bf v0 (v0.1,0,[],[])).bind fun t43_3 =>
 some t43_3).bind fun t44_3 =>
 some t44_3)
 (some false))
 (cond (v0.1 == 128)
 (cond (v0.1 == 128)
 (((bf v0 (v0.1,0,[],[])).bind fun t43_4 =>
 some t43_4).bind fun t44_4 =>
 some t44_4)
 (some false))
 (cond (v0.1 == 130)
 (((bf v0 (v0.1,0,[],[])).bind fun t43_5 =>
 some t43_5).bind fun t44_5 =>
 some t44_5)
 (some false))))))
def iV:List (FuncId × Fn):=(135,⟨[.val true cVal false],[.val false cNB (some true)],fun a=>al a⟩) :: iU
theorem nO:Gd iV:=mkM nN 135 Tryz.f135 [] Tryz.func135
def fH (p0:Pdu) (t35:Int):Option (Int ⊕ (Unit ⊕ Bool)) :=
 cond (decide (t35 < (p0.2.2.2.2.length:Int)))
 ((at? p0.2.2.2.2 t35).bind fun x38 =>
 (cond (decide (t35 ≥ 10))
 (some true)
 ((ak x38.1).bind fun t45 =>
 some (!t45))).bind fun t47 =>
 (cond t47
 (some true)
 ((al x38.2).bind fun t51 =>
 some (!t51))).bind fun t53 =>
 cond t53 (some (.inr (.inr false))) (some (.inl (w64 (t35 + 1)))))
 (some (.inr (.inl ())))
def iW (p0:Pdu) (t35_1:Int):Option (Int ⊕ (Unit ⊕ Bool)) :=
 cond (decide (t35_1 < (p0.2.2.2.2.length:Int)))
 ((at? p0.2.2.2.2 t35_1).bind fun x38_1 =>
 (cond (decide (t35_1 ≥ 10))
 (some true)
 ((ak x38_1.1).bind fun t45_1 =>
 some (!t45_1))).bind fun t47_1 =>
 (cond t47_1
 (some true)
 ((al x38_1.2).bind fun t51_1 =>
 some (!t51_1))).bind fun t53_1 =>
 cond t53_1 (some (.inr (.inr false))) (some (.inl (w64 (t35_1 + 1)))))
 (some (.inr (.inl ())))
def iX (p0:Pdu) (t35_2:Int):Option (Int ⊕ (Unit ⊕ Bool)) :=
 cond (decide (t35_2 < (p0.2.2.2.2.length:Int)))
 ((at? p0.2.2.2.2 t35_2).bind fun x38_2 =>
 (cond (decide (t35_2 ≥ 10))
 (some true)
 ((ak x38_2.1).bind fun t45_2 =>
 some (!t45_2))).bind fun t47_2 =>
 (cond t47_2
 (some true)
 ((al x38_2.2).bind fun t51_2 =>
 some (!t51_2))).bind fun t53_2 =>
 cond t53_2 (some (.inr (.inr false))) (some (.inl (w64 (t35_2 + 1)))))
 (some (.inr (.inl ())))
def iY (p0:Pdu) (t35_3:Int):Option (Int ⊕ (Unit ⊕ Bool)) :=
 cond (decide (t35_3 < (p0.2.2.2.2.length:Int)))
 ((at? p0.2.2.2.2 t35_3).bind fun x38_3 =>
 (cond (decide (t35_3 ≥ 10))
 (some true)
 ((ak x38_3.1).bind fun t45_3 =>
 some (!t45_3))).bind fun t47_3 =>
 (cond t47_3
 (some true)
 ((al x38_3.2).bind fun t51_3 =>
 some (!t51_3))).bind fun t53_3 =>
 cond t53_3 (some (.inr (.inr false))) (some (.inl (w64 (t35_3 + 1)))))
 (some (.inr (.inl ())))
def iZ (p0:Pdu) (t35_4:Int):Option (Int ⊕ (Unit ⊕ Bool)) :=
 cond (decide (t35_4 < (p0.2.2.2.2.length:Int)))
 ((at? p0.2.2.2.2 t35_4).bind fun x38_4 =>
 (cond (decide (t35_4 ≥ 10))
 (some true)
 ((ak x38_4.1).bind fun t45_4 =>
 some (!t45_4))).bind fun t47_4 =>
 (cond t47_4
 (some true)
 ((al x38_4.2).bind fun t51_4 =>
 some (!t51_4))).bind fun t53_4 =>
 cond t53_4 (some (.inr (.inr false))) (some (.inl (w64 (t35_4 + 1)))))
 (some (.inr (.inl ())))
def ja (p0:Pdu) (t35_5:Int):Option (Int ⊕ (Unit ⊕ Bool)) :=
 cond (decide (t35_5 < (p0.2.2.2.2.length:Int)))
 ((at? p0.2.2.2.2 t35_5).bind fun x38_5 =>
 (cond (decide (t35_5 ≥ 10))
 (some true)
 ((ak x38_5.1).bind fun t45_5 =>
 some (!t45_5))).bind fun t47_5 =>
 (cond t47_5
 (some true)
 ((al x38_5.2).bind fun t51_5 =>
 some (!t51_5))).bind fun t53_5 =>
 cond t53_5 (some (.inr (.inr false))) (some (.inl (w64 (t35_5 + 1)))))
 (some (.inr (.inl ())))
def jb (p0:Pdu) (t35_6:Int):Option (Int ⊕ (Unit ⊕ Bool)) :=
 cond (decide (t35_6 < (p0.2.2.2.2.length:Int)))
 ((at? p0.2.2.2.2 t35_6).bind fun x38_6 =>
 (cond (decide (t35_6 ≥ 10))
 (some true)
 ((ak x38_6.1).bind fun t45_6 =>
 some (!t45_6))).bind fun t47_6 =>
 (cond t47_6
 (some true)
 ((al x38_6.2).bind fun t51_6 =>
 some (!t51_6))).bind fun t53_6 =>
 cond t53_6 (some (.inr (.inr false))) (some (.inl (w64 (t35_6 + 1)))))
 (some (.inr (.inl ())))
def jc (p0:Pdu) (t35_7:Int):Option (Int ⊕ (Unit ⊕ Bool)) :=
 cond (decide (t35_7 < (p0.2.2.2.2.length:Int)))
 ((at? p0.2.2.2.2 t35_7).bind fun x38_7 =>
 (cond (decide (t35_7 ≥ 10))
 (some true)
 ((ak x38_7.1).bind fun t45_7 =>
 some (!t45_7))).bind fun t47_7 =>
 (cond t47_7
 (some true)
 ((al x38_7.2).bind fun t51_7 =>
 some (!t51_7))).bind fun t53_7 =>
 cond t53_7 (some (.inr (.inr false))) (some (.inl (w64 (t35_7 + 1)))))
 (some (.inr (.inl ())))
def jd (p0:Pdu) (t35_8:Int):Option (Int ⊕ (Unit ⊕ Bool)) :=
 cond (decide (t35_8 < (p0.2.2.2.2.length:Int)))
 ((at? p0.2.2.2.2 t35_8).bind fun x38_8 =>
 (cond (decide (t35_8 ≥ 10))
 (some true)
 ((ak x38_8.1).bind fun t45_8 =>
 some (!t45_8))).bind fun t47_8 =>
 (cond t47_8
 (some true)
 ((al x38_8.2).bind fun t51_8 =>
 some (!t51_8))).bind fun t53_8 =>
 cond t53_8 (some (.inr (.inr false))) (some (.inl (w64 (t35_8 + 1)))))
 (some (.inr (.inl ())))
def cw (p0:Pdu):Option Bool :=
 cond (p0.1 == 160)
 (cond (p0.1 == 160)
 ((cond (p0.2.2.1 != 0) (some true) (some (p0.2.2.2.1 != 0))).bind fun t18 =>
 cond t18
 (some false)
 ((loop (fun z=>fH p0 z) 0).bind (Sum.elim (fun d =>
 (az p0.2.1).bind fun t57 =>
 some t57) (fun r=>some r))))
 (cond (p0.1 == 162)
 (cond (p0.1 == 162)
 ((ac p0.2.2.1 0 1000).bind fun t24 =>
 (cond (!t24)
 (some true)
 ((ac p0.2.2.2.1 0 1000).bind fun t29 =>
 some (!t29))).bind fun t31 =>
 cond t31
 (some false)
 ((loop (fun z=>iW p0 z) 0).bind (Sum.elim (fun d_1 =>
 (az p0.2.1).bind fun t57_1 =>
 some t57_1) (fun r_1=>some r_1))))
 (some false))
 (cond (p0.1 == 165)
 ((ac p0.2.2.1 0 1000).bind fun t24_1 =>
 (cond (!t24_1)
 (some true)
 ((ac p0.2.2.2.1 0 1000).bind fun t29_1 =>
 some (!t29_1))).bind fun t31_1 =>
 cond t31_1
 (some false)
 ((loop (fun z=>iX p0 z) 0).bind (Sum.elim (fun d_2 =>
 (az p0.2.1).bind fun t57_2 =>
 some t57_2) (fun r_2=>some r_2))))
 (some false))))
 (cond (p0.1 == 161)
 (cond (p0.1 == 161)
 ((cond (p0.2.2.1 != 0) (some true) (some (p0.2.2.2.1 != 0))).bind fun t18_1 =>
 cond t18_1
 (some false)
 ((loop (fun z=>iY p0 z) 0).bind (Sum.elim (fun d_3 =>
 (az p0.2.1).bind fun t57_3 =>
 some t57_3) (fun r_3=>some r_3))))
 (cond (p0.1 == 162)
 (cond (p0.1 == 162)
 ((ac p0.2.2.1 0 1000).bind fun t24_2 =>
 (cond (!t24_2)
 (some true)
 ((ac p0.2.2.2.1 0 1000).bind fun t29_2 =>
 some (!t29_2))).bind fun t31_2 =>
 cond t31_2
 (some false)
 ((loop (fun z=>iZ p0 z) 0).bind (Sum.elim (fun d_4 =>
 (az p0.2.1).bind fun t57_4 =>
 some t57_4) (fun r_4=>some r_4))))
 (some false))
 (cond (p0.1 == 165)
 ((ac p0.2.2.1 0 1000).bind fun t24_3 =>
 (cond (!t24_3)
 (some true)
 ((ac p0.2.2.2.1 0 1000).bind fun t29_3 =>
 some (!t29_3))).bind fun t31_3 =>
 cond t31_3
 (some false)
 ((loop (fun z=>ja p0 z) 0).bind (Sum.elim (fun d_5 =>
 (az p0.2.1).bind fun t57_5 =>
 some t57_5) (fun r_5=>some r_5))))
 (some false))))
 (cond (p0.1 == 163)
 ((cond (p0.2.2.1 != 0) (some true) (some (p0.2.2.2.1 != 0))).bind fun t18_2 =>
 cond t18_2
 (some false)
 ((loop (fun z=>jb p0 z) 0).bind (Sum.elim (fun d_6 =>
 (az p0.2.1).bind fun t57_6 =>
 some t57_6) (fun r_6=>some r_6))))
 (cond (p0.1 == 162)
 (cond (p0.1 == 162)
 ((ac p0.2.2.1 0 1000).bind fun t24_4 =>
 (cond (!t24_4)
 (some true)
 ((ac p0.2.2.2.1 0 1000).bind fun t29_4 =>
 some (!t29_4))).bind fun t31_4 =>
 cond t31_4
 (some false)
 ((loop (fun z=>jc p0 z) 0).bind (Sum.elim (fun d_7 =>
 (az p0.2.1).bind fun t57_7 =>
 some t57_7) (fun r_7=>some r_7))))
 (some false))
 (cond (p0.1 == 165)
 ((ac p0.2.2.1 0 1000).bind fun t24_5 =>
 (cond (!t24_5)
 (some true)
 ((ac p0.2.2.2.1 0 1000).bind fun t29_5 =>
 some (!t29_5))).bind fun t31_5 =>
 cond t31_5
 (some false)
 ((loop (fun z=>jd p0 z) 0).bind (Sum.elim (fun d_8 =>
 (az p0.2.1).bind fun t57_8 =>
 some t57_8) (fun r_8=>some r_8))))
 (some false)))))
def je:List (FuncId × Fn):=(34,⟨[.val true cPdu false],[.val false cNB (some true)],fun a=>cw a⟩) :: iV
theorem nP:Gd je:=mkM nO 34 Tryz.f34 [(1,⟨⟨(35,false,[dI]) :: us 43 4 (us 49 4 []),[]⟩,
 ⟨[],[]⟩,some ⟨[(2,false,[dB])],[]⟩⟩)] Tryz.func34
def eu (j0:Job):Option Bool :=
 (ac j0.2.2.1 0 2).bind fun t5 =>
 (cond (!t5)
 (some true)
 ((ac j0.2.2.2.2.2.2.2.2.2.2.2.2.2.2.2.2.2.2.2.1 0 (j0.2.2.2.2.2.2.2.1.length:Int)).bind fun t14 =>
 some (!t14))).bind fun t16 =>
 (cond t16
 (some true)
 ((ac j0.2.2.2.2.2.2.2.2.2.2.2.2.2.2.2.2.2.2.2.2 0 3).bind fun t20 =>
 some (!t20))).bind fun t22 =>
 cond t22
 (some false)
 ((cond (j0.2.2.1 == 0)
 (some true)
 ((cw (j0.2.2.2.1,j0.2.2.2.2.1,j0.2.2.2.2.2.1,j0.2.2.2.2.2.2.1,j0.2.2.2.2.2.2.2.1)).bind fun t29 =>
 (cond t29 (some (j0.2.2.2.1 != 162)) (some false)).bind fun t35 =>
 (cond t35
 ((bc (j0.2.2.2.2.2.2.2.2.1,j0.2.2.2.2.2.2.2.2.2.1,j0.2.2.2.2.2.2.2.2.2.2.1,j0.2.2.2.2.2.2.2.2.2.2.2.1,j0.2.2.2.2.2.2.2.2.2.2.2.2.1,j0.2.2.2.2.2.2.2.2.2.2.2.2.2.1,j0.2.2.2.2.2.2.2.2.2.2.2.2.2.2.1,j0.2.2.2.2.2.2.2.2.2.2.2.2.2.2.2.1,j0.2.2.2.2.2.2.2.2.2.2.2.2.2.2.2.2.1,j0.2.2.2.2.2.2.2.2.2.2.2.2.2.2.2.2.2.1,j0.2.2.2.2.2.2.2.2.2.2.2.2.2.2.2.2.2.2.1)).bind fun t39 =>
 some t39)
 (some false)).bind fun t40 =>
 some t40)).bind fun t41 =>
 some t41)
def jf:List (FuncId × Fn):=(193,⟨[.val true cJob false],[.val false cNB (some true)],fun a=>eu a⟩) :: je
theorem nQ:Gd jf:=mkM nP 193 Tryz.f193 [] Tryz.func193
def gO (p0:Agent) (t36:Int):Option (Int ⊕ (Unit ⊕ Bool)) :=
 cond (decide (t36 < (p0.2.2.2.2.2.2.2.2.2.2.2.2.1.length:Int)))
 ((at? p0.2.2.2.2.2.2.2.2.2.2.2.2.1 t36).bind fun x39 =>
 (ac x39.1 1 p0.2.2.2.2.2.2.2.2.2.2.2.2.2.2).bind fun t45 =>
 (cond (!t45)
 (some true)
 ((cond (decide (t36 > 0))
 ((at? p0.2.2.2.2.2.2.2.2.2.2.2.2.1 (w64 (t36 - 1))).bind fun x55 =>
 some (decide (x55.1 ≥ x39.1)))
 (some false)).bind fun t61 =>
 some t61)).bind fun t62 =>
 (cond t62
 (some true)
 ((eu x39).bind fun t65 =>
 some (!t65))).bind fun t67 =>
 cond t67 (some (.inr (.inr false))) (some (.inl (w64 (t36 + 1)))))
 (some (.inr (.inl ())))
def dk (p0:Agent):Option Bool :=
 (bc (p0.1,p0.2.1,p0.2.2.1,p0.2.2.2.1,p0.2.2.2.2.1,p0.2.2.2.2.2.1,p0.2.2.2.2.2.2.1,p0.2.2.2.2.2.2.2.1,p0.2.2.2.2.2.2.2.2.1,p0.2.2.2.2.2.2.2.2.2.1,p0.2.2.2.2.2.2.2.2.2.2.1)).bind fun t7 =>
 (cond (!t7)
 (some true)
 (some (decide ((p0.2.2.2.2.2.2.2.2.2.2.2.1.length:Int) > 20)))).bind fun t14 =>
 (cond t14
 (some true)
 (some (decide ((p0.2.2.2.2.2.2.2.2.2.2.2.2.1.length:Int) > 6)))).bind fun t20 =>
 (cond t20
 (some true)
 ((bb p0.2.2.2.2.2.2.2.2.2.2.2.2.2.1).bind fun t24 =>
 some (!t24))).bind fun t26 =>
 (cond t26
 (some true)
 ((bb p0.2.2.2.2.2.2.2.2.2.2.2.2.2.2).bind fun t30 =>
 some (!t30))).bind fun t32 =>
 cond t32
 (some false)
 ((loop (fun z=>gO p0 z) 0).bind (Sum.elim (fun d =>
 some true) (fun r=>some r)))
def jg:List (FuncId × Fn):=(70,⟨[.val true cAgent false],[.val false cNB (some true)],fun a=>dk a⟩) :: jf
theorem nR:Gd jg:=mkM nQ 70 Tryz.f70 [(0,⟨⟨(36,false,[dI]) :: us 48 14 (us 64 3 []),[]⟩,
 ⟨[],[]⟩,some ⟨[(2,false,[dB])],[]⟩⟩)] Tryz.func70
def bu (b0:List Int):Option (List Int) :=
 (app [] b0).bind fun zs4 =>
 some zs4
def jh:List (FuncId × Fn):=(189,⟨[.val false cNY false],[.val false cNY (some true)],fun a=>bu a⟩) :: jg
theorem nS:Gd jh:=mkM nR 189 Tryz.f189 [] Tryz.func189
def cz (p0:List Int) (i1:Int):Option (Int × (List Int) × Int × Bool) :=
 (cond (decide (i1 < 0)) (some true) (some (decide (i1 > (w64 ((p0.length:Int) - 2)))))).bind fun t18 =>
 cond t18
 (some (0,[],0,false))
 ((at? p0 (w64 (i1 + 1))).bind fun x22 =>
 cond (decide ((w64 (x22)) ≥ 128))
 ((cond ((w64 (x22)) != 129) (some true) (some (decide ((w64 (i1 + 2)) ≥ (p0.length:Int))))).bind fun t36 =>
 (cond t36
 (some true)
 ((at? p0 (w64 (i1 + 2))).bind fun x40 =>
 some (decide (x40 < 128)))).bind fun t43 =>
 cond t43
 (some (0,[],0,false))
 ((at? p0 (w64 (i1 + 2))).bind fun x46 =>
 (cond (decide ((w64 (x46)) > 250))
 (some true)
 (some (decide ((w64 (x46)) > (w64 ((p0.length:Int) - (w64 ((w64 (i1 + 2)) + 1)))))))).bind fun t60 =>
 cond t60
 (some (0,[],0,false))
 ((at? p0 i1).bind fun x63 =>
 (cut p0 (w64 ((w64 (i1 + 2)) + 1)) (w64 ((w64 ((w64 (i1 + 2)) + 1)) + (w64 (x46))))).bind fun t71 =>
 (bu t71).bind fun t72 =>
 let t6:=w64 ((w64 ((w64 (i1 + 2)) + 1)) + (w64 (x46)))
 some (w64 (x63),t72,t6,true))))
 ((cond (decide ((w64 (x22)) > 250))
 (some true)
 (some (decide ((w64 (x22)) > (w64 ((p0.length:Int) - (w64 (i1 + 2)))))))).bind fun t60_1 =>
 cond t60_1
 (some (0,[],0,false))
 ((at? p0 i1).bind fun x63_1 =>
 (cut p0 (w64 (i1 + 2)) (w64 ((w64 (i1 + 2)) + (w64 (x22))))).bind fun t71_1 =>
 (bu t71_1).bind fun t72_1 =>
 let t6_1:=w64 ((w64 (i1 + 2)) + (w64 (x22)))
 some (w64 (x63_1),t72_1,t6_1,true))))
def ji:List (FuncId × Fn):=(182,⟨[.val false cNY false,.val false cNI false],[.val false cNI (some true),.val false cNY (some true),.val false cNI (some true),.val false cNB (some true)],fun a=>cz a.1 a.2⟩) :: jh
theorem nT:Gd ji:=mkM nS 182 Tryz.f182 [] Tryz.func182
def bv (r0:L4Reader) (tag1:Int):Option (L4Reader × List Int) :=
 (cz r0.1 r0.2.1).bind fun t18 =>
 (cond r0.2.2 (some true) (some (!t18.2.2.2))).bind fun t30 =>
 (cond t30 (some true) (some (t18.1 != tag1))).bind fun t35 =>
 cond t35
 (some ((r0.1,r0.2.1,true),[]))
 (some ((r0.1,t18.2.2.1,r0.2.2),t18.2.1))
def jj:List (FuncId × Fn):=(184,⟨[.ptr cL4Reader none,.val false cNI false],[.val false cNY (some true)],fun a=>bv a.1 a.2⟩) :: ji
theorem nU:Gd jj:=mkM nT 184 Tryz.f184 [] Tryz.func184
def aJ (n0_1:Int) (k3:Int):Option (Int ⊕ Int) :=
 (cond (decide (k3 < 4))
 ((shl .i64 (-1) (w64 ((w64 (8 * k3)) - 1))).bind fun t16 =>
 (shl .i64 1 (w64 ((w64 (8 * k3)) - 1))).bind fun t20 =>
 (ac n0_1 t16 (w64 (t20 - 1))).bind fun t22 =>
 some (!t22))
 (some false)).bind fun t24 =>
 cond t24 (some (.inl (w64 (k3 + 1)))) (some (.inr k3))
def aA (n0_1:Int) (i5:Int) (out4:List Int):Option ((Int × List Int) ⊕ (List Int)) :=
 cond (decide (i5 ≥ 0))
 ((shr .i64 n0_1 (w64 (8 * i5))).bind fun t37 =>
 (app out4 [IntKind.u8.wrap (t37)]).bind fun zs40 =>
 some (.inl (w64 (i5 - 1),zs40)))
 (some (.inr out4))
def dl (n0:Int):Option (List Int) :=
 let n0_1:=max2 (-2147483648) (min2 n0 2147483647)
 (loop (fun z=>aJ n0_1 z) 1).bind fun d =>
 (loop (fun z=>aA n0_1 z.1 z.2) (w64 (d - 1),[])).bind fun d_1 =>
 some d_1
def jk:List (FuncId × Fn):=(358,⟨[.val false cNI false],[.val false cNY (some true)],fun a=>dl a⟩) :: jj
theorem nV:Gd jk:=mkM nU 358 Tryz.f358 [(0,⟨⟨(3,false,[dI]) :: us 12 12 [],[]⟩,
 ⟨[(3,false,[dI])],[]⟩,none⟩),
 (2,⟨⟨[(4,false,[.own 1000002000]),(5,false,[dI])],[(1000002000,.root (.one (.int .u8)) true)]⟩,
 ⟨[(4,false,[.own 1000002300])],[(1000002300,.root (.one (.int .u8)) true)]⟩,none⟩)] Tryz.func358
def dq (t17:List Int) (n4_1:Int) (t19:Int):Option ((Int × Int) ⊕ Int) :=
 cond (decide (t19 < (t17.length:Int)))
 ((at? t17 t19).bind fun x21 =>
 let n4_2:=bor .i64 (w64 (n4_1 * 2 ^ 8)) (w64 (x21))
 some (.inl (n4_2,w64 (t19 + 1))))
 (some (.inr n4_1))
def ev (b0:List Int):Option (Int × Bool) :=
 (ac (b0.length:Int) 1 4).bind fun t9 =>
 cond (!t9)
 (some (0,false))
 ((at? b0 0).bind fun x12 =>
 let n4:=w64 (IntKind.i8.wrap (x12))
 (cut b0 1 (b0.length:Int)).bind fun t17 =>
 (loop (fun z=>dq t17 z.1 z.2) (n4,0)).bind fun d =>
 (dl d).bind fun t30 =>
 cond ((t30.length:Int) != (b0.length:Int)) (some (0,false)) (some (d,true)))
def jl:List (FuncId × Fn):=(287,⟨[.val false cNY false],[.val false cNI (some true),.val false cNB (some true)],fun a=>ev a⟩) :: jk
theorem nW:Gd jl:=mkM nV 287 Tryz.f287 [(0,⟨⟨[(4,false,[dI]),(19,false,[dI])],[]⟩,
 ⟨[(4,false,[dI])],[]⟩,none⟩)] Tryz.func287
def cA (r0:L4Reader) (tag1:Int):Option (L4Reader × Int) :=
 (bv r0 tag1).bind fun t10 =>
 (ev t10.2).bind fun t11 =>
 (cond t10.1.2.2 (some true) (some (!t11.2))).bind fun t22 =>
 some ((t10.1.1,t10.1.2.1,t22),t11.1)
def jm:List (FuncId × Fn):=(183,⟨[.ptr cL4Reader none,.val false cNI false],[.val false cNI (some true)],fun a=>cA a.1 a.2⟩) :: jl
theorem nX:Gd jm:=mkM nW 183 Tryz.f183 [] Tryz.func183
def cB (tag0:Int) (body1:List Int):Option ((List Int) × Bool) :=
 (ac tag0 0 255).bind fun t8 =>
 (cond (!t8) (some true) (some (decide ((body1.length:Int) > 250)))).bind fun t14 =>
 cond t14
 (some ([],false))
 (cond (decide ((body1.length:Int) ≥ 128))
 ((app [IntKind.u8.wrap (tag0)] ([129]:List Int)).bind fun zs23 =>
 (app zs23 [IntKind.u8.wrap ((body1.length:Int))]).bind fun zs29 =>
 (app zs29 body1).bind fun zs31 =>
 some (zs31,true))
 ((app [IntKind.u8.wrap (tag0)] [IntKind.u8.wrap ((body1.length:Int))]).bind fun zs29_1 =>
 (app zs29_1 body1).bind fun zs31_1 =>
 some (zs31_1,true)))
def jn:List (FuncId × Fn):=(248,⟨[.val false cNI false,.val false cNY false],[.val false cNY (some true),.val false cNB (some true)],fun a=>cB a.1 a.2⟩) :: jm
theorem nY:Gd jn:=mkM nX 248 Tryz.f248 [] Tryz.func248
def bg (b0:List Int) (tag1:Int) (body2:List Int):Option (List Int) :=
 (cB tag1 body2).bind fun t12 =>
 (bu b0).bind fun t16 =>
 (app t16 t12.1).bind fun zs18 =>
 some zs18
def jo:List (FuncId × Fn):=(250,⟨[.val false cNY false,.val false cNI false,.val false cNY false],[.val false cNY (some true)],fun a=>bg a.1 a.2.1 a.2.2⟩) :: jn
theorem nZ:Gd jo:=mkM nY 250 Tryz.f250 [] Tryz.func250
def bN (x14:Int) (k6:Int):Option (Int ⊕ Int) :=
 (shr .i64 x14 (w64 (7 * k6))).bind fun t19 =>
 cond (decide (t19 > 127)) (some (.inl (w64 (k6 + 1)))) (some (.inr k6))
def cC (x14:Int) (k6_2:Int) (out3_1:List Int):Option ((Int × List Int) ⊕ (List Int)) :=
 cond (decide (k6_2 > 0))
 ((shr .i64 x14 (w64 (7 * k6_2))).bind fun t31 =>
 (app out3_1 [IntKind.u8.wrap (w64 ((band .i64 t31 127) + 128))]).bind fun zs36 =>
 some (.inl (w64 (k6_2 - 1),zs36)))
 (some (.inr out3_1))
def dt (o0:List Int) (t12:Int) (out3:List Int):Option ((Int × List Int) ⊕ (List Int)) :=
 cond (decide (t12 < (o0.length:Int)))
 ((at? o0 t12).bind fun x14 =>
 (loop (fun z=>bN x14 z) 0).bind fun d =>
 (loop (fun z=>cC x14 z.1 z.2) (d,out3)).bind fun d_1 =>
 (app d_1 [IntKind.u8.wrap (band .i64 x14 127)]).bind fun zs42 =>
 some (.inl (w64 (t12 + 1),zs42)))
 (some (.inr out3))
def cD (o0:List Int):Option (List Int) :=
 (ak o0).bind fun t8 =>
 cond (!t8)
 (some [])
 ((loop (fun z=>dt o0 z.1 z.2) (0,[])).bind fun d_2 =>
 some d_2)
def jp:List (FuncId × Fn):=(251,⟨[.val false cNN false],[.val false cNY (some true)],fun a=>cD a⟩) :: jo
theorem o4:Gd jp:=mkM nZ 251 Tryz.f251 [(0,⟨⟨[(3,false,[.own 1000000000]),(12,false,[dI])],[(1000000000,.root (.one (.int .u8)) true)]⟩,
 ⟨[(3,false,[.own 1000000300])],[(1000000300,.root (.one (.int .u8)) true)]⟩,none⟩),
 (2,⟨⟨[(6,false,[dI])],[]⟩,
 ⟨[(6,false,[dI])],[]⟩,none⟩),
 (4,⟨⟨[(3,false,[.own 1000004000]),(6,false,[dI])],[(1000004000,.root (.one (.int .u8)) true)]⟩,
 ⟨[(3,false,[.own 1000004300])],[(1000004300,.root (.one (.int .u8)) true)]⟩,none⟩)] Tryz.func251
def fJ (b0:List Int) (v1:Val):Option (List Int) :=
 (al v1).bind fun t7 =>
 cond (!t7)
 ((bu b0).bind fun t10 =>
 some t10)
 (cond (v1.1 == 2)
 ((dl v1.2.1).bind fun t17 =>
 (bg b0 v1.1 t17).bind fun t32 =>
 some t32)
 (cond (v1.1 == 4)
 ((bg b0 v1.1 (intsOf v1.2.2.1)).bind fun t32_1 =>
 some t32_1)
 (cond (v1.1 == 6)
 ((cD v1.2.2.2).bind fun t27 =>
 (bg b0 v1.1 t27).bind fun t32_2 =>
 some t32_2)
 ((bg b0 v1.1 []).bind fun t32_3 =>
 some t32_3))))
def jq:List (FuncId × Fn):=(249,⟨[.val false cNY false,.val true cVal false],[.val false cNY (some true)],fun a=>fJ a.1 a.2⟩) :: jp
theorem o5:Gd jq:=mkM o4 249 Tryz.f249 [] Tryz.func249
def du (out0:List Int) (tag1:Int) (n2:Int):Option (List Int) :=
 (dl n2).bind fun t10 =>
 (bg out0 tag1 t10).bind fun t11 =>
 some t11
def jr:List (FuncId × Fn):=(252,⟨[.val false cNY false,.val false cNI false,.val false cNI false],[.val false cNY (some true)],fun a=>du a.1 a.2.1 a.2.2⟩) :: jq
theorem o6:Gd jr:=mkM o5 252 Tryz.f252 [] Tryz.func252
def dv (p0:Pdu) (t18:Int) (t3:List Int):Option ((Int × List Int) ⊕ ((List Int) ⊕ (List Int))) :=
 cond (decide (t18 < (p0.2.2.2.2.length:Int)))
 ((at? p0.2.2.2.2 t18).bind fun x20 =>
 (cD x20.1).bind fun t25 =>
 (bg [] 6 t25).bind fun t26 =>
 (fJ t26 x20.2).bind fun t29 =>
 (cB 48 t29).bind fun t30 =>
 cond (!t30.2)
 (some (.inr (.inr [])))
 ((app t3 t30.1).bind fun zs37 =>
 some (.inl (w64 (t18 + 1),zs37))))
 (some (.inr (.inl t3)))
def ez (p0:Pdu):Option (List Int) :=
 (cw p0).bind fun t13 =>
 cond (!t13)
 (some [])
 ((loop (fun z=>dv p0 z.1 z.2) (0,[])).bind (Sum.elim (fun d =>
 (cB 48 d).bind fun t41 =>
 cond (!t41.2)
 (some [])
 ((du [] 2 p0.2.1).bind fun t51 =>
 (du t51 2 p0.2.2.1).bind fun t54 =>
 (du t54 2 p0.2.2.2.1).bind fun t57 =>
 (app t57 t41.1).bind fun zs59 =>
 (cB p0.1 zs59).bind fun t60 =>
 cond (!t60.2) (some []) (some t60.1))) (fun r=>some r)))
def js:List (FuncId × Fn):=(137,⟨[.val true cPdu false],[.val false cNY (some true)],fun a=>ez a⟩) :: jr
theorem o7:Gd js:=mkM o6 137 Tryz.f137 [(0,⟨⟨[(3,false,[.own 1000000000]),(18,false,[dI])],[(1000000000,.root (.one (.int .u8)) true)]⟩,
 ⟨[(3,false,[.own 1000000300])],[(1000000300,.root (.one (.int .u8)) true)]⟩,some ⟨[(2,false,[.own 1000000600])],[(1000000600,.root (.one (.int .u8)) true)]⟩⟩)] Tryz.func137
def gP (r0:L4Reader):Option (L4Reader × Bool) :=
 (cond (!r0.2.2) (some (r0.2.1 == (r0.1.length:Int))) (some false)).bind fun t19 =>
 some (r0,t19)
def jt:List (FuncId × Fn):=(288,⟨[.ptr cL4Reader none],[.val false cNB (some true)],fun a=>gP a⟩) :: js
theorem o8:Gd jt:=mkM o7 288 Tryz.f288 [] Tryz.func288
def ax (b0:List Int) (n5:Int) (t11:Int) (out4:List Int):Option ((Int × Int × List Int) ⊕ ((List Int) ⊕ (Bool × List Int))) :=
 cond (decide (t11 < (b0.length:Int)))
 ((at? b0 t11).bind fun x14 =>
 cond (decide (t11 ≥ 40))
 (some (.inr (.inr (false,[]))))
 (let n5_1:=bor .i64 (w64 ((min2 n5 1048576) * 2 ^ 7)) (w64 (band .u8 x14 127))
 cond (decide (x14 < 128))
 ((app out4 [n5_1]).bind fun zs30 =>
 some (.inl (0,w64 (t11 + 1),zs30)))
 (some (.inl (n5_1,w64 (t11 + 1),out4)))))
 (some (.inr (.inl out4)))
def bO (b0:List Int):Option ((List Int) × Bool) :=
 (loop (fun z=>ax b0 z.1 z.2.1 z.2.2) (0,0,[])).bind (Sum.elim (fun d =>
 (cD d).bind fun t33 =>
 (cond ((t33.length:Int) == 0) (some true) (some (!((bytesOf t33) == (bytesOf b0))))).bind fun t43 =>
 cond t43 (some ([],false)) (some (d,true))) (fun r=>some (r.2,r.1)))
def ju:List (FuncId × Fn):=(372,⟨[.val false cNY false],[.val false cNN (some true),.val false cNB (some true)],fun a=>bO a⟩) :: jt
theorem o9:Gd ju:=mkM o8 372 Tryz.f372 [(0,⟨⟨[(4,false,[.own 1000000000]),(5,false,[dI]),(11,false,[dI])],[(1000000000,.root cNI true)]⟩,
 ⟨[(4,false,[.own 1000000300])],[(1000000300,.root cNI true)]⟩,some ⟨[(2,false,[.own 1000000600]),(3,false,[dB])],[(1000000600,.root cNI true)]⟩⟩)] Tryz.func372
def fK (b0:List Int) (at1:Int):Option (Val × Int × Bool) :=
 (cz b0 at1).bind fun t15 =>
 cond (!t15.2.2.2)
 (some ((0,0,[],[]),0,false))
 (cond (t15.1 == 2)
 ((ev t15.2.1).bind fun t33 =>
 (cond (!t33.2)
 (some true)
 ((al (t15.1,t33.1,[],[])).bind fun t54 =>
 some (!t54))).bind fun t56 =>
 cond t56
 (some ((0,0,[],[]),0,false))
 (some ((t15.1,t33.1,[],[]),t15.2.2.1,true)))
 (cond (t15.1 == 4)
 ((cond (!t15.2.2.2)
 (some true)
 ((al (t15.1,0,bytesOf t15.2.1,[])).bind fun t54_1 =>
 some (!t54_1))).bind fun t56_1 =>
 cond t56_1
 (some ((0,0,[],[]),0,false))
 (some ((t15.1,0,bytesOf t15.2.1,[]),t15.2.2.1,true)))
 (cond (t15.1 == 6)
 ((bO t15.2.1).bind fun t46 =>
 (cond (!t46.2)
 (some true)
 ((al (t15.1,0,[],t46.1)).bind fun t54_2 =>
 some (!t54_2))).bind fun t56_2 =>
 cond t56_2
 (some ((0,0,[],[]),0,false))
 (some ((t15.1,0,[],t46.1),t15.2.2.1,true)))
 (let ok10:=(t15.2.1.length:Int) == 0
 (cond (!ok10)
 (some true)
 ((al (t15.1,0,[],[])).bind fun t54_3 =>
 some (!t54_3))).bind fun t56_3 =>
 cond t56_3
 (some ((0,0,[],[]),0,false))
 (some ((t15.1,0,[],[]),t15.2.2.1,true))))))
def jv:List (FuncId × Fn):=(373,⟨[.val false cNY false,.val false cNI false],[.val true cVal (some true),.val false cNI (some true),.val false cNB (some true)],fun a=>fK a.1 a.2⟩) :: ju
theorem oa:Gd jv:=mkM o9 373 Tryz.f373 [] Tryz.func373
def fL (b0:List Int):Option (Bind × Bool) :=
 (bv (b0,0,false) 6).bind fun t15 =>
 (bO t15.2).bind fun t16 =>
 (fK b0 t15.1.2.1).bind fun t25 =>
 (cond t15.1.2.2 (some true) (some (!t16.2))).bind fun t36 =>
 (cond t36 (some true) (some (!t25.2.2))).bind fun t40 =>
 (cond t40 (some true) (some (t25.2.1 != (b0.length:Int)))).bind fun t46 =>
 cond t46
 (some (([],0,0,[],[]),false))
 (some ((t16.1,t25.1.1,t25.1.2.1,t25.1.2.2.1,t25.1.2.2.2),true))
def jw:List (FuncId × Fn):=(289,⟨[.val false cNY false],[.val true cBind (some true),.val false cNB (some true)],fun a=>fL a⟩) :: jv
theorem ob:Gd jw:=mkM oa 289 Tryz.f289 [] Tryz.func289
def aC (b0:Int) (b1:Int) (b2:Int) (b3:Int) (b0_1:Int) (b1_1:Int) (b2_1:Int) (b3_1:Int) (b0_2:List Int) (b1_2:Int) (b2_2:Bool) (b4:List Bind) (b4_1:List Bind):Option ((Int × Int × Int × Int × Int × Int × Int × Int × List Int × Int × Bool × List Bind × List Bind) ⊕ ((Int × Int × Int × Int × Int × Int × Int × Int × List Int × Int × Bool × List Bind × List Bind) ⊕ (Bool × Int × Int × Int × Int × List Bind))) :=
 cond (decide (b1_2 < (b0_2.length:Int)))
 ((bv (b0_2,b1_2,b2_2) 48).bind fun t64 =>
 (fL t64.2).bind fun t65 =>
 (cond (!t65.2) (some true) (some (decide ((b4_1.length:Int) ≥ 10)))).bind fun t75 =>
 cond t75
 (some (.inr (.inr (false,0,0,0,0,[]))))
 ((app b4_1 [t65.1]).bind fun zs81 =>
 some (.inl (b0,b1,b2,b3,b0_1,b1_1,b2_1,b3_1,t64.1.1,t64.1.2.1,t64.1.2.2,b4,zs81))))
 (some (.inr (.inl (b0,b1,b2,b3,b0_1,b1_1,b2_1,b3_1,b0_2,b1_2,b2_2,b4,b4_1))))
def fM (p0:List Int):Option (Pdu × Bool) :=
 (cz p0 0).bind fun t16 =>
 (cond (!t16.2.2.2) (some true) (some (t16.2.2.1 != (p0.length:Int)))).bind fun t28 =>
 cond t28
 (some ((0,0,0,0,[]),false))
 ((cA (t16.2.1,0,false) 2).bind fun t36 =>
 (cA t36.1 2).bind fun t39 =>
 (cA t39.1 2).bind fun t42 =>
 (bv t42.1 48).bind fun t45 =>
 (gP t45.1).bind fun t49 =>
 cond (!t49.2)
 (some ((0,0,0,0,[]),false))
 ((loop (fun z=>aC z.1 z.2.1 z.2.2.1 z.2.2.2.1 z.2.2.2.2.1 z.2.2.2.2.2.1 z.2.2.2.2.2.2.1 z.2.2.2.2.2.2.2.1 z.2.2.2.2.2.2.2.2.1 z.2.2.2.2.2.2.2.2.2.1 z.2.2.2.2.2.2.2.2.2.2.1 z.2.2.2.2.2.2.2.2.2.2.2.1 z.2.2.2.2.2.2.2.2.2.2.2.2) (0,0,0,0,t16.1,t36.2,t39.2,t42.2,t45.2,0,false,[],[])).bind (Sum.elim (fun d =>
 (ez (d.2.2.2.2.1,d.2.2.2.2.2.1,d.2.2.2.2.2.2.1,d.2.2.2.2.2.2.2.1,d.2.2.2.2.2.2.2.2.2.2.2.2)).bind fun t84 =>
 (cond ((t84.length:Int) == 0) (some true) (some (!((bytesOf t84) == (bytesOf p0))))).bind fun t94 =>
 cond t94
 (some ((0,0,0,0,[]),false))
 (some ((d.2.2.2.2.1,d.2.2.2.2.2.1,d.2.2.2.2.2.2.1,d.2.2.2.2.2.2.2.1,d.2.2.2.2.2.2.2.2.2.2.2.2),true))) (fun r=>some (r.2,r.1)))))
def jx:List (FuncId × Fn):=(185,⟨[.val false cNY false],[.val true cPdu (some true),.val false cNB (some true)],fun a=>fM a⟩) :: jw
theorem oc:Gd jx:=mkM ob 185 Tryz.f185 [(0,⟨⟨us 71 4 [],[(1024,.box [dI,dI,dI,dI,.own 1000000000]),(1051648,.box [dI,dI,dI,dI,.own 1000000001]),(2363392,.box [.dat (.sl (.one (.int .u8))),dI,dB]),(1000000000,.root cBind true),(1000000001,.root cBind true)]⟩,
 ⟨[],[(1024,.box [dI,dI,dI,dI,.own 1000000300]),(1051648,.box [dI,dI,dI,dI,.own 1000000301]),(2363392,.box [.dat (.sl (.one (.int .u8))),dI,dB]),(1000000300,.root cBind true),(1000000301,.root cBind true)]⟩,some ⟨[(3,false,[dB])],[(1024,.box [dI,dI,dI,dI,.own 1000000600]),(1000000600,.root cBind true)]⟩⟩)] Tryz.func185
def bP (p0:List UInt8) (i1:List Int):Option (Pdu × Int) :=
 (cz i1 0).bind fun t17 =>
 (cond (!t17.2.2.2) (some true) (some (t17.1 != 48))).bind fun t27 =>
 (cond t27 (some true) (some (t17.2.2.1 != (i1.length:Int)))).bind fun t33 =>
 cond t33
 (some ((0,0,0,0,[]),1))
 ((cA (t17.2.1,0,false) 2).bind fun t39 =>
 (bv t39.1 4).bind fun t41 =>
 cond t41.1.2.2
 (some ((0,0,0,0,[]),1))
 (cond (t39.2 != 1)
 (some ((0,0,0,0,[]),2))
 (cond (!((bytesOf t41.2) == p0))
 (some ((0,0,0,0,[]),3))
 ((cut t17.2.1 t41.1.2.1 (t17.2.1.length:Int)).bind fun t64 =>
 (fM t64).bind fun t65 =>
 cond (!t65.2) (some ((0,0,0,0,[]),1)) (some (t65.1,0))))))
def jy:List (FuncId × Fn):=(61,⟨[.val false cNS false,.val false cNY false],[.val true cPdu (some true),.val false cNI (some true)],fun a=>bP a.1 a.2⟩) :: jx
theorem od:Gd jy:=mkM oc 61 Tryz.f61 [] Tryz.func61
def bQ (a0:Agent) (j1:Job):Option (Pdu × Bool) :=
 (bP a0.2.2.2.2.2.2.2.2.2.2.2.1 j1.2.1).bind fun t13 =>
 cond (t13.2 == 0) (some (t13.1,t13.1.1 != 162)) (some (t13.1,false))
def jz:List (FuncId × Fn):=(190,⟨[.val true cAgent false,.val true cJob false],[.val true cPdu (some true),.val false cNB (some true)],fun a=>bQ a.1 a.2⟩) :: jy
theorem oe:Gd jz:=mkM od 190 Tryz.f190 [] Tryz.func190
def bx (p0:Agent) (i1:Int):Option Int :=
 (dk p0).bind fun t11 =>
 (cond (!t11)
 (some true)
 ((ac i1 0 (w64 ((p0.2.2.2.2.2.2.2.2.2.2.2.2.1.length:Int) - 1))).bind fun t19 =>
 some (!t19))).bind fun t21 =>
 cond t21
 (some 0)
 ((at? p0.2.2.2.2.2.2.2.2.2.2.2.2.1 i1).bind fun x25 =>
 let t6:=(x25.2.2.2.2.2.2.2.1.length:Int)
 (cond (x25.2.2.2.1 == 163)
 (some (p0.2.2.2.2.2.2.2.2.2.2.1 != x25.2.2.2.2.2.2.2.2.2.2.2.2.2.2.2.2.2.2.1))
 (some false)).bind fun t43 =>
 (cond t43
 (some (decide (x25.2.2.2.2.2.2.2.2.2.2.2.2.2.2.2.2.2.2.2.2 < 3)))
 (some false)).bind fun t48 =>
 cond t48
 (cond (x25.2.2.1 == 2)
 (some (w64 (t6 + 3)))
 (cond (x25.2.2.1 == 1)
 (let t4:=w64 ((w64 ((w64 (t6 - x25.2.2.2.2.2.2.2.2.2.2.2.2.2.2.2.2.2.2.2.1)) + 1)) + (w64 (t6 + 3)))
 some t4)
 ((bQ p0 x25).bind fun t68 =>
 cond (!t68.2)
 (some 1)
 (let t4_1:=w64 ((t68.1.2.2.2.2.length:Int) + 3)
 some t4_1))))
 (cond (x25.2.2.1 == 2)
 (some 1)
 (cond (x25.2.2.1 == 1)
 (let t4_2:=w64 ((w64 ((w64 (t6 - x25.2.2.2.2.2.2.2.2.2.2.2.2.2.2.2.2.2.2.2.1)) + 1)) + 1)
 some t4_2)
 ((bQ p0 x25).bind fun t68_1 =>
 cond (!t68_1.2)
 (some 1)
 (let t4_3:=w64 ((t68_1.1.2.2.2.2.length:Int) + 3)
 some t4_3)))))
def jA:List (FuncId × Fn):=(65,⟨[.val true cAgent false,.val false cNI false],[.val false cNI (some true)],fun a=>bx a.1 a.2⟩) :: jz
theorem og:Gd jA:=mkM oe 65 Tryz.f65 [] Tryz.func65
def fN (code0:List Int) (i1:Int):Option Int :=
 cond (decide (i1 < (code0.length:Int)))
 ((at? code0 i1).bind fun x11 =>
 some (w64 (x11)))
 (let t4:=(w64 ((w64 (i1 * 31)) + (w64 ((code0.length:Int) * 7)))).tmod 256
 some t4)
def jC:List (FuncId × Fn):=(66,⟨[.val false cNY false,.val false cNI false],[.val false cNI (some true)],fun a=>fN a.1 a.2⟩) :: jA
theorem oh:Gd jC:=mkM og 66 Tryz.f66 [] Tryz.func66
def dw (a0:Agent) (n3:Int) (t11:Int):Option ((Int × Int) ⊕ Int) :=
 cond (decide (t11 < (a0.2.2.2.2.2.2.2.2.2.2.2.2.1.length:Int)))
 ((at? a0.2.2.2.2.2.2.2.2.2.2.2.2.1 t11).bind fun x13 =>
 (bQ a0 x13).bind fun t18 =>
 (cond t18.2 (some true) (some (decide (x13.2.2.1 > 0)))).bind fun t26 =>
 cond t26
 (some (.inl (w64 (n3 + 1),w64 (t11 + 1))))
 (some (.inl (n3,w64 (t11 + 1)))))
 (some (.inr n3))
def eA (a0:Agent):Option Int :=
 (loop (fun z=>dw a0 z.1 z.2) (0,0)).bind fun d =>
 some d
def jD:List (FuncId × Fn):=(67,⟨[.val true cAgent false],[.val false cNI (some true)],fun a=>eA a⟩) :: jC
theorem oi:Gd jD:=mkM oh 67 Tryz.f67 [(0,⟨⟨(3,false,[dI]) :: (11,false,[dI]) :: us 23 3 [],[]⟩,
 ⟨[(3,false,[dI])],[]⟩,none⟩)] Tryz.func67
def fO (p0:Agent) (i1:Int):Option Int :=
 (cE p0).bind fun t10 =>
 (cond (!t10)
 (some true)
 ((ae i1 0 (w64 ((p0.2.2.2.2.2.2.2.2.2.2.2.2.1.length:Int) - 1))).bind fun t18 =>
 some (!t18))).bind fun t20 =>
 cond t20
 (some 0)
 ((at? p0.2.2.2.2.2.2.2.2.2.2.2.2.1 i1).bind fun x24 =>
 (cond (x24.2.2.2.1 == 163)
 (some (p0.2.2.2.2.2.2.2.2.2.2.1 != x24.2.2.2.2.2.2.2.2.2.2.2.2.2.2.2.2.2.2.1))
 (some false)).bind fun t38 =>
 (cond t38
 (some (decide (x24.2.2.2.2.2.2.2.2.2.2.2.2.2.2.2.2.2.2.2.2 < 3)))
 (some false)).bind fun t43 =>
 cond t43
 (let t6:=w64 ((x24.2.2.2.2.2.2.2.1.length:Int) + 3)
 cond (x24.2.2.1 == 2)
 (some t6)
 (cond (x24.2.2.1 == 1)
 (let t4:=w64 ((w64 ((w64 ((x24.2.2.2.2.2.2.2.1.length:Int) - x24.2.2.2.2.2.2.2.2.2.2.2.2.2.2.2.2.2.2.2.1)) + 1)) + t6)
 some t4)
 ((cG p0.2.2.2.2.2.2.2.2.2.2.2.1 x24.2.1).bind fun t71 =>
 (cond (t71.2 != 0) (some true) (some (t71.1.1 == 162))).bind fun t80 =>
 cond t80
 (some 1)
 (let t4_1:=w64 ((t71.1.2.2.2.2.length:Int) + 3)
 some t4_1))))
 (cond (x24.2.2.1 == 2)
 (some 1)
 (cond (x24.2.2.1 == 1)
 (let t4_2:=w64 ((w64 ((w64 ((x24.2.2.2.2.2.2.2.1.length:Int) - x24.2.2.2.2.2.2.2.2.2.2.2.2.2.2.2.2.2.2.2.1)) + 1)) + 1)
 some t4_2)
 ((cG p0.2.2.2.2.2.2.2.2.2.2.2.1 x24.2.1).bind fun t71_1 =>
 (cond (t71_1.2 != 0) (some true) (some (t71_1.1.1 == 162))).bind fun t80_1 =>
 cond t80_1
 (some 1)
 (let t4_3:=w64 ((t71_1.1.2.2.2.2.length:Int) + 3)
 some t4_3)))))
def jE:List (FuncId × Fn):=(68,⟨[.val true cAgent false,.val false cNI false],[.val false cNI (some true)],fun a=>fO a.1 a.2⟩) :: jD
theorem oj:Gd jE:=mkM oi 68 Tryz.f68 [] Tryz.func68
def fP (l0:List Fent):Option (List Fent) :=
 (app [] l0).bind fun zs4 =>
 some zs4
def jF:List (FuncId × Fn):=(232,⟨[.val false (.one (.sl cFent)) false],[.val false (.one (.sl cFent)) (some true)],fun a=>fP a⟩) :: jE
theorem om:Gd jF:=mkM oj 232 Tryz.f232 [] Tryz.func232
def aS (l0:List Int):Option (List Int) :=
 (app [] l0).bind fun zs4 =>
 some zs4
def jG:List (FuncId × Fn):=(121,⟨[.val false cNN false],[.val false cNN (some true)],fun a=>aS a⟩) :: jF
theorem oo:Gd jG:=mkM om 121 Tryz.f121 [] Tryz.func121
def dx (v0:Vtab):Option Vtab :=
 (app [] v0.1).bind fun zs5 =>
 (aS v0.2).bind fun t8 =>
 some (zs5,t8)
def jH:List (FuncId × Fn):=(233,⟨[.val true cVtab false],[.val true cVtab (some true)],fun a=>dx a⟩) :: jG
theorem oq:Gd jH:=mkM oo 233 Tryz.f233 [] Tryz.func233
def ap (b0:Bridge):Option Bridge :=
 (app [] b0.2.2.1).bind fun zs5 =>
 (fP b0.2.2.2.1).bind fun t9 =>
 (dx (b0.2.2.2.2.1,b0.2.2.2.2.2.1)).bind fun t12 =>
 some (b0.1,b0.2.1,zs5,t9,t12.1,t12.2,b0.2.2.2.2.2.2.1,b0.2.2.2.2.2.2.2.1,b0.2.2.2.2.2.2.2.2.1,b0.2.2.2.2.2.2.2.2.2.1,b0.2.2.2.2.2.2.2.2.2.2)
def jI:List (FuncId × Fn):=(119,⟨[.val true cBridge false],[.val true cBridge (some true)],fun a=>ap a⟩) :: jH
theorem ot:Gd jI:=mkM oq 119 Tryz.f119 [] Tryz.func119
def fQ (v0:Val):Option Val :=
 (aS v0.2.2.2).bind fun t5 =>
 some (v0.1,v0.2.1,v0.2.2.1,t5)
def jJ:List (FuncId × Fn):=(239,⟨[.val true cVal false],[.val true cVal (some true)],fun a=>fQ a⟩) :: jI
theorem ou:Gd jJ:=mkM ot 239 Tryz.f239 [] Tryz.func239
def dy (l0:List Bind) (t8:Int) (out3:List Bind):Option ((Int × List Bind) ⊕ (List Bind)) :=
 cond (decide (t8 < (l0.length:Int)))
 ((at? l0 t8).bind fun x10 =>
 (aS x10.1).bind fun t15 =>
 (fQ x10.2).bind fun t18 =>
 (app out3 [(t15,t18.1,t18.2.1,t18.2.2.1,t18.2.2.2)]).bind fun zs21 =>
 some (.inl (w64 (t8 + 1),zs21)))
 (some (.inr out3))
def dz (l0:List Bind):Option (List Bind) :=
 (loop (fun z=>dy l0 z.1 z.2) (0,[])).bind fun d =>
 some d
def jK:List (FuncId × Fn):=(124,⟨[.val false (.one (.sl cBind)) false],[.val false (.one (.sl cBind)) (some true)],fun a=>dz a⟩) :: jJ
theorem ov:Gd jK:=mkM ou 124 Tryz.f124 [(0,⟨⟨[(3,false,[.own 1000000000]),(8,false,[dI])],[(1000000000,.root cBind true)]⟩,
 ⟨[(3,false,[.own 1000000300])],[(1000000300,.root cBind true)]⟩,none⟩)] Tryz.func124
def eB (p0:Pdu):Option Pdu :=
 (dz p0.2.2.2.2).bind fun t5 =>
 some (p0.1,p0.2.1,p0.2.2.1,p0.2.2.2.1,t5)
def jL:List (FuncId × Fn):=(290,⟨[.val true cPdu false],[.val true cPdu (some true)],fun a=>eB a⟩) :: jK
theorem ow:Gd jL:=mkM ov 290 Tryz.f290 [] Tryz.func290
def dA (a0:Agent) (t13:Int) (jobs3:List Job):Option ((Int × List Job) ⊕ (List Job)) :=
 cond (decide (t13 < (a0.2.2.2.2.2.2.2.2.2.2.2.2.1.length:Int)))
 ((at? a0.2.2.2.2.2.2.2.2.2.2.2.2.1 t13).bind fun x15 =>
 (bu x15.2.1).bind fun t19 =>
 (eB (x15.2.2.2.1,x15.2.2.2.2.1,x15.2.2.2.2.2.1,x15.2.2.2.2.2.2.1,x15.2.2.2.2.2.2.2.1)).bind fun t22 =>
 (ap (x15.2.2.2.2.2.2.2.2.1,x15.2.2.2.2.2.2.2.2.2.1,x15.2.2.2.2.2.2.2.2.2.2.1,x15.2.2.2.2.2.2.2.2.2.2.2.1,x15.2.2.2.2.2.2.2.2.2.2.2.2.1,x15.2.2.2.2.2.2.2.2.2.2.2.2.2.1,x15.2.2.2.2.2.2.2.2.2.2.2.2.2.2.1,x15.2.2.2.2.2.2.2.2.2.2.2.2.2.2.2.1,x15.2.2.2.2.2.2.2.2.2.2.2.2.2.2.2.2.1,x15.2.2.2.2.2.2.2.2.2.2.2.2.2.2.2.2.2.1,x15.2.2.2.2.2.2.2.2.2.2.2.2.2.2.2.2.2.2.1)).bind fun t25 =>
 (app jobs3 [(x15.1,t19,x15.2.2.1,t22.1,t22.2.1,t22.2.2.1,t22.2.2.2.1,t22.2.2.2.2,t25.1,t25.2.1,t25.2.2.1,t25.2.2.2.1,t25.2.2.2.2.1,t25.2.2.2.2.2.1,t25.2.2.2.2.2.2.1,t25.2.2.2.2.2.2.2.1,t25.2.2.2.2.2.2.2.2.1,t25.2.2.2.2.2.2.2.2.2.1,t25.2.2.2.2.2.2.2.2.2.2,x15.2.2.2.2.2.2.2.2.2.2.2.2.2.2.2.2.2.2.2.1,x15.2.2.2.2.2.2.2.2.2.2.2.2.2.2.2.2.2.2.2.2)]).bind fun zs32 =>
 some (.inl (w64 (t13 + 1),zs32)))
 (some (.inr jobs3))
def eC (a0:Agent):Option Agent :=
 (ap (a0.1,a0.2.1,a0.2.2.1,a0.2.2.2.1,a0.2.2.2.2.1,a0.2.2.2.2.2.1,a0.2.2.2.2.2.2.1,a0.2.2.2.2.2.2.2.1,a0.2.2.2.2.2.2.2.2.1,a0.2.2.2.2.2.2.2.2.2.1,a0.2.2.2.2.2.2.2.2.2.2.1)).bind fun t8 =>
 (loop (fun z=>dA a0 z.1 z.2) (0,[])).bind fun d =>
 some (t8.1,t8.2.1,t8.2.2.1,t8.2.2.2.1,t8.2.2.2.2.1,t8.2.2.2.2.2.1,t8.2.2.2.2.2.2.1,t8.2.2.2.2.2.2.2.1,t8.2.2.2.2.2.2.2.2.1,t8.2.2.2.2.2.2.2.2.2.1,t8.2.2.2.2.2.2.2.2.2.2,a0.2.2.2.2.2.2.2.2.2.2.2.1,d,a0.2.2.2.2.2.2.2.2.2.2.2.2.2.1,a0.2.2.2.2.2.2.2.2.2.2.2.2.2.2)
def jM:List (FuncId × Fn):=(186,⟨[.val true cAgent false],[.val true cAgent (some true)],fun a=>eC a⟩) :: jL
theorem ox:Gd jM:=mkM ow 186 Tryz.f186 [(0,⟨⟨[(3,false,[.own 1000000000]),(13,false,[dI])],[(1000000000,.root cJob true)]⟩,
 ⟨[(3,false,[.own 1000000300])],[(1000000300,.root cJob true)]⟩,none⟩)] Tryz.func186
def aU (n0:Int):Option Int :=
 let t2:=min2 (w64 (n0 + 1)) 1000000
 some t2
def jN:List (FuncId × Fn):=(188,⟨[.val false cNI false],[.val false cNI (some true)],fun a=>aU a⟩) :: jM
theorem oy:Gd jN:=mkM ox 188 Tryz.f188 [] Tryz.func188
def bR (a0:Agent) (k1:Int):Option Agent :=
 (cutIx a0.2.2.2.2.2.2.2.2.2.2.2.2.1.length 0 k1).bind fun p =>
 (cutIx a0.2.2.2.2.2.2.2.2.2.2.2.2.1.length (w64 (k1 + 1)) (a0.2.2.2.2.2.2.2.2.2.2.2.2.1.length:Int)).bind fun p_1 =>
 (cutTwo a0.2.2.2.2.2.2.2.2.2.2.2.2.1 p.1 p.2 p_1.1 p_1.2).bind fun zs18 =>
 some (a0.1,a0.2.1,a0.2.2.1,a0.2.2.2.1,a0.2.2.2.2.1,a0.2.2.2.2.2.1,a0.2.2.2.2.2.2.1,a0.2.2.2.2.2.2.2.1,a0.2.2.2.2.2.2.2.2.1,a0.2.2.2.2.2.2.2.2.2.1,a0.2.2.2.2.2.2.2.2.2.2.1,a0.2.2.2.2.2.2.2.2.2.2.2.1,zs18,a0.2.2.2.2.2.2.2.2.2.2.2.2.2.1,a0.2.2.2.2.2.2.2.2.2.2.2.2.2.2)
def jO:List (FuncId × Fn):=(374,⟨[.ptr cAgent (some true),.val false cNI false],[],fun a=>bR a.1 a.2⟩) :: jN
theorem oz:Gd jO:=mkM oy 374 Tryz.f374 [] Tryz.func374
def eD (a0:Agent) (k1:Int):Option Agent :=
 (ix a0.2.2.2.2.2.2.2.2.2.2.2.2.1.length k1).bind fun j10 =>
 (ap (a0.1,a0.2.1,a0.2.2.1,a0.2.2.2.1,a0.2.2.2.2.1,a0.2.2.2.2.2.1,a0.2.2.2.2.2.2.1,a0.2.2.2.2.2.2.2.1,a0.2.2.2.2.2.2.2.2.1,a0.2.2.2.2.2.2.2.2.2.1,a0.2.2.2.2.2.2.2.2.2.2.1)).bind fun t18 =>
 (a0.2.2.2.2.2.2.2.2.2.2.2.2.1[j10]?).bind fun x =>
 ((a0.2.2.2.2.2.2.2.2.2.2.2.2.1.set j10 (x.1,x.2.1,1,x.2.2.2.1,x.2.2.2.2.1,x.2.2.2.2.2.1,x.2.2.2.2.2.2.1,x.2.2.2.2.2.2.2.1,x.2.2.2.2.2.2.2.2.1,x.2.2.2.2.2.2.2.2.2.1,x.2.2.2.2.2.2.2.2.2.2.1,x.2.2.2.2.2.2.2.2.2.2.2.1,x.2.2.2.2.2.2.2.2.2.2.2.2.1,x.2.2.2.2.2.2.2.2.2.2.2.2.2.1,x.2.2.2.2.2.2.2.2.2.2.2.2.2.2.1,x.2.2.2.2.2.2.2.2.2.2.2.2.2.2.2.1,x.2.2.2.2.2.2.2.2.2.2.2.2.2.2.2.2.1,x.2.2.2.2.2.2.2.2.2.2.2.2.2.2.2.2.2.1,x.2.2.2.2.2.2.2.2.2.2.2.2.2.2.2.2.2.2.1,x.2.2.2.2.2.2.2.2.2.2.2.2.2.2.2.2.2.2.2.1,x.2.2.2.2.2.2.2.2.2.2.2.2.2.2.2.2.2.2.2.2))[j10]?).bind fun x_1 =>
 (((a0.2.2.2.2.2.2.2.2.2.2.2.2.1.set j10 (x.1,x.2.1,1,x.2.2.2.1,x.2.2.2.2.1,x.2.2.2.2.2.1,x.2.2.2.2.2.2.1,x.2.2.2.2.2.2.2.1,x.2.2.2.2.2.2.2.2.1,x.2.2.2.2.2.2.2.2.2.1,x.2.2.2.2.2.2.2.2.2.2.1,x.2.2.2.2.2.2.2.2.2.2.2.1,x.2.2.2.2.2.2.2.2.2.2.2.2.1,x.2.2.2.2.2.2.2.2.2.2.2.2.2.1,x.2.2.2.2.2.2.2.2.2.2.2.2.2.2.1,x.2.2.2.2.2.2.2.2.2.2.2.2.2.2.2.1,x.2.2.2.2.2.2.2.2.2.2.2.2.2.2.2.2.1,x.2.2.2.2.2.2.2.2.2.2.2.2.2.2.2.2.2.1,x.2.2.2.2.2.2.2.2.2.2.2.2.2.2.2.2.2.2.1,x.2.2.2.2.2.2.2.2.2.2.2.2.2.2.2.2.2.2.2.1,x.2.2.2.2.2.2.2.2.2.2.2.2.2.2.2.2.2.2.2.2)).set j10 (x_1.1,x_1.2.1,x_1.2.2.1,x_1.2.2.2.1,x_1.2.2.2.2.1,x_1.2.2.2.2.2.1,x_1.2.2.2.2.2.2.1,x_1.2.2.2.2.2.2.2.1,x_1.2.2.2.2.2.2.2.2.1,x_1.2.2.2.2.2.2.2.2.2.1,x_1.2.2.2.2.2.2.2.2.2.2.1,x_1.2.2.2.2.2.2.2.2.2.2.2.1,x_1.2.2.2.2.2.2.2.2.2.2.2.2.1,x_1.2.2.2.2.2.2.2.2.2.2.2.2.2.1,x_1.2.2.2.2.2.2.2.2.2.2.2.2.2.2.1,x_1.2.2.2.2.2.2.2.2.2.2.2.2.2.2.2.1,x_1.2.2.2.2.2.2.2.2.2.2.2.2.2.2.2.2.1,x_1.2.2.2.2.2.2.2.2.2.2.2.2.2.2.2.2.2.1,x_1.2.2.2.2.2.2.2.2.2.2.2.2.2.2.2.2.2.2.1,0,x_1.2.2.2.2.2.2.2.2.2.2.2.2.2.2.2.2.2.2.2.2))[j10]?).bind fun x_2 =>
 some (a0.1,a0.2.1,a0.2.2.1,a0.2.2.2.1,a0.2.2.2.2.1,a0.2.2.2.2.2.1,a0.2.2.2.2.2.2.1,a0.2.2.2.2.2.2.2.1,a0.2.2.2.2.2.2.2.2.1,a0.2.2.2.2.2.2.2.2.2.1,a0.2.2.2.2.2.2.2.2.2.2.1,a0.2.2.2.2.2.2.2.2.2.2.2.1,((a0.2.2.2.2.2.2.2.2.2.2.2.2.1.set j10 (x.1,x.2.1,1,x.2.2.2.1,x.2.2.2.2.1,x.2.2.2.2.2.1,x.2.2.2.2.2.2.1,x.2.2.2.2.2.2.2.1,x.2.2.2.2.2.2.2.2.1,x.2.2.2.2.2.2.2.2.2.1,x.2.2.2.2.2.2.2.2.2.2.1,x.2.2.2.2.2.2.2.2.2.2.2.1,x.2.2.2.2.2.2.2.2.2.2.2.2.1,x.2.2.2.2.2.2.2.2.2.2.2.2.2.1,x.2.2.2.2.2.2.2.2.2.2.2.2.2.2.1,x.2.2.2.2.2.2.2.2.2.2.2.2.2.2.2.1,x.2.2.2.2.2.2.2.2.2.2.2.2.2.2.2.2.1,x.2.2.2.2.2.2.2.2.2.2.2.2.2.2.2.2.2.1,x.2.2.2.2.2.2.2.2.2.2.2.2.2.2.2.2.2.2.1,x.2.2.2.2.2.2.2.2.2.2.2.2.2.2.2.2.2.2.2.1,x.2.2.2.2.2.2.2.2.2.2.2.2.2.2.2.2.2.2.2.2)).set j10 (x_1.1,x_1.2.1,x_1.2.2.1,x_1.2.2.2.1,x_1.2.2.2.2.1,x_1.2.2.2.2.2.1,x_1.2.2.2.2.2.2.1,x_1.2.2.2.2.2.2.2.1,x_1.2.2.2.2.2.2.2.2.1,x_1.2.2.2.2.2.2.2.2.2.1,x_1.2.2.2.2.2.2.2.2.2.2.1,x_1.2.2.2.2.2.2.2.2.2.2.2.1,x_1.2.2.2.2.2.2.2.2.2.2.2.2.1,x_1.2.2.2.2.2.2.2.2.2.2.2.2.2.1,x_1.2.2.2.2.2.2.2.2.2.2.2.2.2.2.1,x_1.2.2.2.2.2.2.2.2.2.2.2.2.2.2.2.1,x_1.2.2.2.2.2.2.2.2.2.2.2.2.2.2.2.2.1,x_1.2.2.2.2.2.2.2.2.2.2.2.2.2.2.2.2.2.1,x_1.2.2.2.2.2.2.2.2.2.2.2.2.2.2.2.2.2.2.1,0,x_1.2.2.2.2.2.2.2.2.2.2.2.2.2.2.2.2.2.2.2.2)).set j10 (x_2.1,x_2.2.1,x_2.2.2.1,x_2.2.2.2.1,x_2.2.2.2.2.1,x_2.2.2.2.2.2.1,x_2.2.2.2.2.2.2.1,x_2.2.2.2.2.2.2.2.1,t18.1,t18.2.1,t18.2.2.1,t18.2.2.2.1,t18.2.2.2.2.1,t18.2.2.2.2.2.1,t18.2.2.2.2.2.2.1,t18.2.2.2.2.2.2.2.1,t18.2.2.2.2.2.2.2.2.1,t18.2.2.2.2.2.2.2.2.2.1,t18.2.2.2.2.2.2.2.2.2.2,x_2.2.2.2.2.2.2.2.2.2.2.2.2.2.2.2.2.2.2.2.1,x_2.2.2.2.2.2.2.2.2.2.2.2.2.2.2.2.2.2.2.2.2),a0.2.2.2.2.2.2.2.2.2.2.2.2.2.1,a0.2.2.2.2.2.2.2.2.2.2.2.2.2.2)
def jQ:List (FuncId × Fn):=(375,⟨[.ptr cAgent (some true),.val false cNI false],[],fun a=>eD a.1 a.2⟩) :: jO
theorem oA:Gd jQ:=mkM oz 375 Tryz.f375 [] Tryz.func375
def eE (p0:Agent) (i1:Int):Option Agent :=
 (ix p0.2.2.2.2.2.2.2.2.2.2.2.2.1.length i1).bind fun j16 =>
 (p0.2.2.2.2.2.2.2.2.2.2.2.2.1[j16]?).bind fun x18 =>
 (bP p0.2.2.2.2.2.2.2.2.2.2.2.1 x18.2.1).bind fun t19 =>
 cond (t19.2 == 3)
 ((aU p0.2.2.2.2.2.2.2.2.1).bind fun t42 =>
 (bR (p0.1,p0.2.1,p0.2.2.1,p0.2.2.2.1,p0.2.2.2.2.1,p0.2.2.2.2.2.1,p0.2.2.2.2.2.2.1,p0.2.2.2.2.2.2.2.1,t42,p0.2.2.2.2.2.2.2.2.2.1,p0.2.2.2.2.2.2.2.2.2.2.1,p0.2.2.2.2.2.2.2.2.2.2.2.1,p0.2.2.2.2.2.2.2.2.2.2.2.2.1,p0.2.2.2.2.2.2.2.2.2.2.2.2.2.1,p0.2.2.2.2.2.2.2.2.2.2.2.2.2.2) i1).bind fun t48 =>
 some t48)
 ((cond (t19.2 != 0) (some true) (some (t19.1.1 == 162))).bind fun t56 =>
 cond t56
 ((aU p0.2.2.2.2.2.2.2.1).bind fun t63 =>
 (bR (p0.1,p0.2.1,p0.2.2.1,p0.2.2.2.1,p0.2.2.2.2.1,p0.2.2.2.2.2.1,p0.2.2.2.2.2.2.1,t63,p0.2.2.2.2.2.2.2.2.1,p0.2.2.2.2.2.2.2.2.2.1,p0.2.2.2.2.2.2.2.2.2.2.1,p0.2.2.2.2.2.2.2.2.2.2.2.1,p0.2.2.2.2.2.2.2.2.2.2.2.2.1,p0.2.2.2.2.2.2.2.2.2.2.2.2.2.1,p0.2.2.2.2.2.2.2.2.2.2.2.2.2.2) i1).bind fun t69 =>
 some t69)
 ((ix p0.2.2.2.2.2.2.2.2.2.2.2.2.1.length i1).bind fun j28 =>
 (p0.2.2.2.2.2.2.2.2.2.2.2.2.1[j28]?).bind fun x =>
 (eD (p0.1,p0.2.1,p0.2.2.1,p0.2.2.2.1,p0.2.2.2.2.1,p0.2.2.2.2.2.1,p0.2.2.2.2.2.2.1,p0.2.2.2.2.2.2.2.1,p0.2.2.2.2.2.2.2.2.1,p0.2.2.2.2.2.2.2.2.2.1,p0.2.2.2.2.2.2.2.2.2.2.1,p0.2.2.2.2.2.2.2.2.2.2.2.1,p0.2.2.2.2.2.2.2.2.2.2.2.2.1.set j28 (x.1,x.2.1,x.2.2.1,t19.1.1,t19.1.2.1,t19.1.2.2.1,t19.1.2.2.2.1,t19.1.2.2.2.2,x.2.2.2.2.2.2.2.2.1,x.2.2.2.2.2.2.2.2.2.1,x.2.2.2.2.2.2.2.2.2.2.1,x.2.2.2.2.2.2.2.2.2.2.2.1,x.2.2.2.2.2.2.2.2.2.2.2.2.1,x.2.2.2.2.2.2.2.2.2.2.2.2.2.1,x.2.2.2.2.2.2.2.2.2.2.2.2.2.2.1,x.2.2.2.2.2.2.2.2.2.2.2.2.2.2.2.1,x.2.2.2.2.2.2.2.2.2.2.2.2.2.2.2.2.1,x.2.2.2.2.2.2.2.2.2.2.2.2.2.2.2.2.2.1,x.2.2.2.2.2.2.2.2.2.2.2.2.2.2.2.2.2.2.1,x.2.2.2.2.2.2.2.2.2.2.2.2.2.2.2.2.2.2.2.1,x.2.2.2.2.2.2.2.2.2.2.2.2.2.2.2.2.2.2.2.2),p0.2.2.2.2.2.2.2.2.2.2.2.2.2.1,p0.2.2.2.2.2.2.2.2.2.2.2.2.2.2) i1).bind fun t32 =>
 some t32))
def jR:List (FuncId × Fn):=(291,⟨[.ptr cAgent (some true),.val false cNI false],[],fun a=>eE a.1 a.2⟩) :: jQ
theorem oB:Gd jR:=mkM oA 291 Tryz.f291 [] Tryz.func291
def aK (p0:Pdu):Option Bool :=
 (ez p0).bind fun t4 =>
 (ac (t4.length:Int) 1 120).bind fun t6 =>
 some t6
def jS:List (FuncId × Fn):=(35,⟨[.val true cPdu false],[.val false cNB (some true)],fun a=>aK a⟩) :: jR
theorem oC:Gd jS:=mkM oB 35 Tryz.f35 [] Tryz.func35
def aF (v0:Val) (name1:List Int):Option Bind :=
 (app ([1,3,1]:List Int) name1).bind fun zs7 =>
 some (zs7,v0.1,v0.2.1,v0.2.2.1,v0.2.2.2)
def jT:List (FuncId × Fn):=(253,⟨[.val true cVal false,.val false cNN false],[.val true cBind none],fun a=>aF a.1 a.2⟩) :: jS
theorem oD:Gd jT:=mkM oC 253 Tryz.f253 [] Tryz.func253
def aV (n0:Int):Option Val :=
 some (2,n0,[],[])
def jU:List (FuncId × Fn):=(254,⟨[.val false cNI false],[.val true cVal (some true)],fun a=>aV a⟩) :: jT
theorem oE:Gd jU:=mkM oD 254 Tryz.f254 [] Tryz.func254
def eF (is0:Bool):Option Int :=
 cond is0 (some 1) (some 0)
def jV:List (FuncId × Fn):=(359,⟨[.val false cNB false],[.val false cNI (some true)],fun a=>eF a⟩) :: jU
theorem oF:Gd jV:=mkM oE 359 Tryz.f359 [] Tryz.func359
def dC (a0:Vec) (b1:Vec):Option Bool :=
 cond (a0.1 != b1.1)
 (some (decide (a0.1 < b1.1)))
 (cond (a0.2.1 != b1.2.1)
 (some (decide (a0.2.1 < b1.2.1)))
 (cond (a0.2.2.2.1 != b1.2.2.2.1)
 (let t4:=decide (a0.2.2.2.1 < b1.2.2.2.1)
 some t4)
 (let t4_1:=decide (a0.2.2.2.2 < b1.2.2.2.2)
 some t4_1)))
def jW:List (FuncId × Fn):=(401,⟨[.val true cVec false,.val true cVec false],[.val false cNB (some true)],fun a=>dC a.1 a.2⟩) :: jV
theorem oG:Gd jW:=mkM oF 401 Tryz.f401 [] Tryz.func401
def eG (v0:Vec) (cost1:Int):Option (Vec × Bool) :=
 (cu v0).bind fun t8 =>
 (cond (!t8)
 (some true)
 ((ac cost1 1 1000).bind fun t12 =>
 some (!t12))).bind fun t14 =>
 cond t14
 (some (v0,false))
 ((cu (v0.1,w64 (v0.2.1 + cost1),w64 (v0.2.2.1 + 1),v0.2.2.2.1,v0.2.2.2.2)).bind fun t27 =>
 cond (!t27)
 (some (v0,false))
 (some ((v0.1,w64 (v0.2.1 + cost1),w64 (v0.2.2.1 + 1),v0.2.2.2.1,v0.2.2.2.2),true)))
def jX:List (FuncId × Fn):=(416,⟨[.val true cVec false,.val false cNI false],[.val true cVec (some true),.val false cNB (some true)],fun a=>eG a.1 a.2⟩) :: jW
theorem oH:Gd jX:=mkM oG 416 Tryz.f416 [] Tryz.func416
def dD (p0:Int) (i1:List Pt) (t7:Int) (t18:Int) (b0:Int) (b1:Int) (b2:Int) (b3:Int) (b4:Int) (b0_1:Int) (b1_1:Int) (b2_1:Int) (b3_1:Int) (b4_1:Int):Option ((Int × Int × Int × Int × Int × Int × Int × Int × Int × Int × Int × Int) ⊕ (Int × Int × Int × Int × Int × Int × Int × Int × Int × Int × Int)) :=
 cond (decide (t18 < (i1.length:Int)))
 ((at? i1 t18).bind fun x21 =>
 (cond (!x21.1) (some true) (some (!x21.2.2.1))).bind fun t30 =>
 cond t30
 (some (.inl (t7,w64 (t18 + 1),b0,b1,b2,b3,b4,b0_1,b1_1,b2_1,b3_1,b4_1)))
 ((eG x21.2.2.2 x21.2.1).bind fun t36 =>
 (cond t36.2 (some (decide (t36.1.1 < p0))) (some false)).bind fun t45 =>
 (cond t45
 ((cond (decide (t7 < 0))
 (some true)
 ((dC t36.1 (b0_1,b1_1,b2_1,b3_1,b4_1)).bind fun t52 =>
 some t52)).bind fun t53 =>
 some t53)
 (some false)).bind fun t54 =>
 cond t54
 (some (.inl (t18,w64 (t18 + 1),t36.1.1,t36.1.2.1,t36.1.2.2.1,p0,0,t36.1.1,t36.1.2.1,t36.1.2.2.1,t36.1.2.2.2.1,t36.1.2.2.2.2)))
 (some (.inl (t7,w64 (t18 + 1),b0,b1,b2,b3,b4,b0_1,b1_1,b2_1,b3_1,b4_1)))))
 (some (.inr (t7,b0,b1,b2,b3,b4,b0_1,b1_1,b2_1,b3_1,b4_1)))
def bz (p0:Int) (i1:List Pt):Option (Vec × Int) :=
 (loop (fun z=>dD p0 i1 z.1 z.2.1 z.2.2.1 z.2.2.2.1 z.2.2.2.2.1 z.2.2.2.2.2.1 z.2.2.2.2.2.2.1 z.2.2.2.2.2.2.2.1 z.2.2.2.2.2.2.2.2.1 z.2.2.2.2.2.2.2.2.2.1 z.2.2.2.2.2.2.2.2.2.2.1 z.2.2.2.2.2.2.2.2.2.2.2) ((-1),0,p0,0,0,p0,0,0,0,0,0,0)).bind fun d =>
 some ((d.2.1,d.2.2.1,d.2.2.2.1,d.2.2.2.2.1,d.2.2.2.2.2.1),d.1)
def jY:List (FuncId × Fn):=(400,⟨[.val false cNI false,.val false (.one (.sl cPt)) false],[.val true cVec (some true),.val false cNI (some true)],fun a=>bz a.1 a.2⟩) :: jX
theorem oI:Gd jY:=mkM oH 400 Tryz.f400 [(0,⟨⟨(7,false,[dI]) :: (18,false,[dI]) :: us 27 3 (us 41 4 (us 47 7 [])),[(266240,.box [dI,dI,dI,dI,dI]),(525312,.box [dI,dI,dI,dI,dI])]⟩,
 ⟨[(7,false,[dI])],[(266240,.box [dI,dI,dI,dI,dI]),(525312,.box [dI,dI,dI,dI,dI])]⟩,none⟩)] Tryz.func400
def eH (id0:Int) (l1:List Pt) (port2:Int):Option Vec :=
 (bz id0 l1).bind fun t12 =>
 some (t12.1.1,t12.1.2.1,t12.1.2.2.1,t12.1.2.2.2.1,port2)
def jZ:List (FuncId × Fn):=(402,⟨[.val false cNI false,.val false (.one (.sl cPt)) false,.val false cNI false],[.val true cVec (some true)],fun a=>eH a.1 a.2.1 a.2.2⟩) :: jY
theorem oJ:Gd jZ:=mkM oI 402 Tryz.f402 [] Tryz.func402
def aL (id0:Int) (l1:List Pt) (port2:Int):Option Int :=
 (ac port2 0 (w64 ((l1.length:Int) - 1))).bind fun t13 =>
 (cond (!t13)
 (some true)
 ((at? l1 port2).bind fun x18 =>
 some (!x18.1))).bind fun t22 =>
 cond t22
 (some 4)
 ((bz id0 l1).bind fun t26 =>
 cond (t26.2 == port2)
 (some 1)
 ((at? l1 port2).bind fun x36 =>
 (cond (!x36.2.2.1)
 (some true)
 ((eH id0 l1 port2).bind fun t44 =>
 (at? l1 port2).bind fun x47 =>
 (dC t44 x47.2.2.2).bind fun t50 =>
 some t50)).bind fun t51 =>
 cond t51 (some 2) (some 3)))
def kc:List (FuncId × Fn):=(360,⟨[.val false cNI false,.val false (.one (.sl cPt)) false,.val false cNI false],[.val false cNI (some true)],fun a=>aL a.1 a.2.1 a.2.2⟩) :: jZ
theorem oK:Gd kc:=mkM oJ 360 Tryz.f360 [] Tryz.func360
def bS (b0:Bridge) (c1:Int) (p2:Int):Option Int :=
 cond (c1 == 1)
 ((at? b0.2.2.1 p2).bind fun x13 =>
 (eF x13.1).bind fun t16 =>
 some t16)
 (cond (c1 == 2)
 ((at? b0.2.2.1 p2).bind fun x22 =>
 some x22.2.1)
 (cond (c1 == 3)
 ((aL b0.1 b0.2.2.1 p2).bind fun t32 =>
 some t32)
 ((at? b0.2.2.2.2.2.1 p2).bind fun x37 =>
 some x37)))
def ke:List (FuncId × Fn):=(255,⟨[.val true cBridge false,.val false cNI false,.val false cNI false],[.val false cNI (some true)],fun a=>bS a.1 a.2.1 a.2.2⟩) :: kc
theorem oL:Gd ke:=mkM oK 255 Tryz.f255 [] Tryz.func255
def kf (p0:Bridge) (t32:Int) (t3:List Bind):Option ((Int × List Bind) ⊕ (List Bind)) :=
 cond (decide (t32 < ([p0.2.2.2.2.2.2.1,p0.2.2.2.2.2.2.2.1,p0.2.2.2.2.2.2.2.2.1,p0.2.2.2.2.2.2.2.2.2.1].length:Int)))
 ((ix [p0.2.2.2.2.2.2.1,p0.2.2.2.2.2.2.2.1,p0.2.2.2.2.2.2.2.2.1,p0.2.2.2.2.2.2.2.2.2.1].length t32).bind fun j35 =>
 ([p0.2.2.2.2.2.2.1,p0.2.2.2.2.2.2.2.1,p0.2.2.2.2.2.2.2.2.1,p0.2.2.2.2.2.2.2.2.2.1][j35]?).bind fun x36 =>
 (aV x36).bind fun t39 =>
 (aF t39 [1,w64 (t32 + 2)]).bind fun t43 =>
 (app t3 [t43]).bind fun zs45 =>
 some (.inl (w64 (t32 + 1),zs45)))
 (some (.inr t3))
def bA (p0:Bridge) (t6:Int) (t54:Int) (t3_3:List Bind):Option ((Int × List Bind) ⊕ (List Bind)) :=
 cond (decide (t54 < (p0.2.2.1.length:Int)))
 ((bS p0 t6 t54).bind fun t61 =>
 (aV t61).bind fun t62 =>
 (aF t62 [2,t6,w64 (t54 + 1)]).bind fun t67 =>
 (app t3_3 [t67]).bind fun zs69 =>
 some (.inl (w64 (t54 + 1),zs69)))
 (some (.inr t3_3))
def bT (p0:Bridge) (t6:Int) (t3_2:List Bind):Option ((Int × List Bind) ⊕ (List Bind)) :=
 cond (decide (t6 ≤ 4))
 ((loop (fun z=>bA p0 t6 z.1 z.2) (0,t3_2)).bind fun d_1 =>
 some (.inl (w64 (t6 + 1),d_1)))
 (some (.inr t3_2))
def bB (p0:Bridge) (t8:Int) (t79:Int) (t3_7:List Bind):Option ((Int × List Bind) ⊕ (List Bind)) :=
 cond (decide (t79 < (p0.2.2.2.2.1.length:Int)))
 ((at? p0.2.2.2.2.1 t79).bind fun x81 =>
 (ix [1,x81.2.1,x81.2.2].length (w64 (t8 - 1))).bind fun j91 =>
 ([1,x81.2.1,x81.2.2][j91]?).bind fun x92 =>
 (aV x92).bind fun t93 =>
 (aF t93 [3,t8,x81.1]).bind fun t98 =>
 (app t3_7 [t98]).bind fun zs100 =>
 some (.inl (w64 (t79 + 1),zs100)))
 (some (.inr t3_7))
def bU (p0:Bridge) (t8:Int) (t3_6:List Bind):Option ((Int × List Bind) ⊕ (List Bind)) :=
 cond (decide (t8 ≤ 3))
 ((loop (fun z=>bB p0 t8 z.1 z.2) (0,t3_6)).bind fun d_3 =>
 some (.inl (w64 (t8 + 1),d_3)))
 (some (.inr t3_6))
def bh (p0:Bridge) (t105:Int) (t3_10:List Bind):Option ((Int × List Bind) ⊕ (List Bind)) :=
 cond (decide (t105 < (p0.2.2.2.1.length:Int)))
 ((at? p0.2.2.2.1 t105).bind fun x107 =>
 (aV (w64 (x107.2.2.1 + 1))).bind fun t113 =>
 (aF t113 [4,1,x107.1,x107.2.1]).bind fun t119 =>
 (app t3_10 [t119]).bind fun zs121 =>
 some (.inl (w64 (t105 + 1),zs121)))
 (some (.inr t3_10))
def bC (p0:Bridge):Option (List Bind) :=
 (bc p0).bind fun t14 =>
 cond (!t14)
 (some [])
 ((aF (4,0,p0.2.1,[]) ([1,1]:List Int)).bind fun t20 =>
 (loop (fun z=>kf p0 z.1 z.2) (0,[t20])).bind fun d =>
 (loop (fun z=>bT p0 z.1 z.2) (1,d)).bind fun d_2 =>
 (loop (fun z=>bU p0 z.1 z.2) (1,d_2)).bind fun d_4 =>
 (loop (fun z=>bh p0 z.1 z.2) (0,d_4)).bind fun d_5 =>
 some d_5)
def kg:List (FuncId × Fn):=(138,⟨[.val true cBridge false],[.val false (.one (.sl cBind)) none],fun a=>bC a⟩) :: ke
theorem oM:Gd kg:=mkM oL 138 Tryz.f138 [(0,⟨⟨[(3,false,[.own 1000000000]),(32,false,[dI])],[(1000000000,.root cBind false)]⟩,
 ⟨[(3,false,[.own 1000000300])],[(1000000300,.root cBind false)]⟩,none⟩),
 (2,⟨⟨[(3,false,[.own 1000002000]),(6,false,[dI])],[(1000002000,.root cBind false)]⟩,
 ⟨[(3,false,[.own 1000002300])],[(1000002300,.root cBind false)]⟩,none⟩),
 (4,⟨⟨[(3,false,[.own 1000004000]),(54,false,[dI])],[(1000004000,.root cBind false)]⟩,
 ⟨[(3,false,[.own 1000004300])],[(1000004300,.root cBind false)]⟩,none⟩),
 (6,⟨⟨[(3,false,[.own 1000006000]),(8,false,[dI])],[(1000006000,.root cBind false)]⟩,
 ⟨[(3,false,[.own 1000006300])],[(1000006300,.root cBind false)]⟩,none⟩),
 (8,⟨⟨[(3,false,[.own 1000008000]),(79,false,[dI])],[(1000008000,.root cBind false)]⟩,
 ⟨[(3,false,[.own 1000008300])],[(1000008300,.root cBind false)]⟩,none⟩),
 (10,⟨⟨[(3,false,[.own 1000010000]),(105,false,[dI])],[(1000010000,.root cBind false)]⟩,
 ⟨[(3,false,[.own 1000010300])],[(1000010300,.root cBind false)]⟩,none⟩)] Tryz.func138
def bj (o1:List Int) (t8:List Bind) (t10:Int) (b0_1:Int) (b1:Int) (b2:List UInt8) (b3:List Int):Option ((Int × Int × Int × List UInt8 × List Int) ⊕ ((Int × Int × List UInt8 × List Int) ⊕ (Int × Int × List UInt8 × List Int))) :=
 cond (decide (t10 < (t8.length:Int)))
 ((at? t8 t10).bind fun x12 =>
 (aE x12.1 o1).bind fun t17 =>
 cond t17
 (some (.inr (.inr x12.2)))
 (some (.inl (w64 (t10 + 1),b0_1,b1,b2,b3))))
 (some (.inr (.inl (b0_1,b1,b2,b3))))
def bV (b0:Bridge) (o1:List Int):Option Val :=
 (bC b0).bind fun t8 =>
 (loop (fun z=>bj o1 t8 z.1 z.2.1 z.2.2.1 z.2.2.2.1 z.2.2.2.2) (0,0,0,[],[])).bind (Sum.elim (fun d =>
 some (128,0,[],[])) (fun r=>some r))
def kh:List (FuncId × Fn):=(38,⟨[.val true cBridge false,.val false cNN false],[.val true cVal none],fun a=>bV a.1 a.2⟩) :: kg
theorem oN:Gd kh:=mkM oM 38 Tryz.f38 [(0,⟨⟨[(10,false,[dI])],[(2048,.box [dI,dI,dS,.own 1000000000]),(1000000000,.root cNI true)]⟩,
 ⟨[],[(2048,.box [dI,dI,dS,.own 1000000300]),(1000000300,.root cNI true)]⟩,some ⟨[],[(2048,.box [dI,dI,dS,.dat (.sl cNI)])]⟩⟩)] Tryz.func38
def dE (a0:List Int) (b1:List Int) (i5:Int):Option (Int ⊕ (Unit ⊕ Bool)) :=
 (cond (decide (i5 < (a0.length:Int))) (some (decide (i5 < (b1.length:Int)))) (some false)).bind fun t15 =>
 cond t15
 ((at? a0 i5).bind fun x20 =>
 (at? b1 i5).bind fun x24 =>
 cond (x20 != x24)
 ((at? a0 i5).bind fun x29 =>
 (at? b1 i5).bind fun x33 =>
 some (.inr (.inr (decide (x29 < x33)))))
 (some (.inl (w64 (i5 + 1)))))
 (some (.inr (.inl ())))
def eI (a0:List Int) (b1:List Int):Option Bool :=
 (loop (fun z=>dE a0 b1 z) 0).bind (Sum.elim (fun d =>
 let t4:=decide ((a0.length:Int) < (b1.length:Int))
 some t4) (fun r=>some r))
def ki:List (FuncId × Fn):=(139,⟨[.val false cNN false,.val false cNN false],[.val false cNB (some true)],fun a=>eI a.1 a.2⟩) :: kh
theorem oO:Gd ki:=mkM oN 139 Tryz.f139 [(0,⟨⟨(5,false,[dI]) :: us 11 4 [],[]⟩,
 ⟨[],[]⟩,some ⟨[(4,false,[dB])],[]⟩⟩)] Tryz.func139
def bW (o1:List Int) (t8:List Bind) (t10:Int) (b1:Int) (b2:Int) (b3:List UInt8) (b0_1:List Int) (b4:List Int):Option ((Int × Int × Int × List UInt8 × List Int × List Int) ⊕ ((Int × Int × List UInt8 × List Int × List Int) ⊕ (List Int × Int × Int × List UInt8 × List Int))) :=
 cond (decide (t10 < (t8.length:Int)))
 ((at? t8 t10).bind fun x12 =>
 (eI o1 x12.1).bind fun t17 =>
 cond t17
 (some (.inr (.inr x12)))
 (some (.inl (w64 (t10 + 1),b1,b2,b3,b0_1,b4))))
 (some (.inr (.inl (b1,b2,b3,b0_1,b4))))
def bm (b0:Bridge) (o1:List Int):Option Bind :=
 (bC b0).bind fun t8 =>
 (loop (fun z=>bW o1 t8 z.1 z.2.1 z.2.2.1 z.2.2.2.1 z.2.2.2.2.1 z.2.2.2.2.2) (0,0,0,[],[],[])).bind (Sum.elim (fun d =>
 (aS o1).bind fun t21 =>
 some (t21,130,0,[],[])) (fun r=>some r))
def kj:List (FuncId × Fn):=(39,⟨[.val true cBridge false,.val false cNN false],[.val true cBind none],fun a=>bm a.1 a.2⟩) :: ki
theorem oP:Gd kj:=mkM oO 39 Tryz.f39 [(0,⟨⟨[(10,false,[dI])],[(2048,.box [.own 1000000000,dI,dI,dS,.own 1000000001]),(1000000000,.root cNI true),(1000000001,.root cNI true)]⟩,
 ⟨[],[(2048,.box [.own 1000000300,dI,dI,dS,.own 1000000301]),(1000000300,.root cNI true),(1000000301,.root cNI true)]⟩,some ⟨[],[(2048,.box [.dat (.sl cNI),dI,dI,dS,.dat (.sl cNI)])]⟩⟩)] Tryz.func39
def dG (p0:Bridge) (t24:List Bind) (t26:Int) (t5:List Bind):Option ((Int × List Bind) ⊕ (List Bind)) :=
 cond (decide (t26 < (t24.length:Int)))
 ((at? t24 t26).bind fun x28 =>
 (bm p0 x28.1).bind fun t34 =>
 (app t5 [t34]).bind fun zs36 =>
 some (.inl (w64 (t26 + 1),zs36)))
 (some (.inr t5))
def dH (t41:List Bind) (t43:Int) (t9:List (List Int)):Option ((Int × List (List Int)) ⊕ (List (List Int))) :=
 cond (decide (t43 < (t41.length:Int)))
 ((at? t41 t43).bind fun x45 =>
 (app t9 [x45.1]).bind fun zs51 =>
 some (.inl (w64 (t43 + 1),zs51)))
 (some (.inr t9))
def cH (p0:Bridge) (l:List (List Int)) (t71:Int) (t5_3:List Bind) (l_1:List (List Int)):Option ((Int × List Bind × List (List Int)) ⊕ (List Bind × List (List Int))) :=
 cond (decide (t71 < (l.length:Int)))
 (cond (decide ((t5_3.length:Int) ≥ 10))
 (some (.inr (t5_3,l_1)))
 ((ix l_1.length t71).bind fun j80 =>
 (l_1[j80]?).bind fun x81 =>
 (bm p0 x81).bind fun t82 =>
 (ix l_1.length t71).bind fun j87 =>
 (l_1[j87]?).bind fun x =>
 (app t5_3 [t82]).bind fun zs91 =>
 some (.inl (w64 (t71 + 1),zs91,l_1.set j87 t82.1))))
 (some (.inr (t5_3,l_1)))
def bD (p0:Bridge) (i1:Pdu) (t12:Int) (t5_2:List Bind) (l:List (List Int)):Option ((Int × List Bind × List (List Int)) ⊕ (List Bind × List (List Int))) :=
 (cond (decide (t12 < i1.2.2.2.1)) (some (decide ((l.length:Int) > 0))) (some false)).bind fun t61 =>
 (cond t61 (some (decide ((t5_2.length:Int) < 10))) (some false)).bind fun t66 =>
 cond t66
 ((loop (fun z=>cH p0 l z.1 z.2.1 z.2.2) (0,t5_2,l)).bind fun d_2 =>
 some (.inl (w64 (t12 + 1),d_2.1,d_2.2)))
 (some (.inr (t5_2,l)))
def fR (p0:Bridge) (i1:Pdu):Option (List Bind) :=
 let t6:=min2 i1.2.2.1 (i1.2.2.2.2.length:Int)
 (cut i1.2.2.2.2 0 t6).bind fun t24 =>
 (loop (fun z=>dG p0 t24 z.1 z.2) (0,[])).bind fun d =>
 (cut i1.2.2.2.2 t6 (i1.2.2.2.2.length:Int)).bind fun t41 =>
 (loop (fun z=>dH t41 z.1 z.2) (0,[])).bind fun d_1 =>
 (loop (fun z=>bD p0 i1 z.1 z.2.1 z.2.2) (0,d,d_1)).bind fun d_3 =>
 some d_3.1
def kk:List (FuncId × Fn):=(122,⟨[.val true cBridge false,.val true cPdu false],[.val false (.one (.sl cBind)) none],fun a=>fR a.1 a.2⟩) :: kj
theorem oQ:Gd kk:=mkM oP 122 Tryz.f122 [(0,⟨⟨[(5,false,[.own 1000000000]),(26,false,[dI])],[(1000000000,.root cBind false)]⟩,
 ⟨[(5,false,[.own 1000000300])],[(1000000300,.root cBind false)]⟩,none⟩),
 (2,⟨⟨[(9,false,[.own 1000002000]),(43,false,[dI])],[(1000002000,.root cNN false)]⟩,
 ⟨[(9,false,[.own 1000002300])],[(1000002300,.root cNN false)]⟩,none⟩),
 (4,⟨⟨(5,false,[.own 1000004000]) :: (12,false,[dI]) :: us 58 3 (us 63 3 []),[(1000004000,.root cBind false),(1000002300,.keep cNN false)]⟩,
 ⟨[(5,false,[.own 1000004300])],[(1000004300,.root cBind false),(1000002300,.keep cNN false)]⟩,none⟩),
 (6,⟨⟨[(5,false,[.own 1000006000]),(71,false,[dI])],[(1000006000,.root cBind false),(1000002300,.keep cNN false)]⟩,
 ⟨[(5,false,[.own 1000006300])],[(1000006300,.root cBind false),(1000002300,.keep cNN false)]⟩,none⟩)] Tryz.func122
def aM (o0:List Int) (low1:Int) (high2:Int) (head3:List Int):Option Bool :=
 cond ((o0.length:Int) == (w64 ((head3.length:Int) + 4)))
 ((cut o0 0 (w64 ((o0.length:Int) - 1))).bind fun t20 =>
 (app ([1,3,1]:List Int) head3).bind fun zs23 =>
 (aE t20 zs23).bind fun t24 =>
 (cond t24
 ((at? o0 (w64 ((o0.length:Int) - 1))).bind fun x31 =>
 (ac x31 low1 high2).bind fun t35 =>
 some t35)
 (some false)).bind fun t36 =>
 some t36)
 ((some false).bind fun t36_1 =>
 some t36_1)
def kl:List (FuncId × Fn):=(392,⟨[.val false cNN false,.val false cNI false,.val false cNI false,.val false cNN false],[.val false cNB (some true)],fun a=>aM a.1 a.2.1 a.2.2.1 a.2.2.2⟩) :: kk
theorem oR:Gd kl:=mkM oQ 392 Tryz.f392 [] Tryz.func392
def fS (b0:Bridge) (o1:List Int):Option Bool :=
 (aM o1 1 1 ([1]:List Int)).bind fun t11 =>
 (cond t11
 (some true)
 ((aM o1 1 (b0.2.2.1.length:Int) ([2,2]:List Int)).bind fun t16 =>
 some t16)).bind fun t17 =>
 (cond t17
 (some true)
 ((aM o1 1 (b0.2.2.1.length:Int) ([2,4]:List Int)).bind fun t22 =>
 some t22)).bind fun t23 =>
 (cond t23
 (some true)
 ((aM o1 1 99 ([3,1]:List Int)).bind fun t27 =>
 some t27)).bind fun t28 =>
 cond t28
 (some true)
 ((aM o1 1 99 ([3,2]:List Int)).bind fun t31 =>
 (cond t31
 (some true)
 ((aM o1 1 99 ([3,3]:List Int)).bind fun t35 =>
 some t35)).bind fun t36 =>
 (cond t36
 ((at? o1 5).bind fun x41 =>
 (ao (b0.2.2.2.2.1,b0.2.2.2.2.2.1) x41).bind fun t43 =>
 some (decide (t43 ≥ 0)))
 (some false)).bind fun t45 =>
 some t45)
def ko:List (FuncId × Fn):=(347,⟨[.val true cBridge false,.val false cNN false],[.val false cNB (some true)],fun a=>fS a.1 a.2⟩) :: kl
theorem oS:Gd ko:=mkM oR 347 Tryz.f347 [] Tryz.func347
def fT (v0:Vtab) (r1:Vrow) (k7:Int):Option (Int ⊕ Int) :=
 (cond (decide (k7 < (v0.1.length:Int)))
 ((at? v0.1 k7).bind fun x31 =>
 some (decide (x31.1 ≤ r1.1)))
 (some false)).bind fun t37 =>
 cond t37 (some (.inl (w64 (k7 + 1)))) (some (.inr k7))
def eJ (v0:Vtab) (r1:Vrow):Option Vtab :=
 (dx v0).bind fun t9 =>
 (ao v0 r1.1).bind fun t13 =>
 cond (decide (t13 ≥ 0))
 ((ix t9.1.length t13).bind fun j20 =>
 (t9.1[j20]?).bind fun x =>
 some (t9.1.set j20 r1,t9.2))
 ((loop (fun z=>fT v0 r1 z) 0).bind fun d =>
 (cut v0.1 0 d).bind fun t43 =>
 (app [] t43).bind fun zs44 =>
 (app zs44 [r1]).bind fun zs47 =>
 (cut v0.1 d (v0.1.length:Int)).bind fun t51 =>
 (app zs47 t51).bind fun zs52 =>
 some (zs52,t9.2))
def kq:List (FuncId × Fn):=(412,⟨[.val true cVtab false,.val true cVrow false],[.val true cVtab (some true)],fun a=>eJ a.1 a.2⟩) :: ko
theorem oT:Gd kq:=mkM oS 412 Tryz.f412 [(0,⟨⟨(7,false,[dI]) :: us 28 9 [],[]⟩,
 ⟨[(7,false,[dI])],[]⟩,none⟩)] Tryz.func412
def eK (v0:Vtab) (id1:Int):Option Vtab :=
 (dx v0).bind fun t8 =>
 (ao v0 id1).bind fun t11 =>
 cond (decide (t11 ≥ 0))
 ((cut v0.1 0 t11).bind fun t17 =>
 (app [] t17).bind fun zs18 =>
 (cut v0.1 (w64 (t11 + 1)) (v0.1.length:Int)).bind fun t23 =>
 (app zs18 t23).bind fun zs24 =>
 some (zs24,t8.2))
 (some t8)
def kr:List (FuncId × Fn):=(413,⟨[.val true cVtab false,.val false cNI false],[.val true cVtab (some true)],fun a=>eK a.1 a.2⟩) :: kq
theorem oU:Gd kr:=mkM oT 413 Tryz.f413 [] Tryz.func413
def fU (p0:Bridge) (i1:Int) (a2:Int) (a3:Int):Option (Bridge × Int) :=
 (ao (p0.2.2.2.2.1,p0.2.2.2.2.2.1) a2).bind fun t15 =>
 cond (i1 == 1)
 ((cond (a3 == 4) (some (decide (t15 < 0))) (some false)).bind fun t24 =>
 (cond t24 (some (decide ((p0.2.2.2.2.1.length:Int) < 6))) (some false)).bind fun t33 =>
 cond t33
 ((eJ (p0.2.2.2.2.1,p0.2.2.2.2.2.1) (a2,0,0)).bind fun t41 =>
 some ((p0.1,p0.2.1,p0.2.2.1,p0.2.2.2.1,t41.1,t41.2,p0.2.2.2.2.2.2.1,p0.2.2.2.2.2.2.2.1,p0.2.2.2.2.2.2.2.2.1,p0.2.2.2.2.2.2.2.2.2.1,p0.2.2.2.2.2.2.2.2.2.2),0))
 ((cond (a3 == 6) (some (decide (t15 ≥ 0))) (some false)).bind fun t50 =>
 cond t50
 ((eK (p0.2.2.2.2.1,p0.2.2.2.2.2.1) a2).bind fun t57 =>
 some ((p0.1,p0.2.1,p0.2.2.1,p0.2.2.2.1,t57.1,t57.2,p0.2.2.2.2.2.2.1,p0.2.2.2.2.2.2.2.1,p0.2.2.2.2.2.2.2.2.1,p0.2.2.2.2.2.2.2.2.2.1,p0.2.2.2.2.2.2.2.2.2.2),0))
 (some (p0,2))))
 ((es (p0.2.2.1.length:Int)).bind fun t66 =>
 (ac a3 0 t66).bind fun t67 =>
 cond (!t67)
 (some (p0,2))
 (cond (i1 == 2)
 ((ix p0.2.2.2.2.1.length t15).bind fun j78 =>
 (p0.2.2.2.2.1[j78]?).bind fun x =>
 some ((p0.1,p0.2.1,p0.2.2.1,p0.2.2.2.1,p0.2.2.2.2.1.set j78 (x.1,a3,x.2.2),p0.2.2.2.2.2.1,p0.2.2.2.2.2.2.1,p0.2.2.2.2.2.2.2.1,p0.2.2.2.2.2.2.2.2.1,p0.2.2.2.2.2.2.2.2.2.1,p0.2.2.2.2.2.2.2.2.2.2),0))
 ((ix p0.2.2.2.2.1.length t15).bind fun j87 =>
 (p0.2.2.2.2.1[j87]?).bind fun x_1 =>
 some ((p0.1,p0.2.1,p0.2.2.1,p0.2.2.2.1,p0.2.2.2.2.1.set j87 (x_1.1,x_1.2.1,a3),p0.2.2.2.2.2.1,p0.2.2.2.2.2.2.1,p0.2.2.2.2.2.2.2.1,p0.2.2.2.2.2.2.2.2.1,p0.2.2.2.2.2.2.2.2.2.1,p0.2.2.2.2.2.2.2.2.2.2),0))))
def kt:List (FuncId × Fn):=(393,⟨[.ptr cBridge (some true),.val false cNI false,.val false cNI false,.val false cNI false],[.val false cNI (some true)],fun a=>fU a.1 a.2.1 a.2.2.1 a.2.2.2⟩) :: kr
theorem oV:Gd kt:=mkM oU 393 Tryz.f393 [] Tryz.func393
def gQ (p0:Bridge) (i1:List Int) (a2:Val):Option (Bridge × Int) :=
 (at? i1 3).bind fun x9 =>
 (cond (x9 == 1) (some (a2.1 != 4)) (some false)).bind fun t17 =>
 (cond t17
 (some true)
 ((cond (!(x9 == 1)) (some (a2.1 != 2)) (some false)).bind fun t25 =>
 some t25)).bind fun t26 =>
 cond t26
 (some (p0,1))
 (cond (x9 == 1)
 (cond (decide ((a2.2.2.1.length:Int) > 10))
 (some (p0,2))
 (some ((p0.1,a2.2.2.1,p0.2.2.1,p0.2.2.2.1,p0.2.2.2.2.1,p0.2.2.2.2.2.1,p0.2.2.2.2.2.2.1,p0.2.2.2.2.2.2.2.1,p0.2.2.2.2.2.2.2.2.1,p0.2.2.2.2.2.2.2.2.2.1,p0.2.2.2.2.2.2.2.2.2.2),0)))
 ((at? i1 3).bind fun x52 =>
 cond (x52 == 3)
 ((at? i1 4).bind fun x57 =>
 (at? i1 5).bind fun x60 =>
 (fU p0 x57 x60 a2.2.1).bind fun t64 =>
 some t64)
 ((at? i1 4).bind fun x67 =>
 cond (x67 == 2)
 ((ac a2.2.1 1 1000).bind fun t72 =>
 cond (!t72)
 (some (p0,2))
 ((at? i1 5).bind fun x79 =>
 (ix p0.2.2.1.length (w64 (x79 - 1))).bind fun j84 =>
 (p0.2.2.1[j84]?).bind fun x =>
 some ((p0.1,p0.2.1,p0.2.2.1.set j84 (x.1,a2.2.1,x.2.2.1,x.2.2.2.1,x.2.2.2.2.1,x.2.2.2.2.2.1,x.2.2.2.2.2.2.1,x.2.2.2.2.2.2.2),p0.2.2.2.1,p0.2.2.2.2.1,p0.2.2.2.2.2.1,p0.2.2.2.2.2.2.1,p0.2.2.2.2.2.2.2.1,p0.2.2.2.2.2.2.2.2.1,p0.2.2.2.2.2.2.2.2.2.1,p0.2.2.2.2.2.2.2.2.2.2),0)))
 ((at? i1 5).bind fun x33 =>
 (ix p0.2.2.2.2.2.1.length (w64 (x33 - 1))).bind fun j38 =>
 (p0.2.2.2.2.2.1[j38]?).bind fun x_1 =>
 some ((p0.1,p0.2.1,p0.2.2.1,p0.2.2.2.1,p0.2.2.2.2.1,p0.2.2.2.2.2.1.set j38 a2.2.1,p0.2.2.2.2.2.2.1,p0.2.2.2.2.2.2.2.1,p0.2.2.2.2.2.2.2.2.1,p0.2.2.2.2.2.2.2.2.2.1,p0.2.2.2.2.2.2.2.2.2.2),0)))))
def ku:List (FuncId × Fn):=(348,⟨[.ptr cBridge (some true),.val false cNN false,.val true cVal false],[.val false cNI (some true)],fun a=>gQ a.1 a.2.1 a.2.2⟩) :: kt
theorem oW:Gd ku:=mkM oV 348 Tryz.f348 [] Tryz.func348
def cI (l0:List Fent) (tag1:Int) (mac2:Int) (t11:Int):Option (Int ⊕ (Unit ⊕ Int)) :=
 cond (decide (t11 < (l0.length:Int)))
 ((at? l0 t11).bind fun x14 =>
 (cond (x14.1 == tag1) (some (x14.2.1 == mac2)) (some false)).bind fun t25 =>
 cond t25 (some (.inr (.inr t11))) (some (.inl (w64 (t11 + 1)))))
 (some (.inr (.inl ())))
def fV (l0:List Fent) (tag1:Int) (mac2:Int):Option Int :=
 (loop (fun z=>cI l0 tag1 mac2 z) 0).bind (Sum.elim (fun d =>
 some (-1)) (fun r=>some r))
def kv:List (FuncId × Fn):=(386,⟨[.val false (.one (.sl cFent)) false,.val false cNI false,.val false cNI false],[.val false cNI (some true)],fun a=>fV a.1 a.2.1 a.2.2⟩) :: ku
theorem oX:Gd kv:=mkM oW 386 Tryz.f386 [(0,⟨⟨(11,false,[dI]) :: us 21 4 [],[]⟩,
 ⟨[],[]⟩,some ⟨[(6,false,[dI])],[]⟩⟩)] Tryz.func386
def fW (b0:Bridge) (o1:List Int):Option Bool :=
 (aM o1 2 5 ([1]:List Int)).bind fun t11 =>
 (cond t11
 (some true)
 ((aM o1 1 (b0.2.2.1.length:Int) ([2,1]:List Int)).bind fun t16 =>
 some t16)).bind fun t17 =>
 (cond t17
 (some true)
 ((aM o1 1 (b0.2.2.1.length:Int) ([2,3]:List Int)).bind fun t22 =>
 some t22)).bind fun t23 =>
 cond t23
 (some true)
 ((cond ((o1.length:Int) == 7)
 ((cut o1 0 5).bind fun t29 =>
 (aE t29 ([1,3,1,4,1]:List Int)).bind fun t31 =>
 some t31)
 (some false)).bind fun t32 =>
 (cond t32
 ((at? o1 5).bind fun x37 =>
 (at? o1 6).bind fun x40 =>
 (fV b0.2.2.2.1 x37 x40).bind fun t42 =>
 some (decide (t42 ≥ 0)))
 (some false)).bind fun t44 =>
 some t44)
def kw:List (FuncId × Fn):=(349,⟨[.val true cBridge false,.val false cNN false],[.val false cNB (some true)],fun a=>fW a.1 a.2⟩) :: kv
theorem oY:Gd kw:=mkM oX 349 Tryz.f349 [] Tryz.func349
def cJ (b0:Bridge) (x1:Bind):Option (Bridge × Int) :=
 (fS b0 x1.1).bind fun t11 =>
 cond t11
 ((gQ b0 x1.1 x1.2).bind fun t17 =>
 some t17)
 ((fW b0 x1.1).bind fun t24 =>
 cond t24 (some (b0,4)) (some (b0,3)))
def kz:List (FuncId × Fn):=(237,⟨[.ptr cBridge (some true),.val true cBind false],[.val false cNI (some true)],fun a=>cJ a.1 a.2⟩) :: kw
theorem oZ:Gd kz:=mkM oY 237 Tryz.f237 [] Tryz.func237
def fX (bits0:Int) (port1:Int):Option Bool :=
 (ac port1 0 62).bind fun t6 =>
 (cond t6
 ((shr .i64 bits0 port1).bind fun t10 =>
 some ((band .i64 t10 1) == 1))
 (some false)).bind fun t13 =>
 some t13
def kA:List (FuncId × Fn):=(323,⟨[.val false cNI false,.val false cNI false],[.val false cNB (some true)],fun a=>fX a.1 a.2⟩) :: kz
theorem p5:Gd kA:=mkM oZ 323 Tryz.f323 [] Tryz.func323
def aX (id0:Int) (l1:List Pt) (bits5:Int) (port6:Int):Option ((Int × Int) ⊕ Int) :=
 (cond (decide (port6 < (l1.length:Int))) (some (decide (port6 < 6))) (some false)).bind fun t15 =>
 cond t15
 ((aL id0 l1 port6).bind fun t21 =>
 (cond (t21 == 1) (some true) (some (t21 == 2))).bind fun t27 =>
 cond t27
 ((shl .i64 1 port6).bind fun t30 =>
 some (.inl (bor .i64 bits5 t30,w64 (port6 + 1))))
 (some (.inl (bits5,w64 (port6 + 1)))))
 (some (.inr bits5))
def fY (id0:Int) (l1:List Pt):Option Int :=
 (loop (fun z=>aX id0 l1 z.1 z.2) (0,0)).bind fun d =>
 some d
def kB:List (FuncId × Fn):=(324,⟨[.val false cNI false,.val false (.one (.sl cPt)) false],[.val false cNI (some true)],fun a=>fY a.1 a.2⟩) :: kA
theorem p6:Gd kB:=mkM p5 324 Tryz.f324 [(0,⟨⟨[(5,false,[dI]),(6,false,[dI]),(13,false,[.undef]),(14,false,[.undef]),(25,false,[.undef]),(26,false,[.undef])],[]⟩,
 ⟨[(5,false,[dI])],[]⟩,none⟩)] Tryz.func324
def dJ (l0:List Fent) (port1:Int) (t10:Int) (out5:List Fent):Option ((Int × List Fent) ⊕ (List Fent)) :=
 cond (decide (t10 < (l0.length:Int)))
 ((at? l0 t10).bind fun x12 =>
 (cond x12.2.2.2.2 (some true) (some (x12.2.2.1 != port1))).bind fun t21 =>
 cond t21
 ((app out5 [x12]).bind fun zs25 =>
 some (.inl (w64 (t10 + 1),zs25)))
 (some (.inl (w64 (t10 + 1),out5))))
 (some (.inr out5))
def fZ (l0:List Fent) (port1:Int):Option (List Fent) :=
 (loop (fun z=>dJ l0 port1 z.1 z.2) (0,[])).bind fun d =>
 some d
def kC:List (FuncId × Fn):=(350,⟨[.val false (.one (.sl cFent)) false,.val false cNI false],[.val false (.one (.sl cFent)) (some true)],fun a=>fZ a.1 a.2⟩) :: kB
theorem p7:Gd kC:=mkM p6 350 Tryz.f350 [(0,⟨⟨(5,false,[.own 1000000000]) :: (10,false,[dI]) :: us 17 4 [],[(1000000000,.root cFent true)]⟩,
 ⟨[(5,false,[.own 1000000300])],[(1000000300,.root cFent true)]⟩,none⟩)] Tryz.func350
def ga (b0:Bridge) (t20:Int) (t26:Int) (b0_1:Int) (b1:List UInt8) (b6:Int) (b7:Int) (b8:Int) (b9:Int) (b10:Int) (b3:List Fent):Option ((Int × Int × List UInt8 × Int × Int × Int × Int × Int × List Fent) ⊕ (Int × List UInt8 × Int × Int × Int × Int × Int × List Fent)) :=
 cond (decide (t26 < (b0.2.2.1.length:Int)))
 ((fX t20 t26).bind fun t31 =>
 cond (!t31)
 ((fZ b3 t26).bind fun t39 =>
 some (.inl (w64 (t26 + 1),b0_1,b1,b6,b7,b8,b9,b10,t39)))
 (some (.inl (w64 (t26 + 1),b0_1,b1,b6,b7,b8,b9,b10,b3))))
 (some (.inr (b0_1,b1,b6,b7,b8,b9,b10,b3)))
def aY (b0:Bridge):Option Bridge :=
 (aU b0.2.2.2.2.2.2.2.2.2.2).bind fun t9 =>
 (fY b0.1 b0.2.2.1).bind fun t20 =>
 (loop (fun z=>ga b0 t20 z.1 z.2.1 z.2.2.1 z.2.2.2.1 z.2.2.2.2.1 z.2.2.2.2.2.1 z.2.2.2.2.2.2.1 z.2.2.2.2.2.2.2.1 z.2.2.2.2.2.2.2.2) (0,b0.1,b0.2.1,b0.2.2.2.2.2.2.1,b0.2.2.2.2.2.2.2.1,b0.2.2.2.2.2.2.2.2.1,b0.2.2.2.2.2.2.2.2.2.1,t9,b0.2.2.2.1)).bind fun d =>
 some (d.1,d.2.1,b0.2.2.1,d.2.2.2.2.2.2.2,b0.2.2.2.2.1,b0.2.2.2.2.2.1,d.2.2.1,d.2.2.2.1,d.2.2.2.2.1,d.2.2.2.2.2.1,d.2.2.2.2.2.2.1)
def kD:List (FuncId × Fn):=(238,⟨[.ptr cBridge (some true)],[],fun a=>aY a⟩) :: kC
theorem p8:Gd kD:=mkM p7 238 Tryz.f238 [(0,⟨⟨[(26,false,[dI])],[(1,.box [dI,dS,.same 4,.own 1000000000,.same 6,.same 7,dI,dI,dI,dI,dI]),(1000000000,.root cFent true)]⟩,
 ⟨[],[(1,.box [dI,dS,.same 4,.own 1000000300,.same 6,.same 7,dI,dI,dI,dI,dI]),(1000000300,.root cFent true)]⟩,none⟩)] Tryz.func238
def eL (p0:Bridge) (t25:Int) (x28:Bind) (t32:List Bind) (t34:Int) (b0_2:Int) (b1_2:List UInt8) (b6_2:Int) (b7_2:Int) (b8_2:Int) (b9_2:Int) (b10_2:Int):Option ((Int × Int × List UInt8 × Int × Int × Int × Int × Int) ⊕ ((Int × List UInt8 × Int × Int × Int × Int × Int) ⊕ (Int × Int × Int × List UInt8 × Int × Int × Int × Int × Int × List Pt × List Fent × List Vrow × List Int))) :=
 cond (decide (t34 < (t32.length:Int)))
 ((at? t32 t34).bind fun x36 =>
 (aE x28.1 x36.1).bind fun t42 =>
 cond t42
 ((ap p0).bind fun t44 =>
 some (.inr (.inr (5,w64 (t25 + 1),t44.1,t44.2.1,t44.2.2.2.2.2.2.1,t44.2.2.2.2.2.2.2.1,t44.2.2.2.2.2.2.2.2.1,t44.2.2.2.2.2.2.2.2.2.1,t44.2.2.2.2.2.2.2.2.2.2,t44.2.2.1,t44.2.2.2.1,t44.2.2.2.2.1,t44.2.2.2.2.2.1))))
 (some (.inl (w64 (t34 + 1),b0_2,b1_2,b6_2,b7_2,b8_2,b9_2,b10_2))))
 (some (.inr (.inl (b0_2,b1_2,b6_2,b7_2,b8_2,b9_2,b10_2))))
def gb (p0:Bridge) (i1:List Bind) (t25:Int) (b0:Int) (b1:List UInt8) (b6:Int) (b7:Int) (b8:Int) (b9:Int) (b10:Int) (b0_1:Int) (b1_1:List UInt8) (b6_1:Int) (b7_1:Int) (b8_1:Int) (b9_1:Int) (b10_1:Int) (b2:List Pt) (b3:List Fent) (b4:List Vrow) (b5:List Int) (b2_1:List Pt) (b3_1:List Fent) (b4_1:List Vrow) (b5_1:List Int):Option ((Int × Int × List UInt8 × Int × Int × Int × Int × Int × Int × List UInt8 × Int × Int × Int × Int × Int × List Pt × List Fent × List Vrow × List Int × List Pt × List Fent × List Vrow × List Int) ⊕ ((Int × List UInt8 × Int × Int × Int × Int × Int × Int × List UInt8 × Int × Int × Int × Int × Int × List Pt × List Fent × List Vrow × List Int × List Pt × List Fent × List Vrow × List Int) ⊕ (Int × Int × Int × List UInt8 × Int × Int × Int × Int × Int × List Pt × List Fent × List Vrow × List Int))) :=
 cond (decide (t25 < (i1.length:Int)))
 ((at? i1 t25).bind fun x28 =>
 (cut i1 0 t25).bind fun t32 =>
 (loop (fun z=>eL p0 t25 x28 t32 z.1 z.2.1 z.2.2.1 z.2.2.2.1 z.2.2.2.2.1 z.2.2.2.2.2.1 z.2.2.2.2.2.2.1 z.2.2.2.2.2.2.2) (0,b0,b1,b6,b7,b8,b9,b10)).bind (Sum.elim (fun d =>
 (cJ (b0_1,b1_1,b2_1,b3_1,b4_1,b5_1,b6_1,b7_1,b8_1,b9_1,b10_1) x28).bind fun t49 =>
 cond (t49.2 != 0)
 ((ap p0).bind fun t53 =>
 some (.inr (.inr (t49.2,w64 (t25 + 1),t53.1,t53.2.1,t53.2.2.2.2.2.2.1,t53.2.2.2.2.2.2.2.1,t53.2.2.2.2.2.2.2.2.1,t53.2.2.2.2.2.2.2.2.2.1,t53.2.2.2.2.2.2.2.2.2.2,t53.2.2.1,t53.2.2.2.1,t53.2.2.2.2.1,t53.2.2.2.2.2.1))))
 (some (.inl (w64 (t25 + 1),d.1,d.2.1,d.2.2.1,d.2.2.2.1,d.2.2.2.2.1,d.2.2.2.2.2.1,d.2.2.2.2.2.2,t49.1.1,t49.1.2.1,t49.1.2.2.2.2.2.2.1,t49.1.2.2.2.2.2.2.2.1,t49.1.2.2.2.2.2.2.2.2.1,t49.1.2.2.2.2.2.2.2.2.2.1,t49.1.2.2.2.2.2.2.2.2.2.2,b2,b3,b4,b5,t49.1.2.2.1,t49.1.2.2.2.1,t49.1.2.2.2.2.1,t49.1.2.2.2.2.2.1)))) (fun r=>some (.inr (.inr r)))))
 (some (.inr (.inl (b0,b1,b6,b7,b8,b9,b10,b0_1,b1_1,b6_1,b7_1,b8_1,b9_1,b10_1,b2,b3,b4,b5,b2_1,b3_1,b4_1,b5_1))))
def dK (p0:Bridge) (i1:List Bind):Option (Bridge × Int × Int) :=
 (ap p0).bind fun t14 =>
 cond ((i1.length:Int) == 0)
 (some (t14,0,0))
 ((bc p0).bind fun t20 =>
 cond (!t20)
 (some (t14,3,1))
 ((loop (fun z=>gb p0 i1 z.1 z.2.1 z.2.2.1 z.2.2.2.1 z.2.2.2.2.1 z.2.2.2.2.2.1 z.2.2.2.2.2.2.1 z.2.2.2.2.2.2.2.1 z.2.2.2.2.2.2.2.2.1 z.2.2.2.2.2.2.2.2.2.1 z.2.2.2.2.2.2.2.2.2.2.1 z.2.2.2.2.2.2.2.2.2.2.2.1 z.2.2.2.2.2.2.2.2.2.2.2.2.1 z.2.2.2.2.2.2.2.2.2.2.2.2.2.1 z.2.2.2.2.2.2.2.2.2.2.2.2.2.2.1 z.2.2.2.2.2.2.2.2.2.2.2.2.2.2.2.1 z.2.2.2.2.2.2.2.2.2.2.2.2.2.2.2.2.1 z.2.2.2.2.2.2.2.2.2.2.2.2.2.2.2.2.2.1 z.2.2.2.2.2.2.2.2.2.2.2.2.2.2.2.2.2.2.1 z.2.2.2.2.2.2.2.2.2.2.2.2.2.2.2.2.2.2.2.1 z.2.2.2.2.2.2.2.2.2.2.2.2.2.2.2.2.2.2.2.2.1 z.2.2.2.2.2.2.2.2.2.2.2.2.2.2.2.2.2.2.2.2.2.1 z.2.2.2.2.2.2.2.2.2.2.2.2.2.2.2.2.2.2.2.2.2.2) (0,0,[],0,0,0,0,0,t14.1,t14.2.1,t14.2.2.2.2.2.2.1,t14.2.2.2.2.2.2.2.1,t14.2.2.2.2.2.2.2.2.1,t14.2.2.2.2.2.2.2.2.2.1,t14.2.2.2.2.2.2.2.2.2.2,[],[],[],[],t14.2.2.1,t14.2.2.2.1,t14.2.2.2.2.1,t14.2.2.2.2.2.1)).bind (Sum.elim (fun d_1 =>
 (dh d_1.2.2.2.2.2.2.2.2.2.2.2.2.2.2.2.2.2.2.2.2 (d_1.2.2.2.2.2.2.2.2.2.2.2.2.2.2.2.2.2.2.1.length:Int)).bind fun t63 =>
 cond (!t63)
 ((ap p0).bind fun t66 =>
 some (t66,5,(i1.length:Int)))
 ((aY (d_1.2.2.2.2.2.2.2.1,d_1.2.2.2.2.2.2.2.2.1,d_1.2.2.2.2.2.2.2.2.2.2.2.2.2.2.2.2.2.2.1,d_1.2.2.2.2.2.2.2.2.2.2.2.2.2.2.2.2.2.2.2.1,d_1.2.2.2.2.2.2.2.2.2.2.2.2.2.2.2.2.2.2.2.2.1,d_1.2.2.2.2.2.2.2.2.2.2.2.2.2.2.2.2.2.2.2.2.2,d_1.2.2.2.2.2.2.2.2.2.1,d_1.2.2.2.2.2.2.2.2.2.2.1,d_1.2.2.2.2.2.2.2.2.2.2.2.1,d_1.2.2.2.2.2.2.2.2.2.2.2.2.1,d_1.2.2.2.2.2.2.2.2.2.2.2.2.2.1)).bind fun t69 =>
 some (t69,0,0))) (fun r_1=>some ((r_1.2.2.1,r_1.2.2.2.1,r_1.2.2.2.2.2.2.2.2.2.1,r_1.2.2.2.2.2.2.2.2.2.2.1,r_1.2.2.2.2.2.2.2.2.2.2.2.1,r_1.2.2.2.2.2.2.2.2.2.2.2.2,r_1.2.2.2.2.1,r_1.2.2.2.2.2.1,r_1.2.2.2.2.2.2.1,r_1.2.2.2.2.2.2.2.1,r_1.2.2.2.2.2.2.2.2.1),r_1.1,r_1.2.1)))))
def kE:List (FuncId × Fn):=(123,⟨[.val true cBridge false,.val false (.one (.sl cBind)) false],[.val true cBridge (some true),.val false cNI (some true),.val false cNI (some true)],fun a=>dK a.1 a.2⟩) :: kD
theorem p9:Gd kE:=mkM p8 123 Tryz.f123 [(0,⟨⟨[(25,false,[dI])],[(2048,.box [dI,dS,.own 1000000000,.own 1000000001,.own 1000000002,.own 1000000003,dI,dI,dI,dI,dI]),(265216,.box [dI,dS,.own 1000000004,.own 1000000005,.own 1000000006,.own 1000000007,dI,dI,dI,dI,dI]),(1000000000,.root cPt true),(1000000001,.root cFent true),(1000000002,.root cVrow true),(1000000003,.root cNI true),(1000000004,.root cPt true),(1000000005,.root cFent true),(1000000006,.root cVrow true),(1000000007,.root cNI true)]⟩,
 ⟨[],[(2048,.box [dI,dS,.own 1000000300,.own 1000000301,.own 1000000302,.own 1000000303,dI,dI,dI,dI,dI]),(265216,.box [dI,dS,.own 1000000304,.own 1000000305,.own 1000000306,.own 1000000307,dI,dI,dI,dI,dI]),(1000000300,.root cPt true),(1000000301,.root cFent true),(1000000302,.root cVrow true),(1000000303,.root cNI true),(1000000304,.root cPt true),(1000000305,.root cFent true),(1000000306,.root cVrow true),(1000000307,.root cNI true)]⟩,some ⟨[(5,false,[dI]),(6,false,[dI])],[(2048,.box [dI,dS,.own 1000000600,.own 1000000601,.own 1000000602,.own 1000000603,dI,dI,dI,dI,dI]),(1000000600,.root cPt true),(1000000601,.root cFent true),(1000000602,.root cVrow true),(1000000603,.root cNI true)]⟩⟩),
 (2,⟨⟨[(34,false,[dI])],[(2048,.box [dI,dS,.same 1000000000,.same 1000000001,.same 1000000002,.same 1000000003,dI,dI,dI,dI,dI])]⟩,
 ⟨[],[(2048,.box [dI,dS,.same 1000000000,.same 1000000001,.same 1000000002,.same 1000000003,dI,dI,dI,dI,dI])]⟩,some ⟨[(5,false,[dI]),(6,false,[dI])],[(2048,.box [dI,dS,.own 1000002600,.own 1000002601,.own 1000002602,.own 1000002603,dI,dI,dI,dI,dI]),(1000002600,.root cPt true),(1000002601,.root cFent true),(1000002602,.root cVrow true),(1000002603,.root cNI true)]⟩⟩)] Tryz.func123
def eM (p0:Bridge) (i1:Pdu) (t54:Int) (b0:Int) (b1:Int) (b2:Int) (b3:Int) (b4:List Bind):Option ((Int × Int × Int × Int × Int × List Bind) ⊕ (Int × Int × Int × Int × List Bind)) :=
 cond (decide (t54 < (i1.2.2.2.2.length:Int)))
 ((at? i1.2.2.2.2 t54).bind fun x56 =>
 (aS x56.1).bind fun t62 =>
 (bV p0 x56.1).bind fun t66 =>
 (app b4 [(t62,t66.1,t66.2.1,t66.2.2.1,t66.2.2.2)]).bind fun zs69 =>
 some (.inl (w64 (t54 + 1),b0,b1,b2,b3,zs69)))
 (some (.inr (b0,b1,b2,b3,b4)))
def kF (i1:Pdu) (b0_2:Int) (b1_2:List UInt8) (b6:Int) (b7:Int) (b8:Int) (b9:Int) (b10:Int) (b0_3:Int) (b1_3:Int) (b2_2:Int) (b3_2:Int) (b0_4:Int) (b1_4:List UInt8) (b6_1:Int) (b7_1:Int) (b8_1:Int) (b9_1:Int) (b10_1:Int) (b0_5:Int) (b1_5:Int) (b2_3:Int) (b3_3:Int) (b4_2:List Bind) (b2_4:List Pt) (b3_4:List Fent) (b4_3:List Vrow) (b5:List Int) (b4_4:List Bind) (b2_5:List Pt) (b3_5:List Fent) (b4_5:List Vrow) (b5_1:List Int):Option ((Int × List UInt8 × Int × Int × Int × Int × Int × Int × Int × Int × Int × Int × List UInt8 × Int × Int × Int × Int × Int × Int × Int × Int × Int × List Bind × List Pt × List Fent × List Vrow × List Int × List Bind × List Pt × List Fent × List Vrow × List Int) ⊕ ((Int × List UInt8 × Int × Int × Int × Int × Int × Int × Int × Int × Int × Int × List UInt8 × Int × Int × Int × Int × Int × Int × Int × Int × Int × List Bind × List Pt × List Fent × List Vrow × List Int × List Bind × List Pt × List Fent × List Vrow × List Int) ⊕ (Bool × Int × List UInt8 × Int × Int × Int × Int × Int × Int × Int × Int × Int × List Bind × List Pt × List Fent × List Vrow × List Int))) :=
 (cond (i1.1 == 165) (some (decide ((b4_2.length:Int) > 0))) (some false)).bind fun t109 =>
 cond t109
 ((cut b4_2 0 (w64 ((b4_2.length:Int) - 1))).bind fun t116 =>
 (aK (b0_5,b1_5,b2_3,b3_3,t116)).bind fun t119 =>
 cond t119
 (some (.inr (.inr (true,b0_4,b1_4,b6_1,b7_1,b8_1,b9_1,b10_1,b0_5,b1_5,b2_3,b3_3,t116,b2_5,b3_5,b4_5,b5_1))))
 (some (.inl (b0_2,b1_2,b6,b7,b8,b9,b10,b0_3,b1_3,b2_2,b3_2,b0_4,b1_4,b6_1,b7_1,b8_1,b9_1,b10_1,b0_5,b1_5,b2_3,b3_3,t116,b2_4,b3_4,b4_3,b5,b4_4,b2_5,b3_5,b4_5,b5_1))))
 (some (.inr (.inl (b0_2,b1_2,b6,b7,b8,b9,b10,b0_3,b1_3,b2_2,b3_2,b0_4,b1_4,b6_1,b7_1,b8_1,b9_1,b10_1,b0_5,b1_5,b2_3,b3_3,b4_2,b2_4,b3_4,b4_3,b5,b4_4,b2_5,b3_5,b4_5,b5_1))))
def eN (p0:Bridge) (i1:Pdu) (t77:Int) (b0_10:Int) (b1_10:Int) (b2_10:Int) (b3_10:Int) (b4_10:List Bind):Option ((Int × Int × Int × Int × Int × List Bind) ⊕ (Int × Int × Int × Int × List Bind)) :=
 cond (decide (t77 < (i1.2.2.2.2.length:Int)))
 ((at? i1.2.2.2.2 t77).bind fun x79 =>
 (bm p0 x79.1).bind fun t86 =>
 (app b4_10 [t86]).bind fun zs88 =>
 some (.inl (w64 (t77 + 1),b0_10,b1_10,b2_10,b3_10,zs88)))
 (some (.inr (b0_10,b1_10,b2_10,b3_10,b4_10)))
def kG (i1:Pdu) (b0_12:Int) (b1_12:List UInt8) (b6_4:Int) (b7_4:Int) (b8_4:Int) (b9_4:Int) (b10_4:Int) (b0_13:Int) (b1_13:Int) (b2_12:Int) (b3_12:Int) (b0_14:Int) (b1_14:List UInt8) (b6_5:Int) (b7_5:Int) (b8_5:Int) (b9_5:Int) (b10_5:Int) (b0_15:Int) (b1_15:Int) (b2_13:Int) (b3_13:Int) (b4_12:List Bind) (b2_14:List Pt) (b3_14:List Fent) (b4_13:List Vrow) (b5_4:List Int) (b4_14:List Bind) (b2_15:List Pt) (b3_15:List Fent) (b4_15:List Vrow) (b5_5:List Int):Option ((Int × List UInt8 × Int × Int × Int × Int × Int × Int × Int × Int × Int × Int × List UInt8 × Int × Int × Int × Int × Int × Int × Int × Int × Int × List Bind × List Pt × List Fent × List Vrow × List Int × List Bind × List Pt × List Fent × List Vrow × List Int) ⊕ ((Int × List UInt8 × Int × Int × Int × Int × Int × Int × Int × Int × Int × Int × List UInt8 × Int × Int × Int × Int × Int × Int × Int × Int × Int × List Bind × List Pt × List Fent × List Vrow × List Int × List Bind × List Pt × List Fent × List Vrow × List Int) ⊕ (Bool × Int × List UInt8 × Int × Int × Int × Int × Int × Int × Int × Int × Int × List Bind × List Pt × List Fent × List Vrow × List Int))) :=
 (cond (i1.1 == 165) (some (decide ((b4_12.length:Int) > 0))) (some false)).bind fun t109_1 =>
 cond t109_1
 ((cut b4_12 0 (w64 ((b4_12.length:Int) - 1))).bind fun t116_1 =>
 (aK (b0_15,b1_15,b2_13,b3_13,t116_1)).bind fun t119_1 =>
 cond t119_1
 (some (.inr (.inr (true,b0_14,b1_14,b6_5,b7_5,b8_5,b9_5,b10_5,b0_15,b1_15,b2_13,b3_13,t116_1,b2_15,b3_15,b4_15,b5_5))))
 (some (.inl (b0_12,b1_12,b6_4,b7_4,b8_4,b9_4,b10_4,b0_13,b1_13,b2_12,b3_12,b0_14,b1_14,b6_5,b7_5,b8_5,b9_5,b10_5,b0_15,b1_15,b2_13,b3_13,t116_1,b2_14,b3_14,b4_13,b5_4,b4_14,b2_15,b3_15,b4_15,b5_5))))
 (some (.inr (.inl (b0_12,b1_12,b6_4,b7_4,b8_4,b9_4,b10_4,b0_13,b1_13,b2_12,b3_12,b0_14,b1_14,b6_5,b7_5,b8_5,b9_5,b10_5,b0_15,b1_15,b2_13,b3_13,b4_12,b2_14,b3_14,b4_13,b5_4,b4_14,b2_15,b3_15,b4_15,b5_5))))
def eO (i1:Pdu) (b0_20:Int) (b1_20:List UInt8) (b6_8:Int) (b7_8:Int) (b8_8:Int) (b9_8:Int) (b10_8:Int) (b0_21:Int) (b1_21:Int) (b2_20:Int) (b3_20:Int) (b0_22:Int) (b1_22:List UInt8) (b6_9:Int) (b7_9:Int) (b8_9:Int) (b9_9:Int) (b10_9:Int) (b0_23:Int) (b1_23:Int) (b2_21:Int) (b3_21:Int) (b4_20:List Bind) (b2_22:List Pt) (b3_22:List Fent) (b4_21:List Vrow) (b5_8:List Int) (b4_22:List Bind) (b2_23:List Pt) (b3_23:List Fent) (b4_23:List Vrow) (b5_9:List Int):Option ((Int × List UInt8 × Int × Int × Int × Int × Int × Int × Int × Int × Int × Int × List UInt8 × Int × Int × Int × Int × Int × Int × Int × Int × Int × List Bind × List Pt × List Fent × List Vrow × List Int × List Bind × List Pt × List Fent × List Vrow × List Int) ⊕ ((Int × List UInt8 × Int × Int × Int × Int × Int × Int × Int × Int × Int × Int × List UInt8 × Int × Int × Int × Int × Int × Int × Int × Int × Int × List Bind × List Pt × List Fent × List Vrow × List Int × List Bind × List Pt × List Fent × List Vrow × List Int) ⊕ (Bool × Int × List UInt8 × Int × Int × Int × Int × Int × Int × Int × Int × Int × List Bind × List Pt × List Fent × List Vrow × List Int))) :=
 (cond (i1.1 == 165) (some (decide ((b4_20.length:Int) > 0))) (some false)).bind fun t109_2 =>
 cond t109_2
 ((cut b4_20 0 (w64 ((b4_20.length:Int) - 1))).bind fun t116_2 =>
 (aK (b0_23,b1_23,b2_21,b3_21,t116_2)).bind fun t119_2 =>
 cond t119_2
 (some (.inr (.inr (true,b0_22,b1_22,b6_9,b7_9,b8_9,b9_9,b10_9,b0_23,b1_23,b2_21,b3_21,t116_2,b2_23,b3_23,b4_23,b5_9))))
 (some (.inl (b0_20,b1_20,b6_8,b7_8,b8_8,b9_8,b10_8,b0_21,b1_21,b2_20,b3_20,b0_22,b1_22,b6_9,b7_9,b8_9,b9_9,b10_9,b0_23,b1_23,b2_21,b3_21,t116_2,b2_22,b3_22,b4_21,b5_8,b4_22,b2_23,b3_23,b4_23,b5_9))))
 (some (.inr (.inl (b0_20,b1_20,b6_8,b7_8,b8_8,b9_8,b10_8,b0_21,b1_21,b2_20,b3_20,b0_22,b1_22,b6_9,b7_9,b8_9,b9_9,b10_9,b0_23,b1_23,b2_21,b3_21,b4_20,b2_22,b3_22,b4_21,b5_8,b4_22,b2_23,b3_23,b4_23,b5_9))))
def kH (i1:Pdu) (b0_28:Int) (b1_28:List UInt8) (b6_12:Int) (b7_12:Int) (b8_12:Int) (b9_12:Int) (b10_12:Int) (b0_29:Int) (b1_29:Int) (b2_28:Int) (b3_28:Int) (b0_30:Int) (b1_30:List UInt8) (b6_13:Int) (b7_13:Int) (b8_13:Int) (b9_13:Int) (b10_13:Int) (b0_31:Int) (b1_31:Int) (b2_29:Int) (b3_29:Int) (b4_28:List Bind) (b2_30:List Pt) (b3_30:List Fent) (b4_29:List Vrow) (b5_12:List Int) (b4_30:List Bind) (b2_31:List Pt) (b3_31:List Fent) (b4_31:List Vrow) (b5_13:List Int):Option ((Int × List UInt8 × Int × Int × Int × Int × Int × Int × Int × Int × Int × Int × List UInt8 × Int × Int × Int × Int × Int × Int × Int × Int × Int × List Bind × List Pt × List Fent × List Vrow × List Int × List Bind × List Pt × List Fent × List Vrow × List Int) ⊕ ((Int × List UInt8 × Int × Int × Int × Int × Int × Int × Int × Int × Int × Int × List UInt8 × Int × Int × Int × Int × Int × Int × Int × Int × Int × List Bind × List Pt × List Fent × List Vrow × List Int × List Bind × List Pt × List Fent × List Vrow × List Int) ⊕ (Bool × Int × List UInt8 × Int × Int × Int × Int × Int × Int × Int × Int × Int × List Bind × List Pt × List Fent × List Vrow × List Int))) :=
 (cond (i1.1 == 165) (some (decide ((b4_28.length:Int) > 0))) (some false)).bind fun t109_3 =>
 cond t109_3
 ((cut b4_28 0 (w64 ((b4_28.length:Int) - 1))).bind fun t116_3 =>
 (aK (b0_31,b1_31,b2_29,b3_29,t116_3)).bind fun t119_3 =>
 cond t119_3
 (some (.inr (.inr (true,b0_30,b1_30,b6_13,b7_13,b8_13,b9_13,b10_13,b0_31,b1_31,b2_29,b3_29,t116_3,b2_31,b3_31,b4_31,b5_13))))
 (some (.inl (b0_28,b1_28,b6_12,b7_12,b8_12,b9_12,b10_12,b0_29,b1_29,b2_28,b3_28,b0_30,b1_30,b6_13,b7_13,b8_13,b9_13,b10_13,b0_31,b1_31,b2_29,b3_29,t116_3,b2_30,b3_30,b4_29,b5_12,b4_30,b2_31,b3_31,b4_31,b5_13))))
 (some (.inr (.inl (b0_28,b1_28,b6_12,b7_12,b8_12,b9_12,b10_12,b0_29,b1_29,b2_28,b3_28,b0_30,b1_30,b6_13,b7_13,b8_13,b9_13,b10_13,b0_31,b1_31,b2_29,b3_29,b4_28,b2_30,b3_30,b4_29,b5_12,b4_30,b2_31,b3_31,b4_31,b5_13))))
def cK (p0:Bridge) (i1:Pdu):Option (Bridge × Pdu × Bool) :=
 (ap p0).bind fun t14 =>
 (bc p0).bind fun t16 =>
 (cond (!t16)
 (some true)
 ((cw i1).bind fun t20 =>
 some (!t20))).bind fun t22 =>
 (cond t22 (some true) (some (i1.1 == 162))).bind fun t27 =>
 cond t27
 (some (t14,(0,0,0,0,[]),false))
 (cond (i1.1 == 160)
 ((loop (fun z=>eM p0 i1 z.1 z.2.1 z.2.2.1 z.2.2.2.1 z.2.2.2.2.1 z.2.2.2.2.2) (0,162,i1.2.1,0,0,[])).bind fun d =>
 (aK d).bind fun t98 =>
 cond t98
 (some (t14,d,true))
 ((loop (fun z=>kF i1 z.1 z.2.1 z.2.2.1 z.2.2.2.1 z.2.2.2.2.1 z.2.2.2.2.2.1 z.2.2.2.2.2.2.1 z.2.2.2.2.2.2.2.1 z.2.2.2.2.2.2.2.2.1 z.2.2.2.2.2.2.2.2.2.1 z.2.2.2.2.2.2.2.2.2.2.1 z.2.2.2.2.2.2.2.2.2.2.2.1 z.2.2.2.2.2.2.2.2.2.2.2.2.1 z.2.2.2.2.2.2.2.2.2.2.2.2.2.1 z.2.2.2.2.2.2.2.2.2.2.2.2.2.2.1 z.2.2.2.2.2.2.2.2.2.2.2.2.2.2.2.1 z.2.2.2.2.2.2.2.2.2.2.2.2.2.2.2.2.1 z.2.2.2.2.2.2.2.2.2.2.2.2.2.2.2.2.2.1 z.2.2.2.2.2.2.2.2.2.2.2.2.2.2.2.2.2.2.1 z.2.2.2.2.2.2.2.2.2.2.2.2.2.2.2.2.2.2.2.1 z.2.2.2.2.2.2.2.2.2.2.2.2.2.2.2.2.2.2.2.2.1 z.2.2.2.2.2.2.2.2.2.2.2.2.2.2.2.2.2.2.2.2.2.1 z.2.2.2.2.2.2.2.2.2.2.2.2.2.2.2.2.2.2.2.2.2.2.1 z.2.2.2.2.2.2.2.2.2.2.2.2.2.2.2.2.2.2.2.2.2.2.2.1 z.2.2.2.2.2.2.2.2.2.2.2.2.2.2.2.2.2.2.2.2.2.2.2.2.1 z.2.2.2.2.2.2.2.2.2.2.2.2.2.2.2.2.2.2.2.2.2.2.2.2.2.1 z.2.2.2.2.2.2.2.2.2.2.2.2.2.2.2.2.2.2.2.2.2.2.2.2.2.2.1 z.2.2.2.2.2.2.2.2.2.2.2.2.2.2.2.2.2.2.2.2.2.2.2.2.2.2.2.1 z.2.2.2.2.2.2.2.2.2.2.2.2.2.2.2.2.2.2.2.2.2.2.2.2.2.2.2.2.1 z.2.2.2.2.2.2.2.2.2.2.2.2.2.2.2.2.2.2.2.2.2.2.2.2.2.2.2.2.2.1 z.2.2.2.2.2.2.2.2.2.2.2.2.2.2.2.2.2.2.2.2.2.2.2.2.2.2.2.2.2.2.1 z.2.2.2.2.2.2.2.2.2.2.2.2.2.2.2.2.2.2.2.2.2.2.2.2.2.2.2.2.2.2.2) (0,[],0,0,0,0,0,0,0,0,0,t14.1,t14.2.1,t14.2.2.2.2.2.2.1,t14.2.2.2.2.2.2.2.1,t14.2.2.2.2.2.2.2.2.1,t14.2.2.2.2.2.2.2.2.2.1,t14.2.2.2.2.2.2.2.2.2.2,d.1,d.2.1,d.2.2.1,d.2.2.2.1,d.2.2.2.2,[],[],[],[],[],t14.2.2.1,t14.2.2.2.1,t14.2.2.2.2.1,t14.2.2.2.2.2.1)).bind (Sum.elim (fun d_1 =>
 (ap p0).bind fun t123 =>
 some (t123,(162,i1.2.1,7,0,[]),true)) (fun r=>some ((r.2.1,r.2.2.1,r.2.2.2.2.2.2.2.2.2.2.2.2.2.1,r.2.2.2.2.2.2.2.2.2.2.2.2.2.2.1,r.2.2.2.2.2.2.2.2.2.2.2.2.2.2.2.1,r.2.2.2.2.2.2.2.2.2.2.2.2.2.2.2.2,r.2.2.2.1,r.2.2.2.2.1,r.2.2.2.2.2.1,r.2.2.2.2.2.2.1,r.2.2.2.2.2.2.2.1),(r.2.2.2.2.2.2.2.2.1,r.2.2.2.2.2.2.2.2.2.1,r.2.2.2.2.2.2.2.2.2.2.1,r.2.2.2.2.2.2.2.2.2.2.2.1,r.2.2.2.2.2.2.2.2.2.2.2.2.1),r.1)))))
 (cond (i1.1 == 161)
 ((loop (fun z=>eN p0 i1 z.1 z.2.1 z.2.2.1 z.2.2.2.1 z.2.2.2.2.1 z.2.2.2.2.2) (0,162,i1.2.1,0,0,[])).bind fun d_2 =>
 (aK d_2).bind fun t98_1 =>
 cond t98_1
 (some (t14,d_2,true))
 ((loop (fun z=>kG i1 z.1 z.2.1 z.2.2.1 z.2.2.2.1 z.2.2.2.2.1 z.2.2.2.2.2.1 z.2.2.2.2.2.2.1 z.2.2.2.2.2.2.2.1 z.2.2.2.2.2.2.2.2.1 z.2.2.2.2.2.2.2.2.2.1 z.2.2.2.2.2.2.2.2.2.2.1 z.2.2.2.2.2.2.2.2.2.2.2.1 z.2.2.2.2.2.2.2.2.2.2.2.2.1 z.2.2.2.2.2.2.2.2.2.2.2.2.2.1 z.2.2.2.2.2.2.2.2.2.2.2.2.2.2.1 z.2.2.2.2.2.2.2.2.2.2.2.2.2.2.2.1 z.2.2.2.2.2.2.2.2.2.2.2.2.2.2.2.2.1 z.2.2.2.2.2.2.2.2.2.2.2.2.2.2.2.2.2.1 z.2.2.2.2.2.2.2.2.2.2.2.2.2.2.2.2.2.2.1 z.2.2.2.2.2.2.2.2.2.2.2.2.2.2.2.2.2.2.2.1 z.2.2.2.2.2.2.2.2.2.2.2.2.2.2.2.2.2.2.2.2.1 z.2.2.2.2.2.2.2.2.2.2.2.2.2.2.2.2.2.2.2.2.2.1 z.2.2.2.2.2.2.2.2.2.2.2.2.2.2.2.2.2.2.2.2.2.2.1 z.2.2.2.2.2.2.2.2.2.2.2.2.2.2.2.2.2.2.2.2.2.2.2.1 z.2.2.2.2.2.2.2.2.2.2.2.2.2.2.2.2.2.2.2.2.2.2.2.2.1 z.2.2.2.2.2.2.2.2.2.2.2.2.2.2.2.2.2.2.2.2.2.2.2.2.2.1 z.2.2.2.2.2.2.2.2.2.2.2.2.2.2.2.2.2.2.2.2.2.2.2.2.2.2.1 z.2.2.2.2.2.2.2.2.2.2.2.2.2.2.2.2.2.2.2.2.2.2.2.2.2.2.2.1 z.2.2.2.2.2.2.2.2.2.2.2.2.2.2.2.2.2.2.2.2.2.2.2.2.2.2.2.2.1 z.2.2.2.2.2.2.2.2.2.2.2.2.2.2.2.2.2.2.2.2.2.2.2.2.2.2.2.2.2.1 z.2.2.2.2.2.2.2.2.2.2.2.2.2.2.2.2.2.2.2.2.2.2.2.2.2.2.2.2.2.2.1 z.2.2.2.2.2.2.2.2.2.2.2.2.2.2.2.2.2.2.2.2.2.2.2.2.2.2.2.2.2.2.2) (0,[],0,0,0,0,0,0,0,0,0,t14.1,t14.2.1,t14.2.2.2.2.2.2.1,t14.2.2.2.2.2.2.2.1,t14.2.2.2.2.2.2.2.2.1,t14.2.2.2.2.2.2.2.2.2.1,t14.2.2.2.2.2.2.2.2.2.2,d_2.1,d_2.2.1,d_2.2.2.1,d_2.2.2.2.1,d_2.2.2.2.2,[],[],[],[],[],t14.2.2.1,t14.2.2.2.1,t14.2.2.2.2.1,t14.2.2.2.2.2.1)).bind (Sum.elim (fun d_3 =>
 (ap p0).bind fun t123_1 =>
 some (t123_1,(162,i1.2.1,7,0,[]),true)) (fun r_1=>some ((r_1.2.1,r_1.2.2.1,r_1.2.2.2.2.2.2.2.2.2.2.2.2.2.1,r_1.2.2.2.2.2.2.2.2.2.2.2.2.2.2.1,r_1.2.2.2.2.2.2.2.2.2.2.2.2.2.2.2.1,r_1.2.2.2.2.2.2.2.2.2.2.2.2.2.2.2.2,r_1.2.2.2.1,r_1.2.2.2.2.1,r_1.2.2.2.2.2.1,r_1.2.2.2.2.2.2.1,r_1.2.2.2.2.2.2.2.1),(r_1.2.2.2.2.2.2.2.2.1,r_1.2.2.2.2.2.2.2.2.2.1,r_1.2.2.2.2.2.2.2.2.2.2.1,r_1.2.2.2.2.2.2.2.2.2.2.2.1,r_1.2.2.2.2.2.2.2.2.2.2.2.2.1),r_1.1)))))
 (cond (i1.1 == 165)
 ((fR p0 i1).bind fun t95 =>
 (aK (162,i1.2.1,0,0,t95)).bind fun t98_2 =>
 cond t98_2
 (some (t14,(162,i1.2.1,0,0,t95),true))
 ((loop (fun z=>eO i1 z.1 z.2.1 z.2.2.1 z.2.2.2.1 z.2.2.2.2.1 z.2.2.2.2.2.1 z.2.2.2.2.2.2.1 z.2.2.2.2.2.2.2.1 z.2.2.2.2.2.2.2.2.1 z.2.2.2.2.2.2.2.2.2.1 z.2.2.2.2.2.2.2.2.2.2.1 z.2.2.2.2.2.2.2.2.2.2.2.1 z.2.2.2.2.2.2.2.2.2.2.2.2.1 z.2.2.2.2.2.2.2.2.2.2.2.2.2.1 z.2.2.2.2.2.2.2.2.2.2.2.2.2.2.1 z.2.2.2.2.2.2.2.2.2.2.2.2.2.2.2.1 z.2.2.2.2.2.2.2.2.2.2.2.2.2.2.2.2.1 z.2.2.2.2.2.2.2.2.2.2.2.2.2.2.2.2.2.1 z.2.2.2.2.2.2.2.2.2.2.2.2.2.2.2.2.2.2.1 z.2.2.2.2.2.2.2.2.2.2.2.2.2.2.2.2.2.2.2.1 z.2.2.2.2.2.2.2.2.2.2.2.2.2.2.2.2.2.2.2.2.1 z.2.2.2.2.2.2.2.2.2.2.2.2.2.2.2.2.2.2.2.2.2.1 z.2.2.2.2.2.2.2.2.2.2.2.2.2.2.2.2.2.2.2.2.2.2.1 z.2.2.2.2.2.2.2.2.2.2.2.2.2.2.2.2.2.2.2.2.2.2.2.1 z.2.2.2.2.2.2.2.2.2.2.2.2.2.2.2.2.2.2.2.2.2.2.2.2.1 z.2.2.2.2.2.2.2.2.2.2.2.2.2.2.2.2.2.2.2.2.2.2.2.2.2.1 z.2.2.2.2.2.2.2.2.2.2.2.2.2.2.2.2.2.2.2.2.2.2.2.2.2.2.1 z.2.2.2.2.2.2.2.2.2.2.2.2.2.2.2.2.2.2.2.2.2.2.2.2.2.2.2.1 z.2.2.2.2.2.2.2.2.2.2.2.2.2.2.2.2.2.2.2.2.2.2.2.2.2.2.2.2.1 z.2.2.2.2.2.2.2.2.2.2.2.2.2.2.2.2.2.2.2.2.2.2.2.2.2.2.2.2.2.1 z.2.2.2.2.2.2.2.2.2.2.2.2.2.2.2.2.2.2.2.2.2.2.2.2.2.2.2.2.2.2.1 z.2.2.2.2.2.2.2.2.2.2.2.2.2.2.2.2.2.2.2.2.2.2.2.2.2.2.2.2.2.2.2) (0,[],0,0,0,0,0,0,0,0,0,t14.1,t14.2.1,t14.2.2.2.2.2.2.1,t14.2.2.2.2.2.2.2.1,t14.2.2.2.2.2.2.2.2.1,t14.2.2.2.2.2.2.2.2.2.1,t14.2.2.2.2.2.2.2.2.2.2,162,i1.2.1,0,0,t95,[],[],[],[],[],t14.2.2.1,t14.2.2.2.1,t14.2.2.2.2.1,t14.2.2.2.2.2.1)).bind (Sum.elim (fun d_4 =>
 (ap p0).bind fun t123_2 =>
 some (t123_2,(162,i1.2.1,7,0,[]),true)) (fun r_2=>some ((r_2.2.1,r_2.2.2.1,r_2.2.2.2.2.2.2.2.2.2.2.2.2.2.1,r_2.2.2.2.2.2.2.2.2.2.2.2.2.2.2.1,r_2.2.2.2.2.2.2.2.2.2.2.2.2.2.2.2.1,r_2.2.2.2.2.2.2.2.2.2.2.2.2.2.2.2.2,r_2.2.2.2.1,r_2.2.2.2.2.1,r_2.2.2.2.2.2.1,r_2.2.2.2.2.2.2.1,r_2.2.2.2.2.2.2.2.1),(r_2.2.2.2.2.2.2.2.2.1,r_2.2.2.2.2.2.2.2.2.2.1,r_2.2.2.2.2.2.2.2.2.2.2.1,r_2.2.2.2.2.2.2.2.2.2.2.2.1,r_2.2.2.2.2.2.2.2.2.2.2.2.2.1),r_2.1)))))
 ((dK p0 i1.2.2.2.2).bind fun t39 =>
 (dz i1.2.2.2.2).bind fun t47 =>
 (aK (162,i1.2.1,t39.2.1,t39.2.2,t47)).bind fun t98_3 =>
 cond t98_3
 (some (t39.1,(162,i1.2.1,t39.2.1,t39.2.2,t47),true))
 ((loop (fun z=>kH i1 z.1 z.2.1 z.2.2.1 z.2.2.2.1 z.2.2.2.2.1 z.2.2.2.2.2.1 z.2.2.2.2.2.2.1 z.2.2.2.2.2.2.2.1 z.2.2.2.2.2.2.2.2.1 z.2.2.2.2.2.2.2.2.2.1 z.2.2.2.2.2.2.2.2.2.2.1 z.2.2.2.2.2.2.2.2.2.2.2.1 z.2.2.2.2.2.2.2.2.2.2.2.2.1 z.2.2.2.2.2.2.2.2.2.2.2.2.2.1 z.2.2.2.2.2.2.2.2.2.2.2.2.2.2.1 z.2.2.2.2.2.2.2.2.2.2.2.2.2.2.2.1 z.2.2.2.2.2.2.2.2.2.2.2.2.2.2.2.2.1 z.2.2.2.2.2.2.2.2.2.2.2.2.2.2.2.2.2.1 z.2.2.2.2.2.2.2.2.2.2.2.2.2.2.2.2.2.2.1 z.2.2.2.2.2.2.2.2.2.2.2.2.2.2.2.2.2.2.2.1 z.2.2.2.2.2.2.2.2.2.2.2.2.2.2.2.2.2.2.2.2.1 z.2.2.2.2.2.2.2.2.2.2.2.2.2.2.2.2.2.2.2.2.2.1 z.2.2.2.2.2.2.2.2.2.2.2.2.2.2.2.2.2.2.2.2.2.2.1 z.2.2.2.2.2.2.2.2.2.2.2.2.2.2.2.2.2.2.2.2.2.2.2.1 z.2.2.2.2.2.2.2.2.2.2.2.2.2.2.2.2.2.2.2.2.2.2.2.2.1 z.2.2.2.2.2.2.2.2.2.2.2.2.2.2.2.2.2.2.2.2.2.2.2.2.2.1 z.2.2.2.2.2.2.2.2.2.2.2.2.2.2.2.2.2.2.2.2.2.2.2.2.2.2.1 z.2.2.2.2.2.2.2.2.2.2.2.2.2.2.2.2.2.2.2.2.2.2.2.2.2.2.2.1 z.2.2.2.2.2.2.2.2.2.2.2.2.2.2.2.2.2.2.2.2.2.2.2.2.2.2.2.2.1 z.2.2.2.2.2.2.2.2.2.2.2.2.2.2.2.2.2.2.2.2.2.2.2.2.2.2.2.2.2.1 z.2.2.2.2.2.2.2.2.2.2.2.2.2.2.2.2.2.2.2.2.2.2.2.2.2.2.2.2.2.2.1 z.2.2.2.2.2.2.2.2.2.2.2.2.2.2.2.2.2.2.2.2.2.2.2.2.2.2.2.2.2.2.2) (0,[],0,0,0,0,0,0,0,0,0,t39.1.1,t39.1.2.1,t39.1.2.2.2.2.2.2.1,t39.1.2.2.2.2.2.2.2.1,t39.1.2.2.2.2.2.2.2.2.1,t39.1.2.2.2.2.2.2.2.2.2.1,t39.1.2.2.2.2.2.2.2.2.2.2,162,i1.2.1,t39.2.1,t39.2.2,t47,[],[],[],[],[],t39.1.2.2.1,t39.1.2.2.2.1,t39.1.2.2.2.2.1,t39.1.2.2.2.2.2.1)).bind (Sum.elim (fun d_5 =>
 (ap p0).bind fun t123_3 =>
 some (t123_3,(162,i1.2.1,7,0,[]),true)) (fun r_3=>some ((r_3.2.1,r_3.2.2.1,r_3.2.2.2.2.2.2.2.2.2.2.2.2.2.1,r_3.2.2.2.2.2.2.2.2.2.2.2.2.2.2.1,r_3.2.2.2.2.2.2.2.2.2.2.2.2.2.2.2.1,r_3.2.2.2.2.2.2.2.2.2.2.2.2.2.2.2.2,r_3.2.2.2.1,r_3.2.2.2.2.1,r_3.2.2.2.2.2.1,r_3.2.2.2.2.2.2.1,r_3.2.2.2.2.2.2.2.1),(r_3.2.2.2.2.2.2.2.2.1,r_3.2.2.2.2.2.2.2.2.2.1,r_3.2.2.2.2.2.2.2.2.2.2.1,r_3.2.2.2.2.2.2.2.2.2.2.2.1,r_3.2.2.2.2.2.2.2.2.2.2.2.2.1),r_3.1))))))))
def kI:List (FuncId × Fn):=(30,⟨[.val true cBridge false,.val true cPdu false],[.val true cBridge (some true),.val true cPdu none,.val false cNB (some true)],fun a=>cK a.1 a.2⟩) :: kE
theorem pa:Gd kI:=mkM p9 30 Tryz.f30 [(1,⟨⟨[(54,false,[dI])],[(1052672,.box [dI,dI,dI,dI,.own 1000001000]),(1000001000,.root cBind false)]⟩,
 ⟨[],[(1052672,.box [dI,dI,dI,dI,.own 1000001300]),(1000001300,.root cBind false)]⟩,none⟩),
 (3,⟨⟨[(77,false,[dI])],[(1052672,.box [dI,dI,dI,dI,.own 1000003000]),(1000003000,.root cBind false)]⟩,
 ⟨[],[(1052672,.box [dI,dI,dI,dI,.own 1000003300]),(1000003300,.root cBind false)]⟩,none⟩),
 (5,⟨⟨us 105 4 [],[(3072,.box [dI,dS,.own 1000005000,.own 1000005001,.own 1000005002,.own 1000005003,dI,dI,dI,dI,dI]),(4096,.box [dI,dI,dI,dI,.own 1000005004]),(265216,.box [dI,dS,.own 1000005005,.own 1000005006,.own 1000005007,.own 1000005008,dI,dI,dI,dI,dI]),(1052672,.box [dI,dI,dI,dI,.dat (.sl cBind)]),(1000005000,.root cPt true),(1000005001,.root cFent true),(1000005002,.root cVrow true),(1000005003,.root cNI true),(1000005004,.root cBind true),(1000005005,.root cPt true),(1000005006,.root cFent true),(1000005007,.root cVrow true),(1000005008,.root cNI true)]⟩,
 ⟨[],[(3072,.box [dI,dS,.own 1000005300,.own 1000005301,.own 1000005302,.own 1000005303,dI,dI,dI,dI,dI]),(4096,.box [dI,dI,dI,dI,.own 1000005304]),(265216,.box [dI,dS,.own 1000005305,.own 1000005306,.own 1000005307,.own 1000005308,dI,dI,dI,dI,dI]),(1052672,.box [dI,dI,dI,dI,.dat (.sl cBind)]),(1000005300,.root cPt true),(1000005301,.root cFent true),(1000005302,.root cVrow true),(1000005303,.root cNI true),(1000005304,.root cBind true),(1000005305,.root cPt true),(1000005306,.root cFent true),(1000005307,.root cVrow true),(1000005308,.root cNI true)]⟩,some ⟨[(6,false,[dB])],[(3072,.box [dI,dS,.own 1000005600,.own 1000005601,.own 1000005602,.own 1000005603,dI,dI,dI,dI,dI]),(4096,.box [dI,dI,dI,dI,.dat (.sl cBind)]),(1000005600,.root cPt true),(1000005601,.root cFent true),(1000005602,.root cVrow true),(1000005603,.root cNI true)]⟩⟩)] Tryz.func30
def eP (p0:Pdu):Option Pdu :=
 (dz p0.2.2.2.2).bind fun t8 =>
 (aK (162,p0.2.1,6,1,t8)).bind fun t11 =>
 cond (!t11) (some (162,p0.2.1,7,0,[])) (some (162,p0.2.1,6,1,t8))
def kJ:List (FuncId × Fn):=(376,⟨[.val true cPdu false],[.val true cPdu (some true)],fun a=>eP a⟩) :: kI
theorem pb:Gd kJ:=mkM pa 376 Tryz.f376 [] Tryz.func376
def eQ (p0:Agent) (i1:Int):Option (Agent × List Done) :=
 (ix p0.2.2.2.2.2.2.2.2.2.2.2.2.1.length i1).bind fun j12 =>
 (p0.2.2.2.2.2.2.2.2.2.2.2.2.1[j12]?).bind fun x13 =>
 cond (x13.2.2.2.1 != 163)
 ((cK (x13.2.2.2.2.2.2.2.2.1,x13.2.2.2.2.2.2.2.2.2.1,x13.2.2.2.2.2.2.2.2.2.2.1,x13.2.2.2.2.2.2.2.2.2.2.2.1,x13.2.2.2.2.2.2.2.2.2.2.2.2.1,x13.2.2.2.2.2.2.2.2.2.2.2.2.2.1,x13.2.2.2.2.2.2.2.2.2.2.2.2.2.2.1,x13.2.2.2.2.2.2.2.2.2.2.2.2.2.2.2.1,x13.2.2.2.2.2.2.2.2.2.2.2.2.2.2.2.2.1,x13.2.2.2.2.2.2.2.2.2.2.2.2.2.2.2.2.2.1,x13.2.2.2.2.2.2.2.2.2.2.2.2.2.2.2.2.2.2.1) (x13.2.2.2.1,x13.2.2.2.2.1,x13.2.2.2.2.2.1,x13.2.2.2.2.2.2.1,x13.2.2.2.2.2.2.2.1)).bind fun t41 =>
 (bR p0 i1).bind fun t81 =>
 some (t81,[(x13.1,t41.2.1.1,t41.2.1.2.1,t41.2.1.2.2.1,t41.2.1.2.2.2.1,t41.2.1.2.2.2.2)]))
 (let t46:=p0.2.2.2.2.2.2.2.2.2.2.1 == x13.2.2.2.2.2.2.2.2.2.2.2.2.2.2.2.2.2.2.1
 cond t46
 ((cK (p0.1,p0.2.1,p0.2.2.1,p0.2.2.2.1,p0.2.2.2.2.1,p0.2.2.2.2.2.1,p0.2.2.2.2.2.2.1,p0.2.2.2.2.2.2.2.1,p0.2.2.2.2.2.2.2.2.1,p0.2.2.2.2.2.2.2.2.2.1,p0.2.2.2.2.2.2.2.2.2.2.1) (x13.2.2.2.1,x13.2.2.2.2.1,x13.2.2.2.2.2.1,x13.2.2.2.2.2.2.1,x13.2.2.2.2.2.2.2.1)).bind fun t64 =>
 (bR (t64.1.1,t64.1.2.1,t64.1.2.2.1,t64.1.2.2.2.1,t64.1.2.2.2.2.1,t64.1.2.2.2.2.2.1,t64.1.2.2.2.2.2.2.1,t64.1.2.2.2.2.2.2.2.1,t64.1.2.2.2.2.2.2.2.2.1,t64.1.2.2.2.2.2.2.2.2.2.1,t64.1.2.2.2.2.2.2.2.2.2.2,p0.2.2.2.2.2.2.2.2.2.2.2.1,p0.2.2.2.2.2.2.2.2.2.2.2.2.1,p0.2.2.2.2.2.2.2.2.2.2.2.2.2.1,p0.2.2.2.2.2.2.2.2.2.2.2.2.2.2) i1).bind fun t81_1 =>
 some (t81_1,[(x13.1,t64.2.1.1,t64.2.1.2.1,t64.2.1.2.2.1,t64.2.1.2.2.2.1,t64.2.1.2.2.2.2)]))
 (let t71:=decide (x13.2.2.2.2.2.2.2.2.2.2.2.2.2.2.2.2.2.2.2.2 ≥ 3)
 cond t71
 ((eP (x13.2.2.2.1,x13.2.2.2.2.1,x13.2.2.2.2.2.1,x13.2.2.2.2.2.2.1,x13.2.2.2.2.2.2.2.1)).bind fun t77 =>
 (bR p0 i1).bind fun t81_2 =>
 some (t81_2,[(x13.1,t77.1,t77.2.1,t77.2.2.1,t77.2.2.2.1,t77.2.2.2.2)]))
 ((ix p0.2.2.2.2.2.2.2.2.2.2.2.2.1.length i1).bind fun j22 =>
 (p0.2.2.2.2.2.2.2.2.2.2.2.2.1[j22]?).bind fun x24 =>
 (ix p0.2.2.2.2.2.2.2.2.2.2.2.2.1.length i1).bind fun j26 =>
 (p0.2.2.2.2.2.2.2.2.2.2.2.2.1[j26]?).bind fun x =>
 (eD (p0.1,p0.2.1,p0.2.2.1,p0.2.2.2.1,p0.2.2.2.2.1,p0.2.2.2.2.2.1,p0.2.2.2.2.2.2.1,p0.2.2.2.2.2.2.2.1,p0.2.2.2.2.2.2.2.2.1,p0.2.2.2.2.2.2.2.2.2.1,p0.2.2.2.2.2.2.2.2.2.2.1,p0.2.2.2.2.2.2.2.2.2.2.2.1,p0.2.2.2.2.2.2.2.2.2.2.2.2.1.set j26 (x.1,x.2.1,x.2.2.1,x.2.2.2.1,x.2.2.2.2.1,x.2.2.2.2.2.1,x.2.2.2.2.2.2.1,x.2.2.2.2.2.2.2.1,x.2.2.2.2.2.2.2.2.1,x.2.2.2.2.2.2.2.2.2.1,x.2.2.2.2.2.2.2.2.2.2.1,x.2.2.2.2.2.2.2.2.2.2.2.1,x.2.2.2.2.2.2.2.2.2.2.2.2.1,x.2.2.2.2.2.2.2.2.2.2.2.2.2.1,x.2.2.2.2.2.2.2.2.2.2.2.2.2.2.1,x.2.2.2.2.2.2.2.2.2.2.2.2.2.2.2.1,x.2.2.2.2.2.2.2.2.2.2.2.2.2.2.2.2.1,x.2.2.2.2.2.2.2.2.2.2.2.2.2.2.2.2.2.1,x.2.2.2.2.2.2.2.2.2.2.2.2.2.2.2.2.2.2.1,x.2.2.2.2.2.2.2.2.2.2.2.2.2.2.2.2.2.2.2.1,w64 (x24.2.2.2.2.2.2.2.2.2.2.2.2.2.2.2.2.2.2.2.2 + 1)),p0.2.2.2.2.2.2.2.2.2.2.2.2.2.1,p0.2.2.2.2.2.2.2.2.2.2.2.2.2.2) i1).bind fun t30 =>
 some (t30,[]))))
def kK:List (FuncId × Fn):=(292,⟨[.ptr cAgent (some true),.val false cNI false],[.val false (.one (.sl cDone)) none],fun a=>eQ a.1 a.2⟩) :: kJ
theorem pc:Gd kK:=mkM pb 292 Tryz.f292 [] Tryz.func292
def eR (a0:Agent) (k1:Int):Option (Agent × List Done) :=
 (ix a0.2.2.2.2.2.2.2.2.2.2.2.2.1.length k1).bind fun j11 =>
 (a0.2.2.2.2.2.2.2.2.2.2.2.2.1[j11]?).bind fun x19 =>
 cond (x19.2.2.1 == 0)
 ((eE a0 k1).bind fun t23 =>
 some (t23,[]))
 ((a0.2.2.2.2.2.2.2.2.2.2.2.2.1[j11]?).bind fun x28 =>
 cond (x28.2.2.1 == 2)
 ((eQ a0 k1).bind fun t32 =>
 some t32)
 ((a0.2.2.2.2.2.2.2.2.2.2.2.2.1[j11]?).bind fun x37 =>
 (a0.2.2.2.2.2.2.2.2.2.2.2.2.1[j11]?).bind fun x42 =>
 let t33:=decide (x37.2.2.2.2.2.2.2.2.2.2.2.2.2.2.2.2.2.2.2.1 < (x42.2.2.2.2.2.2.2.1.length:Int))
 cond t33
 ((a0.2.2.2.2.2.2.2.2.2.2.2.2.1[j11]?).bind fun x48 =>
 (a0.2.2.2.2.2.2.2.2.2.2.2.2.1[j11]?).bind fun x =>
 some ((a0.1,a0.2.1,a0.2.2.1,a0.2.2.2.1,a0.2.2.2.2.1,a0.2.2.2.2.2.1,a0.2.2.2.2.2.2.1,a0.2.2.2.2.2.2.2.1,a0.2.2.2.2.2.2.2.2.1,a0.2.2.2.2.2.2.2.2.2.1,a0.2.2.2.2.2.2.2.2.2.2.1,a0.2.2.2.2.2.2.2.2.2.2.2.1,a0.2.2.2.2.2.2.2.2.2.2.2.2.1.set j11 (x.1,x.2.1,x.2.2.1,x.2.2.2.1,x.2.2.2.2.1,x.2.2.2.2.2.1,x.2.2.2.2.2.2.1,x.2.2.2.2.2.2.2.1,x.2.2.2.2.2.2.2.2.1,x.2.2.2.2.2.2.2.2.2.1,x.2.2.2.2.2.2.2.2.2.2.1,x.2.2.2.2.2.2.2.2.2.2.2.1,x.2.2.2.2.2.2.2.2.2.2.2.2.1,x.2.2.2.2.2.2.2.2.2.2.2.2.2.1,x.2.2.2.2.2.2.2.2.2.2.2.2.2.2.1,x.2.2.2.2.2.2.2.2.2.2.2.2.2.2.2.1,x.2.2.2.2.2.2.2.2.2.2.2.2.2.2.2.2.1,x.2.2.2.2.2.2.2.2.2.2.2.2.2.2.2.2.2.1,x.2.2.2.2.2.2.2.2.2.2.2.2.2.2.2.2.2.2.1,w64 (x48.2.2.2.2.2.2.2.2.2.2.2.2.2.2.2.2.2.2.2.1 + 1),x.2.2.2.2.2.2.2.2.2.2.2.2.2.2.2.2.2.2.2.2),a0.2.2.2.2.2.2.2.2.2.2.2.2.2.1,a0.2.2.2.2.2.2.2.2.2.2.2.2.2.2),[]))
 ((a0.2.2.2.2.2.2.2.2.2.2.2.2.1[j11]?).bind fun x_1 =>
 some ((a0.1,a0.2.1,a0.2.2.1,a0.2.2.2.1,a0.2.2.2.2.1,a0.2.2.2.2.2.1,a0.2.2.2.2.2.2.1,a0.2.2.2.2.2.2.2.1,a0.2.2.2.2.2.2.2.2.1,a0.2.2.2.2.2.2.2.2.2.1,a0.2.2.2.2.2.2.2.2.2.2.1,a0.2.2.2.2.2.2.2.2.2.2.2.1,a0.2.2.2.2.2.2.2.2.2.2.2.2.1.set j11 (x_1.1,x_1.2.1,2,x_1.2.2.2.1,x_1.2.2.2.2.1,x_1.2.2.2.2.2.1,x_1.2.2.2.2.2.2.1,x_1.2.2.2.2.2.2.2.1,x_1.2.2.2.2.2.2.2.2.1,x_1.2.2.2.2.2.2.2.2.2.1,x_1.2.2.2.2.2.2.2.2.2.2.1,x_1.2.2.2.2.2.2.2.2.2.2.2.1,x_1.2.2.2.2.2.2.2.2.2.2.2.2.1,x_1.2.2.2.2.2.2.2.2.2.2.2.2.2.1,x_1.2.2.2.2.2.2.2.2.2.2.2.2.2.2.1,x_1.2.2.2.2.2.2.2.2.2.2.2.2.2.2.2.1,x_1.2.2.2.2.2.2.2.2.2.2.2.2.2.2.2.2.1,x_1.2.2.2.2.2.2.2.2.2.2.2.2.2.2.2.2.2.1,x_1.2.2.2.2.2.2.2.2.2.2.2.2.2.2.2.2.2.2.1,x_1.2.2.2.2.2.2.2.2.2.2.2.2.2.2.2.2.2.2.2.1,x_1.2.2.2.2.2.2.2.2.2.2.2.2.2.2.2.2.2.2.2.2),a0.2.2.2.2.2.2.2.2.2.2.2.2.2.1,a0.2.2.2.2.2.2.2.2.2.2.2.2.2.2),[]))))
def kL:List (FuncId × Fn):=(187,⟨[.ptr cAgent (some true),.val false cNI false],[.val false (.one (.sl cDone)) none],fun a=>eR a.1 a.2⟩) :: kK
theorem pf:Gd kL:=mkM pc 187 Tryz.f187 [] Tryz.func187
def bn (a0:Agent) (k1:Int):Option (Agent × List Done) :=
 (eC a0).bind fun t9 =>
 (dk a0).bind fun t11 =>
 (cond (!t11)
 (some true)
 ((ac k1 0 (w64 ((a0.2.2.2.2.2.2.2.2.2.2.2.2.1.length:Int) - 1))).bind fun t19 =>
 some (!t19))).bind fun t21 =>
 cond t21
 (some (t9,[]))
 ((eR t9 k1).bind fun t24 =>
 some t24)
def pj:List (FuncId × Fn):=(69,⟨[.val true cAgent false,.val false cNI false],[.val true cAgent (some true),.val false (.one (.sl cDone)) none],fun a=>bn a.1 a.2⟩) :: kL
theorem pk:Gd pj:=mkM pf 69 Tryz.f69 [] Tryz.func69
def gd (t37:Int) (x41:Job) (t46:Int) (t56:Int) (t11:Int) (b0:Int) (b1:List UInt8) (b2:List Pt) (b3:List Fent) (b4:List Vrow) (b5:List Int) (b6:Int) (b7:Int) (b8:Int) (b9:Int) (b10:Int) (b11:List UInt8) (b12:List Job) (b13:Int) (b14:Int):Option ((Int × Int × List UInt8 × List Pt × List Fent × List Vrow × List Int × Int × Int × Int × Int × Int × List UInt8 × List Job × Int × Int) ⊕ ((Int × List UInt8 × List Pt × List Fent × List Vrow × List Int × Int × Int × Int × Int × Int × List UInt8 × List Job × Int × Int) ⊕ Bool)) :=
 cond (decide (t11 < t46))
 ((cond (decide (t37 ≥ (b12.length:Int)))
 (some true)
 ((at? b12 t37).bind fun x85 =>
 some (x85.1 != x41.1))).bind fun t90 =>
 cond t90
 (some (.inr (.inr false)))
 ((bn (b0,b1,b2,b3,b4,b5,b6,b7,b8,b9,b10,b11,b12,b13,b14) t37).bind fun t94 =>
 (cond (decide ((t94.2.length:Int) > 0))
 ((cond (t11 != (w64 (t46 - 1)))
 (some true)
 ((at? t94.2 0).bind fun x107 =>
 some (x107.1 != x41.1))).bind fun t112 =>
 (cond t112 (some true) (some (t56 != 1))).bind fun t116 =>
 some t116)
 (some false)).bind fun t117 =>
 (cond t117
 (some true)
 ((cond (t11 == (w64 (t46 - 1))) (some ((t94.2.length:Int) != t56)) (some false)).bind fun t128 =>
 some t128)).bind fun t129 =>
 cond t129
 (some (.inr (.inr false)))
 (some (.inl (w64 (t11 + 1),t94.1.1,t94.1.2.1,t94.1.2.2.1,t94.1.2.2.2.1,t94.1.2.2.2.2.1,t94.1.2.2.2.2.2.1,t94.1.2.2.2.2.2.2.1,t94.1.2.2.2.2.2.2.2.1,t94.1.2.2.2.2.2.2.2.2.1,t94.1.2.2.2.2.2.2.2.2.2.1,t94.1.2.2.2.2.2.2.2.2.2.2.1,t94.1.2.2.2.2.2.2.2.2.2.2.2.1,t94.1.2.2.2.2.2.2.2.2.2.2.2.2.1,t94.1.2.2.2.2.2.2.2.2.2.2.2.2.2.1,t94.1.2.2.2.2.2.2.2.2.2.2.2.2.2.2)))))
 (some (.inr (.inl (b0,b1,b2,b3,b4,b5,b6,b7,b8,b9,b10,b11,b12,b13,b14))))
def laws_FnNeeds (p0:List Int):Option Bool :=
 (gR p0).bind fun t15 =>
 cond t15
 (some true)
 ((fD p0).bind fun t18 =>
 cond ((t18.1.2.2.2.2.2.2.2.2.2.2.2.2.1.length:Int) == 0)
 ((ct t18.1).bind fun t26 =>
 (cond t26
 ((bx t18.1 0).bind fun t29 =>
 some (t29 == 0))
 (some false)).bind fun t31 =>
 some t31)
 ((fN p0 2).bind fun t33 =>
 (rem t33 (t18.1.2.2.2.2.2.2.2.2.2.2.2.2.1.length:Int)).bind fun t37 =>
 (at? t18.1.2.2.2.2.2.2.2.2.2.2.2.2.1 t37).bind fun x41 =>
 (bx t18.1 t37).bind fun t46 =>
 (at? t18.1.2.2.2.2.2.2.2.2.2.2.2.2.1 t37).bind fun x51 =>
 (eA (t18.1.1,t18.1.2.1,t18.1.2.2.1,t18.1.2.2.2.1,t18.1.2.2.2.2.1,t18.1.2.2.2.2.2.1,t18.1.2.2.2.2.2.2.1,t18.1.2.2.2.2.2.2.2.1,t18.1.2.2.2.2.2.2.2.2.1,t18.1.2.2.2.2.2.2.2.2.2.1,t18.1.2.2.2.2.2.2.2.2.2.2.1,t18.1.2.2.2.2.2.2.2.2.2.2.2.1,[x51],t18.1.2.2.2.2.2.2.2.2.2.2.2.2.2.1,t18.1.2.2.2.2.2.2.2.2.2.2.2.2.2.2)).bind fun t56 =>
 (fO t18.1 t37).bind fun t60 =>
 (cond (t46 != t60) (some true) (some (decide (t46 < 1)))).bind fun t65 =>
 (cond t65
 (some true)
 ((ct t18.1).bind fun t68 =>
 some t68)).bind fun t69 =>
 cond t69
 (some false)
 ((loop (fun z=>gd t37 x41 t46 t56 z.1 z.2.1 z.2.2.1 z.2.2.2.1 z.2.2.2.2.1 z.2.2.2.2.2.1 z.2.2.2.2.2.2.1 z.2.2.2.2.2.2.2.1 z.2.2.2.2.2.2.2.2.1 z.2.2.2.2.2.2.2.2.2.1 z.2.2.2.2.2.2.2.2.2.2.1 z.2.2.2.2.2.2.2.2.2.2.2.1 z.2.2.2.2.2.2.2.2.2.2.2.2.1 z.2.2.2.2.2.2.2.2.2.2.2.2.2.1 z.2.2.2.2.2.2.2.2.2.2.2.2.2.2.1 z.2.2.2.2.2.2.2.2.2.2.2.2.2.2.2) (0,t18.1.1,t18.1.2.1,t18.1.2.2.1,t18.1.2.2.2.1,t18.1.2.2.2.2.1,t18.1.2.2.2.2.2.1,t18.1.2.2.2.2.2.2.1,t18.1.2.2.2.2.2.2.2.1,t18.1.2.2.2.2.2.2.2.2.1,t18.1.2.2.2.2.2.2.2.2.2.1,t18.1.2.2.2.2.2.2.2.2.2.2.1,t18.1.2.2.2.2.2.2.2.2.2.2.2.1,t18.1.2.2.2.2.2.2.2.2.2.2.2.2.1,t18.1.2.2.2.2.2.2.2.2.2.2.2.2.2.1,t18.1.2.2.2.2.2.2.2.2.2.2.2.2.2.2)).bind (Sum.elim (fun d =>
 (cond ((d.2.2.2.2.2.2.2.2.2.2.2.2.1.length:Int) == (w64 ((t18.1.2.2.2.2.2.2.2.2.2.2.2.2.1.length:Int) - 1)))
 ((cond (t37 == (d.2.2.2.2.2.2.2.2.2.2.2.2.1.length:Int))
 (some true)
 ((at? d.2.2.2.2.2.2.2.2.2.2.2.2.1 t37).bind fun x149 =>
 some (x149.1 != x41.1))).bind fun t154 =>
 some t154)
 (some false)).bind fun t155 =>
 some t155) (fun r=>some r)))))
def F_laws_FnNeeds:Fn:=⟨[.val false cNY false],[.val false cNB (some true)],fun a=>laws_FnNeeds a⟩
def a_laws_FnNeeds:List (Nat × LoopAnn):=[(0,⟨⟨(11,false,[dI]) :: us 82 8 (us 101 16 (us 119 10 [])),[(3672064,.box [dI,dS,.dat (.sl cPt),.dat (.sl cFent),.dat (.sl cVrow),.dat (.sl cNI),dI,dI,dI,dI,dI,dS,.dat (.sl cJob),dI,dI])]⟩,
 ⟨[],[(3672064,.box [dI,dS,.dat (.sl cPt),.dat (.sl cFent),.dat (.sl cVrow),.dat (.sl cNI),dI,dI,dI,dI,dI,dS,.dat (.sl cJob),dI,dI])]⟩,some ⟨[(2,false,[dB])],[]⟩⟩)]
theorem m_laws_FnNeeds:Meets Tryz.prog 9 F_laws_FnNeeds:=mkR pk 9 Tryz.f9 a_laws_FnNeeds F_laws_FnNeeds Tryz.func9
def cL (l0:List Fent) (t8:Int) (out3:List Fent):Option ((Int × List Fent) ⊕ (List Fent)) :=
 cond (decide (t8 < (l0.length:Int)))
 ((at? l0 t8).bind fun x10 =>
 cond (!x10.2.2.2.2)
 (cond (decide (x10.2.2.2.1 ≥ 4))
 (some (.inl (w64 (t8 + 1),out3)))
 ((app out3 [(x10.1,x10.2.1,x10.2.2.1,w64 (x10.2.2.2.1 + 1),x10.2.2.2.2)]).bind fun zs25 =>
 some (.inl (w64 (t8 + 1),zs25))))
 ((app out3 [x10]).bind fun zs25_1 =>
 some (.inl (w64 (t8 + 1),zs25_1))))
 (some (.inr out3))
def gS (l0:List Fent):Option (List Fent) :=
 (loop (fun z=>cL l0 z.1 z.2) (0,[])).bind fun d =>
 some d
def kM (b0:Bridge):Option Bridge :=
 (ap b0).bind fun t5 =>
 (bc b0).bind fun t7 =>
 cond t7
 ((aU b0.2.2.2.2.2.2.1).bind fun t10 =>
 (gS b0.2.2.2.1).bind fun t14 =>
 (aY (t5.1,t5.2.1,t5.2.2.1,t14,t5.2.2.2.2.1,t5.2.2.2.2.2.1,t10,t5.2.2.2.2.2.2.2.1,t5.2.2.2.2.2.2.2.2.1,t5.2.2.2.2.2.2.2.2.2.1,t5.2.2.2.2.2.2.2.2.2.2)).bind fun t16 =>
 some t16)
 (some t5)
def bY (a0:Agent) (b1:List Int):Option Agent :=
 (eC a0).bind fun t7 =>
 (dk a0).bind fun t24 =>
 cond (!t24)
 (some t7)
 ((cond (decide ((a0.2.2.2.2.2.2.2.2.2.2.2.2.1.length:Int) ≥ 6))
 (some true)
 (some (decide (a0.2.2.2.2.2.2.2.2.2.2.2.2.2.2 ≥ 1000000)))).bind fun t35 =>
 cond t35
 ((aU a0.2.2.2.2.2.2.2.2.2.2.2.2.2.1).bind fun t38 =>
 some (t7.1,t7.2.1,t7.2.2.1,t7.2.2.2.1,t7.2.2.2.2.1,t7.2.2.2.2.2.1,t7.2.2.2.2.2.2.1,t7.2.2.2.2.2.2.2.1,t7.2.2.2.2.2.2.2.2.1,t7.2.2.2.2.2.2.2.2.2.1,t7.2.2.2.2.2.2.2.2.2.2.1,t7.2.2.2.2.2.2.2.2.2.2.2.1,t7.2.2.2.2.2.2.2.2.2.2.2.2.1,t38,t7.2.2.2.2.2.2.2.2.2.2.2.2.2.2))
 ((bu b1).bind fun t17 =>
 (app t7.2.2.2.2.2.2.2.2.2.2.2.2.1 ([(w64 (t7.2.2.2.2.2.2.2.2.2.2.2.2.2.2 + 1),t17,0,0,0,0,0,[],0,[],[],[],[],[],0,0,0,0,0,0,0)])).bind fun zs20 =>
 some (t7.1,t7.2.1,t7.2.2.1,t7.2.2.2.1,t7.2.2.2.2.1,t7.2.2.2.2.2.1,t7.2.2.2.2.2.2.1,t7.2.2.2.2.2.2.2.1,t7.2.2.2.2.2.2.2.2.1,t7.2.2.2.2.2.2.2.2.2.1,t7.2.2.2.2.2.2.2.2.2.2.1,t7.2.2.2.2.2.2.2.2.2.2.2.1,zs20,t7.2.2.2.2.2.2.2.2.2.2.2.2.2.1,w64 (t7.2.2.2.2.2.2.2.2.2.2.2.2.2.2 + 1))))
end
end Go.V.W

