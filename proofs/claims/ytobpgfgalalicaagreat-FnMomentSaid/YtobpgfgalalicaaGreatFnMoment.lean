/- The law FnMoment: part of the proof that for every input it returns true. No condition. -/
import Derived.Test.YtobpgfgalalicaaGreatFnMomentP1
namespace Go.V.W
open Go.Proofs
set_option linter.unusedVariables false
noncomputable section
theorem m_spec_SetStatic:Meets Tryz.prog 226 F_spec_SetStatic:=mkM g_225 226 Tryz.f226 [] F_spec_SetStatic Tryz.func226 (by kernel_rfl) (by kernel_rfl) (by kernel_rfl)
def fns_226:List (FuncId × Fn):=(226,F_spec_SetStatic) :: fns_225
theorem g_226:Good Tryz.prog ⟨tis,fns_226,[],false⟩:=g_225.cons m_spec_SetStatic
def spec_l11Draw_l0 (t7:L1Cur × Int) (t5:Int) (b0:List Int) (b1:Int) (b2:Int) (b0_1:Int) (b1_1:List UInt8) (b6:Int) (b7:Int) (b8:Int) (b9:Int) (b10:Int) (b3:List Fent):Option ((Int × List Int × Int × Int × Int × List UInt8 × Int × Int × Int × Int × Int × List Fent) ⊕ (List Int × Int × Int × Int × List UInt8 × Int × Int × Int × Int × Int × List Fent)) :=
 cond (decide (t5 > 0))
 ((spec_l1Below (b0,b1,b2) 3).bind fun t35 =>
 (spec_l6Mac t35.1).bind fun t38 =>
 (spec_l1Below t38.1 (w64 (1 + t7.2))).bind fun t41 =>
 (spec_Learn b3 (w64 (1 + t35.2)) t38.2 t41.2).bind fun t42 =>
 some (.inl (w64 (t5 - 1),t41.1.1,t41.1.2.1,t41.1.2.2,b0_1,b1_1,b6,b7,b8,b9,b10,t42)))
 (some (.inr (b0,b1,b2,b0_1,b1_1,b6,b7,b8,b9,b10,b3)))
def spec_l11Draw (p0:L1Cur):Option (L1Cur × Bridge) :=
 (spec_l1Below p0 4).bind fun t7 =>
 (spec_l1Below t7.1 5).bind fun t10 =>
 (spec_BridgeNew (w64 (1 + t10.2)) (w64 (1 + t7.2))).bind fun t13 =>
 (spec_l1Str t10.1 ([[],[121,97,114,100],[98,49]]:List (List UInt8))).bind fun t16 =>
 (spec_l10Draw t16.1 (w64 (1 + t7.2))).bind fun t20 =>
 (spec_l9Draw t20.1 (w64 (1 + t7.2))).bind fun t24 =>
 (spec_l1Below t24.1 6).bind fun t27 =>
 (loop (fun z=>spec_l11Draw_l0 t7 z.1 z.2.1 z.2.2.1 z.2.2.2.1 z.2.2.2.2.1 z.2.2.2.2.2.1 z.2.2.2.2.2.2.1 z.2.2.2.2.2.2.2.1 z.2.2.2.2.2.2.2.2.1 z.2.2.2.2.2.2.2.2.2.1 z.2.2.2.2.2.2.2.2.2.2.1 z.2.2.2.2.2.2.2.2.2.2.2) (t27.2,t27.1.1,t27.1.2.1,t27.1.2.2,t13.1,t16.2,t13.2.2.2.2.2.2.1,t13.2.2.2.2.2.2.2.1,t13.2.2.2.2.2.2.2.2.1,t13.2.2.2.2.2.2.2.2.2.1,t13.2.2.2.2.2.2.2.2.2.2,t13.2.2.2.1)).bind fun d =>
 (spec_l1Once (d.1,d.2.1,d.2.2.1) 3).bind fun t45 =>
 cond t45.2
 ((spec_l6Mac t45.1).bind fun t50 =>
 (spec_l1Below t50.1 (w64 (1 + t7.2))).bind fun t53 =>
 (spec_SetStatic d.2.2.2.2.2.2.2.2.2.2 1 t50.2 t53.2).bind fun t54 =>
 (spec_l1Below t53.1 5).bind fun t59 =>
 (spec_l1Int t59.1 ([0,1,5,1000000]:List Int)).bind fun t63 =>
 some (t63.1,(d.2.2.2.1,d.2.2.2.2.1,t20.2,t54.1,t24.2.1,t24.2.2,t59.2,d.2.2.2.2.2.2.1,d.2.2.2.2.2.2.2.1,d.2.2.2.2.2.2.2.2.1,t63.2)))
 ((spec_l1Below t45.1 5).bind fun t59_1 =>
 (spec_l1Int t59_1.1 ([0,1,5,1000000]:List Int)).bind fun t63_1 =>
 some (t63_1.1,(d.2.2.2.1,d.2.2.2.2.1,t20.2,d.2.2.2.2.2.2.2.2.2.2,t24.2.1,t24.2.2,t59_1.2,d.2.2.2.2.2.2.1,d.2.2.2.2.2.2.2.1,d.2.2.2.2.2.2.2.2.1,t63_1.2)))
def F_spec_l11Draw:Fn:=⟨[.ptr cL1Cur false],[.val true cBridge true],fun a=>spec_l11Draw a⟩
def a_spec_l11Draw:List (Nat × LoopAnn):=[(0,⟨⟨[(5,false,[dI])],[(1,.box [.dat (.sl (.one (.int .u8))),dI,dI]),(530432,.box [dI,dS,.same 1051712,.own 1000000000,.same 1313856,.same 1313857,dI,dI,dI,dI,dI]),(1000000000,.root cFent true)]⟩,
 ⟨[],[(1,.box [.dat (.sl (.one (.int .u8))),dI,dI]),(530432,.box [dI,dS,.same 1051712,.own 1000000300,.same 1313856,.same 1313857,dI,dI,dI,dI,dI]),(1000000300,.root cFent true)]⟩,none⟩)]
theorem m_spec_l11Draw:Meets Tryz.prog 115 F_spec_l11Draw:=mkM g_226 115 Tryz.f115 a_spec_l11Draw F_spec_l11Draw Tryz.func115 (by kernel_rfl) (by kernel_rfl) (by kernel_rfl)
def fns_115:List (FuncId × Fn):=(115,F_spec_l11Draw) :: fns_226
theorem g_115:Good Tryz.prog ⟨tis,fns_115,[],false⟩:=g_226.cons m_spec_l11Draw
def spec_l2Draw_l0 (i4:Int) (b0:List Int) (b1:Int) (b2:Int) (out3:List Int):Option ((Int × List Int × Int × Int × List Int) ⊕ (List Int × Int × Int × List Int)) :=
 cond (decide (i4 > 0))
 ((spec_l1Int (b0,b1,b2) ([0,1,2,3,127,128,16384,100000]:List Int)).bind fun t16 =>
 (app out3 [t16.2]).bind fun zs18 =>
 some (.inl (w64 (i4 - 1),t16.1.1,t16.1.2.1,t16.1.2.2,zs18)))
 (some (.inr (b0,b1,b2,out3)))
def spec_l2Draw (c0:L1Cur):Option (L1Cur × List Int) :=
 (spec_l1Below c0 6).bind fun t7 =>
 (loop (fun z=>spec_l2Draw_l0 z.1 z.2.1 z.2.2.1 z.2.2.2.1 z.2.2.2.2) (w64 (1 + t7.2),t7.1.1,t7.1.2.1,t7.1.2.2,([]:List Int))).bind fun d =>
 some ((d.1,d.2.1,d.2.2.1),d.2.2.2)
def F_spec_l2Draw:Fn:=⟨[.ptr cL1Cur false],[.val false cNN true],fun a=>spec_l2Draw a⟩
def a_spec_l2Draw:List (Nat × LoopAnn):=[(0,⟨⟨[(3,false,[.own 1000000000]),(4,false,[dI])],[(1,.box [.dat (.sl (.one (.int .u8))),dI,dI]),(1000000000,.root cNI true)]⟩,
 ⟨[(3,false,[.own 1000000300])],[(1,.box [.dat (.sl (.one (.int .u8))),dI,dI]),(1000000300,.root cNI true)]⟩,none⟩)]
theorem m_spec_l2Draw:Meets Tryz.prog 142 F_spec_l2Draw:=mkM g_115 142 Tryz.f142 a_spec_l2Draw F_spec_l2Draw Tryz.func142 (by kernel_rfl) (by kernel_rfl) (by kernel_rfl)
def fns_142:List (FuncId × Fn):=(142,F_spec_l2Draw) :: fns_115
theorem g_142:Good Tryz.prog ⟨tis,fns_142,[],false⟩:=g_115.cons m_spec_l2Draw
def spec_l3Int (n0:Int):Option Val :=
 some (2,n0,[],[])
def F_spec_l3Int:Fn:=⟨[.val false cNI false],[.val true cVal true],fun a=>spec_l3Int a⟩
theorem m_spec_l3Int:Meets Tryz.prog 259 F_spec_l3Int:=mkM g_142 259 Tryz.f259 [] F_spec_l3Int Tryz.func259 (by kernel_rfl) (by kernel_rfl) (by kernel_rfl)
def fns_259:List (FuncId × Fn):=(259,F_spec_l3Int) :: fns_142
theorem g_259:Good Tryz.prog ⟨tis,fns_259,[],false⟩:=g_142.cons m_spec_l3Int
def spec_l1Clip (n0:Int):Option Int :=
 cond (decide (n0 > 2147483647))
 (some 2147483647)
 (cond (decide (n0 < (-2147483648))) (some (-2147483648)) (some n0))
def F_spec_l1Clip:Fn:=⟨[.val false cNI false],[.val false cNI true],fun a=>spec_l1Clip a⟩
theorem m_spec_l1Clip:Meets Tryz.prog 260 F_spec_l1Clip:=mkM g_259 260 Tryz.f260 [] F_spec_l1Clip Tryz.func260 (by kernel_rfl) (by kernel_rfl) (by kernel_rfl)
def fns_260:List (FuncId × Fn):=(260,F_spec_l1Clip) :: fns_259
theorem g_260:Good Tryz.prog ⟨tis,fns_260,[],false⟩:=g_259.cons m_spec_l1Clip
def spec_l1Num (c0:L1Cur):Option (L1Cur × Int) :=
 (spec_l1Below c0 1000).bind fun t5 =>
 (spec_l1Int t5.1 [0,1,(-1),127,128,(-128),(-129),255,256,32767,32768,(-32769),8388608,2147483647,(-2147483648),2147483648,(-2147483649),9223372036854775807,(-9223372036854775808),t5.2]).bind fun t7 =>
 some t7
def F_spec_l1Num:Fn:=⟨[.ptr cL1Cur false],[.val false cNI true],fun a=>spec_l1Num a⟩
theorem m_spec_l1Num:Meets Tryz.prog 261 F_spec_l1Num:=mkM g_260 261 Tryz.f261 [] F_spec_l1Num Tryz.func261 (by kernel_rfl) (by kernel_rfl) (by kernel_rfl)
def fns_261:List (FuncId × Fn):=(261,F_spec_l1Num) :: fns_260
theorem g_261:Good Tryz.prog ⟨tis,fns_261,[],false⟩:=g_260.cons m_spec_l1Num
def spec_l3Draw (c0:L1Cur):Option (L1Cur × Val) :=
 (spec_l1Below c0 6).bind fun t4 =>
 cond (t4.2 == 0)
 (some (t4.1,(5,0,[],[])))
 (cond (t4.2 == 1)
 (cond (t4.2 == 1)
 ((spec_l1Num t4.1).bind fun t12 =>
 (spec_l1Clip t12.2).bind fun t13 =>
 (spec_l3Int t13).bind fun t14 =>
 some (t12.1,t14))
 (cond (t4.2 == 3)
 ((spec_l1Str t4.1 ([[],[97],[121,97,114,100],[0]]:List (List UInt8))).bind fun t19 =>
 some (t19.1,(4,0,t19.2,[])))
 (cond (t4.2 == 4)
 ((spec_l2Draw t4.1).bind fun t24 =>
 some (t24.1,(6,0,[],t24.2)))
 ((spec_l1Int t4.1 ([128,130]:List Int)).bind fun t28 =>
 some (t28.1,(t28.2,0,[],[]))))))
 (cond (t4.2 == 2)
 ((spec_l1Num t4.1).bind fun t12_1 =>
 (spec_l1Clip t12_1.2).bind fun t13_1 =>
 (spec_l3Int t13_1).bind fun t14_1 =>
 some (t12_1.1,t14_1))
 (cond (t4.2 == 3)
 ((spec_l1Str t4.1 ([[],[97],[121,97,114,100],[0]]:List (List UInt8))).bind fun t19_1 =>
 some (t19_1.1,(4,0,t19_1.2,[])))
 (cond (t4.2 == 4)
 ((spec_l2Draw t4.1).bind fun t24_1 =>
 some (t24_1.1,(6,0,[],t24_1.2)))
 ((spec_l1Int t4.1 ([128,130]:List Int)).bind fun t28_1 =>
 some (t28_1.1,(t28_1.2,0,[],[])))))))
def F_spec_l3Draw:Fn:=⟨[.ptr cL1Cur false],[.val true cVal true],fun a=>spec_l3Draw a⟩
theorem m_spec_l3Draw:Meets Tryz.prog 143 F_spec_l3Draw:=mkM g_261 143 Tryz.f143 [] F_spec_l3Draw Tryz.func143 (by kernel_rfl) (by kernel_rfl) (by kernel_rfl)
def fns_143:List (FuncId × Fn):=(143,F_spec_l3Draw) :: fns_261
theorem g_143:Good Tryz.prog ⟨tis,fns_143,[],false⟩:=g_261.cons m_spec_l3Draw
def spec_VecOk (v0:Vec):Option Bool :=
 (spec_l1In v0.1 1 99).bind fun t5 =>
 (cond t5
 ((spec_l1In v0.2.1 0 100000).bind fun t9 =>
 some t9)
 (some false)).bind fun t10 =>
 (cond t10
 ((spec_l1In v0.2.2.1 0 10).bind fun t14 =>
 some t14)
 (some false)).bind fun t15 =>
 (cond t15
 ((spec_l1In v0.2.2.2.1 1 99).bind fun t19 =>
 some t19)
 (some false)).bind fun t20 =>
 (cond t20
 ((spec_l1In v0.2.2.2.2 0 7).bind fun t24 =>
 some t24)
 (some false)).bind fun t25 =>
 some t25
def F_spec_VecOk:Fn:=⟨[.val true cVec false],[.val false cNB true],fun a=>spec_VecOk a⟩
theorem m_spec_VecOk:Meets Tryz.prog 300 F_spec_VecOk:=mkM g_143 300 Tryz.f300 [] F_spec_VecOk Tryz.func300 (by kernel_rfl) (by kernel_rfl) (by kernel_rfl)
def fns_300:List (FuncId × Fn):=(300,F_spec_VecOk) :: fns_143
theorem g_300:Good Tryz.prog ⟨tis,fns_300,[],false⟩:=g_143.cons m_spec_VecOk
def spec_PtOk (p0:Pt):Option Bool :=
 (spec_l1In p0.2.1 1 1000).bind fun t5 =>
 (cond (!t5)
 (some true)
 ((cond (!p0.1) (some p0.2.2.1) (some false)).bind fun t14 =>
 some t14)).bind fun t15 =>
 cond t15
 (some false)
 (cond (!p0.2.2.1)
 (let t2:=p0.2.2.2.1 == 0 && (p0.2.2.2.2.1 == 0 && (p0.2.2.2.2.2.1 == 0 && (p0.2.2.2.2.2.2.1 == 0 && (p0.2.2.2.2.2.2.2 == 0))))
 some t2)
 ((spec_VecOk p0.2.2.2).bind fun t25 =>
 some t25))
def F_spec_PtOk:Fn:=⟨[.val true cPt false],[.val false cNB true],fun a=>spec_PtOk a⟩
theorem m_spec_PtOk:Meets Tryz.prog 201 F_spec_PtOk:=mkM g_300 201 Tryz.f201 [] F_spec_PtOk Tryz.func201 (by kernel_rfl) (by kernel_rfl) (by kernel_rfl)
def fns_201:List (FuncId × Fn):=(201,F_spec_PtOk) :: fns_300
theorem g_201:Good Tryz.prog ⟨tis,fns_201,[],false⟩:=g_300.cons m_spec_PtOk
def spec_l11Counts (b0:Bridge):Option Bool :=
 (spec_l1In b0.2.2.2.2.2.2.1 0 1000000).bind fun t5 =>
 (cond t5
 ((spec_l1In b0.2.2.2.2.2.2.2.1 0 1000000).bind fun t9 =>
 some t9)
 (some false)).bind fun t10 =>
 (cond t10
 ((spec_l1In b0.2.2.2.2.2.2.2.2.1 0 1000000).bind fun t14 =>
 some t14)
 (some false)).bind fun t15 =>
 (cond t15
 ((spec_l1In b0.2.2.2.2.2.2.2.2.2.1 0 1000000).bind fun t19 =>
 some t19)
 (some false)).bind fun t20 =>
 (cond t20
 ((spec_l1In b0.2.2.2.2.2.2.2.2.2.2 0 1000000).bind fun t24 =>
 some t24)
 (some false)).bind fun t25 =>
 some t25
def F_spec_l11Counts:Fn:=⟨[.val true cBridge false],[.val false cNB true],fun a=>spec_l11Counts a⟩
theorem m_spec_l11Counts:Meets Tryz.prog 204 F_spec_l11Counts:=mkM g_201 204 Tryz.f204 [] F_spec_l11Counts Tryz.func204 (by kernel_rfl) (by kernel_rfl) (by kernel_rfl)
def fns_204:List (FuncId × Fn):=(204,F_spec_l11Counts) :: fns_201
theorem g_204:Good Tryz.prog ⟨tis,fns_204,[],false⟩:=g_201.cons m_spec_l11Counts
def spec_BridgeOk_l0 (b0:Bridge) (i3:Int):Option (Int ⊕ (Unit ⊕ Bool)) :=
 cond (decide (i3 < (b0.2.2.1.length:Int)))
 ((at? b0.2.2.1 i3).bind fun x14 =>
 (spec_PtOk x14).bind fun t16 =>
 cond (!t16) (some (.inr (.inr false))) (some (.inl (w64 (i3 + 1)))))
 (some (.inr (.inl ())))
def spec_BridgeOk (b0:Bridge):Option Bool :=
 (loop (fun z=>spec_BridgeOk_l0 b0 z) 0).bind (Sum.elim (fun d =>
 (spec_l1In b0.1 1 99).bind fun t20 =>
 (cond t20 (some (decide ((b0.2.1.length:Int) ≤ 10))) (some false)).bind fun t26 =>
 (cond t26
 ((spec_l1In (b0.2.2.1.length:Int) 1 6).bind fun t31 =>
 some t31)
 (some false)).bind fun t32 =>
 (cond t32
 ((spec_FdbOk b0.2.2.2.1).bind fun t36 =>
 some t36)
 (some false)).bind fun t37 =>
 (cond t37
 ((spec_VtabOk (b0.2.2.2.2.1,b0.2.2.2.2.2.1) (b0.2.2.1.length:Int)).bind fun t44 =>
 some t44)
 (some false)).bind fun t45 =>
 (cond t45
 ((spec_l11Counts b0).bind fun t48 =>
 some t48)
 (some false)).bind fun t49 =>
 some t49) (fun r=>some r))
def F_spec_BridgeOk:Fn:=⟨[.val true cBridge false],[.val false cNB true],fun a=>spec_BridgeOk a⟩
def a_spec_BridgeOk:List (Nat × LoopAnn):=[(0,⟨⟨[(3,false,[dI])],[]⟩,
 ⟨[],[]⟩,some ⟨[(2,false,[dB])],[]⟩⟩)]
theorem m_spec_BridgeOk:Meets Tryz.prog 93 F_spec_BridgeOk:=mkM g_204 93 Tryz.f93 a_spec_BridgeOk F_spec_BridgeOk Tryz.func93 (by kernel_rfl) (by kernel_rfl) (by kernel_rfl)
def fns_93:List (FuncId × Fn):=(93,F_spec_BridgeOk) :: fns_204
theorem g_93:Good Tryz.prog ⟨tis,fns_93,[],false⟩:=g_204.cons m_spec_BridgeOk
def spec_l17Name (l0:List Int):Option (List Int) :=
 (app ([1,3,1]:List Int) l0).bind fun zs5 =>
 some zs5
def F_spec_l17Name:Fn:=⟨[.val false cNN false],[.val false cNN true],fun a=>spec_l17Name a⟩
theorem m_spec_l17Name:Meets Tryz.prog 339 F_spec_l17Name:=mkM g_93 339 Tryz.f339 [] F_spec_l17Name Tryz.func339 (by kernel_rfl) (by kernel_rfl) (by kernel_rfl)
def fns_339:List (FuncId × Fn):=(339,F_spec_l17Name) :: fns_93
theorem g_339:Good Tryz.prog ⟨tis,fns_339,[],false⟩:=g_93.cons m_spec_l17Name
def spec_l17Add (out0:List Bind) (name1:List Int) (n2:Int):Option (List Bind) :=
 (spec_l17Name name1).bind fun t9 =>
 (spec_l3Int n2).bind fun t11 =>
 (app out0 [(t9,t11.1,t11.2.1,t11.2.2.1,t11.2.2.2)]).bind fun zs14 =>
 some zs14
def F_spec_l17Add:Fn:=⟨[.val false (.one (.sl cBind)) true,.val false cNN false,.val false cNI false],[.val false (.one (.sl cBind)) true],fun a=>spec_l17Add a.1 a.2.1 a.2.2⟩
theorem m_spec_l17Add:Meets Tryz.prog 386 F_spec_l17Add:=mkM g_339 386 Tryz.f386 [] F_spec_l17Add Tryz.func386 (by kernel_rfl) (by kernel_rfl) (by kernel_rfl)
def fns_386:List (FuncId × Fn):=(386,F_spec_l17Add) :: fns_339
theorem g_386:Good Tryz.prog ⟨tis,fns_386,[],false⟩:=g_339.cons m_spec_l17Add
def spec_LessVec (a0:Vec) (b1:Vec):Option Bool :=
 cond (a0.1 != b1.1)
 (some (decide (a0.1 < b1.1)))
 (cond (a0.2.1 != b1.2.1)
 (some (decide (a0.2.1 < b1.2.1)))
 (cond (a0.2.2.2.1 != b1.2.2.2.1)
 (let t4:=decide (a0.2.2.2.1 < b1.2.2.2.1)
 some t4)
 (let t4_1:=decide (a0.2.2.2.2 < b1.2.2.2.2)
 some t4_1)))
def F_spec_LessVec:Fn:=⟨[.val true cVec false,.val true cVec false],[.val false cNB true],fun a=>spec_LessVec a.1 a.2⟩
theorem m_spec_LessVec:Meets Tryz.prog 406 F_spec_LessVec:=mkM g_386 406 Tryz.f406 [] F_spec_LessVec Tryz.func406 (by kernel_rfl) (by kernel_rfl) (by kernel_rfl)
def fns_406:List (FuncId × Fn):=(406,F_spec_LessVec) :: fns_386
theorem g_406:Good Tryz.prog ⟨tis,fns_406,[],false⟩:=g_386.cons m_spec_LessVec
def spec_StepVec (v0:Vec) (cost1:Int):Option (Vec × Bool) :=
 (spec_VecOk v0).bind fun t8 =>
 (cond (!t8)
 (some true)
 ((spec_l1In cost1 1 1000).bind fun t12 =>
 some (!t12))).bind fun t14 =>
 cond t14
 (some (v0,false))
 ((spec_VecOk (v0.1,w64 (v0.2.1 + cost1),w64 (v0.2.2.1 + 1),v0.2.2.2.1,v0.2.2.2.2)).bind fun t27 =>
 cond (!t27)
 (some (v0,false))
 (some ((v0.1,w64 (v0.2.1 + cost1),w64 (v0.2.2.1 + 1),v0.2.2.2.1,v0.2.2.2.2),true)))
def F_spec_StepVec:Fn:=⟨[.val true cVec false,.val false cNI false],[.val true cVec true,.val false cNB true],fun a=>spec_StepVec a.1 a.2⟩
theorem m_spec_StepVec:Meets Tryz.prog 416 F_spec_StepVec:=mkM g_406 416 Tryz.f416 [] F_spec_StepVec Tryz.func416 (by kernel_rfl) (by kernel_rfl) (by kernel_rfl)
def fns_416:List (FuncId × Fn):=(416,F_spec_StepVec) :: fns_406
theorem g_416:Good Tryz.prog ⟨tis,fns_416,[],false⟩:=g_406.cons m_spec_StepVec
def spec_BestVec_l0 (p0:Int) (i1:List Pt) (t8:Int) (t9:Int) (b0:Int) (b1:Int) (b2:Int) (b3:Int) (b4:Int) (b0_1:Int) (b1_1:Int) (b2_1:Int) (b3_1:Int) (b4_1:Int):Option ((Int × Int × Int × Int × Int × Int × Int × Int × Int × Int × Int × Int) ⊕ (Int × Int × Int × Int × Int × Int × Int × Int × Int × Int × Int)) :=
 cond (decide (t9 < (i1.length:Int)))
 ((at? i1 t9).bind fun x24 =>
 (cond (!x24.1)
 (some true)
 ((at? i1 t9).bind fun x31 =>
 some (!x31.2.2.1))).bind fun t35 =>
 cond t35
 (some (.inl (t8,w64 (t9 + 1),b0,b1,b2,b3,b4,b0_1,b1_1,b2_1,b3_1,b4_1)))
 ((at? i1 t9).bind fun x39 =>
 (at? i1 t9).bind fun x44 =>
 (spec_StepVec x39.2.2.2 x44.2.1).bind fun t47 =>
 (cond t47.2 (some (decide (t47.1.1 < p0))) (some false)).bind fun t56 =>
 (cond t56
 ((cond (decide (t8 < 0))
 (some true)
 ((spec_LessVec t47.1 (b0_1,b1_1,b2_1,b3_1,b4_1)).bind fun t63 =>
 some t63)).bind fun t64 =>
 some t64)
 (some false)).bind fun t65 =>
 cond t65
 (some (.inl (t9,w64 (t9 + 1),t47.1.1,t47.1.2.1,t47.1.2.2.1,p0,0,t47.1.1,t47.1.2.1,t47.1.2.2.1,t47.1.2.2.2.1,t47.1.2.2.2.2)))
 (some (.inl (t8,w64 (t9 + 1),b0,b1,b2,b3,b4,b0_1,b1_1,b2_1,b3_1,b4_1)))))
 (some (.inr (t8,b0,b1,b2,b3,b4,b0_1,b1_1,b2_1,b3_1,b4_1)))
def spec_BestVec (p0:Int) (i1:List Pt):Option (Vec × Int) :=
 (loop (fun z=>spec_BestVec_l0 p0 i1 z.1 z.2.1 z.2.2.1 z.2.2.2.1 z.2.2.2.2.1 z.2.2.2.2.2.1 z.2.2.2.2.2.2.1 z.2.2.2.2.2.2.2.1 z.2.2.2.2.2.2.2.2.1 z.2.2.2.2.2.2.2.2.2.1 z.2.2.2.2.2.2.2.2.2.2.1 z.2.2.2.2.2.2.2.2.2.2.2) ((-1),0,p0,0,0,p0,0,0,0,0,0,0)).bind fun d =>
 some ((d.2.1,d.2.2.1,d.2.2.2.1,d.2.2.2.2.1,d.2.2.2.2.2.1),d.1)
def F_spec_BestVec:Fn:=⟨[.val false cNI false,.val false (.one (.sl cPt)) false],[.val true cVec true,.val false cNI true],fun a=>spec_BestVec a.1 a.2⟩
def a_spec_BestVec:List (Nat × LoopAnn):=[(0,⟨⟨(8,false,[dI]) :: (9,false,[dI]) :: us 29 6 (us 52 4 (us 58 7 [])),[(266240,.box [dI,dI,dI,dI,dI]),(526336,.box [dI,dI,dI,dI,dI])]⟩,
 ⟨[(8,false,[dI])],[(266240,.box [dI,dI,dI,dI,dI]),(526336,.box [dI,dI,dI,dI,dI])]⟩,none⟩)]
theorem m_spec_BestVec:Meets Tryz.prog 405 F_spec_BestVec:=mkM g_416 405 Tryz.f405 a_spec_BestVec F_spec_BestVec Tryz.func405 (by kernel_rfl) (by kernel_rfl) (by kernel_rfl)
def fns_405:List (FuncId × Fn):=(405,F_spec_BestVec) :: fns_416
theorem g_405:Good Tryz.prog ⟨tis,fns_405,[],false⟩:=g_416.cons m_spec_BestVec
def spec_SayVec (id0:Int) (l1:List Pt) (port2:Int):Option Vec :=
 (spec_BestVec id0 l1).bind fun t12 =>
 some (t12.1.1,t12.1.2.1,t12.1.2.2.1,t12.1.2.2.2.1,port2)
def F_spec_SayVec:Fn:=⟨[.val false cNI false,.val false (.one (.sl cPt)) false,.val false cNI false],[.val true cVec true],fun a=>spec_SayVec a.1 a.2.1 a.2.2⟩
theorem m_spec_SayVec:Meets Tryz.prog 407 F_spec_SayVec:=mkM g_405 407 Tryz.f407 [] F_spec_SayVec Tryz.func407 (by kernel_rfl) (by kernel_rfl) (by kernel_rfl)
def fns_407:List (FuncId × Fn):=(407,F_spec_SayVec) :: fns_405
theorem g_407:Good Tryz.prog ⟨tis,fns_407,[],false⟩:=g_405.cons m_spec_SayVec
def spec_RoleOf (id0:Int) (l1:List Pt) (port2:Int):Option Int :=
 (spec_l1In port2 0 (w64 ((l1.length:Int) - 1))).bind fun t13 =>
 (cond (!t13)
 (some true)
 ((at? l1 port2).bind fun x18 =>
 some (!x18.1))).bind fun t22 =>
 cond t22
 (some 4)
 ((spec_BestVec id0 l1).bind fun t26 =>
 cond (t26.2 == port2)
 (some 1)
 ((at? l1 port2).bind fun x36 =>
 (cond (!x36.2.2.1)
 (some true)
 ((spec_SayVec id0 l1 port2).bind fun t44 =>
 (at? l1 port2).bind fun x47 =>
 (spec_LessVec t44 x47.2.2.2).bind fun t50 =>
 some t50)).bind fun t51 =>
 cond t51 (some 2) (some 3)))
def F_spec_RoleOf:Fn:=⟨[.val false cNI false,.val false (.one (.sl cPt)) false,.val false cNI false],[.val false cNI true],fun a=>spec_RoleOf a.1 a.2.1 a.2.2⟩
theorem m_spec_RoleOf:Meets Tryz.prog 380 F_spec_RoleOf:=mkM g_407 380 Tryz.f380 [] F_spec_RoleOf Tryz.func380 (by kernel_rfl) (by kernel_rfl) (by kernel_rfl)
def fns_380:List (FuncId × Fn):=(380,F_spec_RoleOf) :: fns_407
theorem g_380:Good Tryz.prog ⟨tis,fns_380,[],false⟩:=g_407.cons m_spec_RoleOf
def spec_l17Port (b0:Bridge) (c1:Int) (p2:Int):Option Int :=
 cond (c1 == 1)
 ((at? b0.2.2.1 p2).bind fun x13 =>
 cond x13.1 (some 1) (some 0))
 (cond (c1 == 2)
 ((at? b0.2.2.1 p2).bind fun x21 =>
 some x21.2.1)
 (cond (c1 == 3)
 ((spec_RoleOf b0.1 b0.2.2.1 p2).bind fun t31 =>
 some t31)
 ((at? b0.2.2.2.2.2.1 p2).bind fun x36 =>
 some x36)))
def F_spec_l17Port:Fn:=⟨[.val true cBridge false,.val false cNI false,.val false cNI false],[.val false cNI true],fun a=>spec_l17Port a.1 a.2.1 a.2.2⟩
theorem m_spec_l17Port:Meets Tryz.prog 387 F_spec_l17Port:=mkM g_380 387 Tryz.f387 [] F_spec_l17Port Tryz.func387 (by kernel_rfl) (by kernel_rfl) (by kernel_rfl)
def fns_387:List (FuncId × Fn):=(387,F_spec_l17Port) :: fns_380
theorem g_387:Good Tryz.prog ⟨tis,fns_387,[],false⟩:=g_380.cons m_spec_l17Port
def spec_l17Row (r0:Vrow) (c1:Int):Option Int :=
 cond (c1 == 1) (some 1) (cond (c1 == 2) (some r0.2.1) (some r0.2.2))
def F_spec_l17Row:Fn:=⟨[.val true cVrow false,.val false cNI false],[.val false cNI true],fun a=>spec_l17Row a.1 a.2⟩
theorem m_spec_l17Row:Meets Tryz.prog 388 F_spec_l17Row:=mkM g_387 388 Tryz.f388 [] F_spec_l17Row Tryz.func388 (by kernel_rfl) (by kernel_rfl) (by kernel_rfl)
def fns_388:List (FuncId × Fn):=(388,F_spec_l17Row) :: fns_387
theorem g_388:Good Tryz.prog ⟨tis,fns_388,[],false⟩:=g_387.cons m_spec_l17Row
def spec_MibList_l2 (p0:Bridge) (t4:Int) (t5:Int) (t3_1:List Bind):Option ((Int × List Bind) ⊕ (List Bind)) :=
 cond (decide (t5 < (p0.2.2.1.length:Int)))
 ((spec_l17Port p0 t4 t5).bind fun t59 =>
 (spec_l17Add t3_1 [2,t4,w64 (t5 + 1)] t59).bind fun t60 =>
 some (.inl (w64 (t5 + 1),t60)))
 (some (.inr t3_1))
def spec_MibList_l0 (p0:Bridge) (t4:Int) (t3:List Bind):Option ((Int × List Bind) ⊕ (List Bind)) :=
 cond (decide (t4 ≤ 4))
 ((loop (fun z=>spec_MibList_l2 p0 t4 z.1 z.2) (0,t3)).bind fun d =>
 some (.inl (w64 (t4 + 1),d)))
 (some (.inr t3))
def spec_MibList_l6 (p0:Bridge) (t6:Int) (t7:Int) (t3_5:List Bind):Option ((Int × List Bind) ⊕ (List Bind)) :=
 cond (decide (t7 < (p0.2.2.2.2.1.length:Int)))
 ((at? p0.2.2.2.2.1 t7).bind fun x79 =>
 (at? p0.2.2.2.2.1 t7).bind fun x87 =>
 (spec_l17Row x87 t6).bind fun t90 =>
 (spec_l17Add t3_5 [3,t6,x79.1] t90).bind fun t91 =>
 some (.inl (w64 (t7 + 1),t91)))
 (some (.inr t3_5))
def spec_MibList_l4 (p0:Bridge) (t6:Int) (t3_4:List Bind):Option ((Int × List Bind) ⊕ (List Bind)) :=
 cond (decide (t6 ≤ 3))
 ((loop (fun z=>spec_MibList_l6 p0 t6 z.1 z.2) (0,t3_4)).bind fun d_2 =>
 some (.inl (w64 (t6 + 1),d_2)))
 (some (.inr t3_4))
def spec_MibList_l8 (p0:Bridge) (t8:Int) (t3_8:List Bind):Option ((Int × List Bind) ⊕ (List Bind)) :=
 cond (decide (t8 < (p0.2.2.2.1.length:Int)))
 ((at? p0.2.2.2.1 t8).bind fun x103 =>
 (at? p0.2.2.2.1 t8).bind fun x109 =>
 (at? p0.2.2.2.1 t8).bind fun x116 =>
 (spec_l17Add t3_8 [4,1,x103.1,x109.2.1] (w64 (x116.2.2.1 + 1))).bind fun t120 =>
 some (.inl (w64 (t8 + 1),t120)))
 (some (.inr t3_8))
def spec_MibList (p0:Bridge):Option (List Bind) :=
 (spec_BridgeOk p0).bind fun t10 =>
 cond (!t10)
 (some ([]:List Bind))
 ((spec_l17Name ([1,1]:List Int)).bind fun t14 =>
 (spec_l17Add ([(t14,4,0,p0.2.1,[])]) ([1,2]:List Int) p0.2.2.2.2.2.2.1).bind fun t24 =>
 (spec_l17Add t24 ([1,3]:List Int) p0.2.2.2.2.2.2.2.1).bind fun t29 =>
 (spec_l17Add t29 ([1,4]:List Int) p0.2.2.2.2.2.2.2.2.1).bind fun t34 =>
 (spec_l17Add t34 ([1,5]:List Int) p0.2.2.2.2.2.2.2.2.2.1).bind fun t39 =>
 (loop (fun z=>spec_MibList_l0 p0 z.1 z.2) (1,t39)).bind fun d_1 =>
 (loop (fun z=>spec_MibList_l4 p0 z.1 z.2) (1,d_1)).bind fun d_3 =>
 (loop (fun z=>spec_MibList_l8 p0 z.1 z.2) (0,d_3)).bind fun d_4 =>
 some d_4)
def F_spec_MibList:Fn:=⟨[.val true cBridge false],[.val false (.one (.sl cBind)) true],fun a=>spec_MibList a⟩
def a_spec_MibList:List (Nat × LoopAnn):=[(0,⟨⟨[(3,false,[.own 1000000000]),(4,false,[dI])],[(1000000000,.root cBind true)]⟩,
 ⟨[(3,false,[.own 1000000300])],[(1000000300,.root cBind true)]⟩,none⟩),
 (2,⟨⟨[(3,false,[.own 1000002000]),(5,false,[dI])],[(1000002000,.root cBind true)]⟩,
 ⟨[(3,false,[.own 1000002300])],[(1000002300,.root cBind true)]⟩,none⟩),
 (4,⟨⟨[(3,false,[.own 1000004000]),(6,false,[dI])],[(1000004000,.root cBind true)]⟩,
 ⟨[(3,false,[.own 1000004300])],[(1000004300,.root cBind true)]⟩,none⟩),
 (6,⟨⟨[(3,false,[.own 1000006000]),(7,false,[dI])],[(1000006000,.root cBind true)]⟩,
 ⟨[(3,false,[.own 1000006300])],[(1000006300,.root cBind true)]⟩,none⟩),
 (8,⟨⟨[(3,false,[.own 1000008000]),(8,false,[dI])],[(1000008000,.root cBind true)]⟩,
 ⟨[(3,false,[.own 1000008300])],[(1000008300,.root cBind true)]⟩,none⟩)]
theorem m_spec_MibList:Meets Tryz.prog 338 F_spec_MibList:=mkM g_388 338 Tryz.f338 a_spec_MibList F_spec_MibList Tryz.func338 (by kernel_rfl) (by kernel_rfl) (by kernel_rfl)
def fns_338:List (FuncId × Fn):=(338,F_spec_MibList) :: fns_388
theorem g_338:Good Tryz.prog ⟨tis,fns_338,[],false⟩:=g_388.cons m_spec_MibList
def spec_l17Oid (c0:L1Cur) (b1:Bridge):Option (L1Cur × List Int) :=
 (spec_MibList b1).bind fun t7 =>
 cond (decide ((t7.length:Int) > 0))
 ((spec_l1Once c0 4).bind fun t13 =>
 cond (!t13.2)
 ((spec_l1Below t13.1 (t7.length:Int)).bind fun t21 =>
 (ix t7.length t21.2).bind fun j22 =>
 (t7[j22]?).bind fun x24 =>
 (app ([]:List Int) x24.1).bind fun zs25 =>
 some (t21.1,zs25))
 ((spec_l1Below t13.1 8).bind fun t27 =>
 cond (t27.2 == 0)
 (some (t27.1,([0]:List Int)))
 (cond (t27.2 == 1)
 (some (t27.1,([1,3,1]:List Int)))
 (cond (t27.2 == 2)
 ((spec_l17Name ([2,2,9]:List Int)).bind fun t37 =>
 some (t27.1,t37))
 (cond (t27.2 == 3)
 ((spec_l1Below t27.1 9).bind fun t41 =>
 (spec_l17Name [3,1,w64 (1 + t41.2)]).bind fun t44 =>
 some (t41.1,t44))
 (cond (t27.2 == 4)
 ((spec_l17Name ([2,2]:List Int)).bind fun t48 =>
 some (t27.1,t48))
 (cond (t27.2 == 5)
 ((spec_l17Name ([9]:List Int)).bind fun t52 =>
 some (t27.1,t52))
 (cond (t27.2 == 6)
 ((spec_l17Name ([4,1,2,11]:List Int)).bind fun t56 =>
 some (t27.1,t56))
 ((spec_l2Draw t27.1).bind fun t58 =>
 some t58)))))))))
 ((spec_l1Below c0 8).bind fun t27_1 =>
 cond (t27_1.2 == 0)
 (some (t27_1.1,([0]:List Int)))
 (cond (t27_1.2 == 1)
 (some (t27_1.1,([1,3,1]:List Int)))
 (cond (t27_1.2 == 2)
 ((spec_l17Name ([2,2,9]:List Int)).bind fun t37_1 =>
 some (t27_1.1,t37_1))
 (cond (t27_1.2 == 3)
 ((spec_l1Below t27_1.1 9).bind fun t41_1 =>
 (spec_l17Name [3,1,w64 (1 + t41_1.2)]).bind fun t44_1 =>
 some (t41_1.1,t44_1))
 (cond (t27_1.2 == 4)
 ((spec_l17Name ([2,2]:List Int)).bind fun t48_1 =>
 some (t27_1.1,t48_1))
 (cond (t27_1.2 == 5)
 ((spec_l17Name ([9]:List Int)).bind fun t52_1 =>
 some (t27_1.1,t52_1))
 (cond (t27_1.2 == 6)
 ((spec_l17Name ([4,1,2,11]:List Int)).bind fun t56_1 =>
 some (t27_1.1,t56_1))
 ((spec_l2Draw t27_1.1).bind fun t58_1 =>
 some t58_1))))))))
def F_spec_l17Oid:Fn:=⟨[.ptr cL1Cur false,.val true cBridge false],[.val false cNN true],fun a=>spec_l17Oid a.1 a.2⟩
theorem m_spec_l17Oid:Meets Tryz.prog 228 F_spec_l17Oid:=mkM g_338 228 Tryz.f228 [] F_spec_l17Oid Tryz.func228 (by kernel_rfl) (by kernel_rfl) (by kernel_rfl)
def fns_228:List (FuncId × Fn):=(228,F_spec_l17Oid) :: fns_338
theorem g_228:Good Tryz.prog ⟨tis,fns_228,[],false⟩:=g_338.cons m_spec_l17Oid
def spec_l18Bind (p0:L1Cur) (i1:Bridge):Option (L1Cur × Bind) :=
 (spec_l1Below p0 (w64 ((i1.2.2.1.length:Int) + 1))).bind fun t12 =>
 (shl .i64 1 (IntKind.u64.wrap ((i1.2.2.1.length:Int)))).bind fun t18 =>
 (spec_l1Below t12.1 10).bind fun t21 =>
 cond (t21.2 == 0)
 ((spec_l17Name ([1,1]:List Int)).bind fun t25 =>
 (spec_l1Str t21.1 ([[110,101,119],[],[101,108,101,118,101,110,45,98,121,116,101]]:List (List UInt8))).bind fun t28 =>
 some (t28.1,(t25,4,0,t28.2,[])))
 (cond (t21.2 == 1)
 (cond (t21.2 == 1)
 ((spec_l17Name [2,2,w64 (1 + t12.2)]).bind fun t36 =>
 (spec_l1Int t21.1 ([1,5,1000,0,1001]:List Int)).bind fun t39 =>
 (spec_l3Int t39.2).bind fun t40 =>
 some (t39.1,(t36,t40.1,t40.2.1,t40.2.2.1,t40.2.2.2)))
 (cond (t21.2 == 3)
 ((spec_l17Name [2,4,w64 (1 + t12.2)]).bind fun t46 =>
 (spec_l1Below t21.1 4).bind fun t48 =>
 (spec_l3Int (w64 (1 + t48.2))).bind fun t50 =>
 some (t48.1,(t46,t50.1,t50.2.1,t50.2.2.1,t50.2.2.2)))
 (cond (t21.2 == 4)
 (cond (t21.2 == 4)
 ((spec_l1Below t21.1 4).bind fun t56 =>
 (spec_l17Name [3,1,w64 (1 + t56.2)]).bind fun t59 =>
 (spec_l1Int t56.1 ([4,4,6,1]:List Int)).bind fun t62 =>
 (spec_l3Int t62.2).bind fun t63 =>
 some (t62.1,(t59,t63.1,t63.2.1,t63.2.2.1,t63.2.2.2)))
 (cond (t21.2 == 6)
 (cond (t21.2 == 6)
 ((spec_l1Below t21.1 4).bind fun t69 =>
 (spec_l17Name [3,2,w64 (1 + t69.2)]).bind fun t72 =>
 (spec_l1Below t69.1 (w64 ((w64 (t18 - 1)) + 2))).bind fun t76 =>
 (spec_l3Int t76.2).bind fun t77 =>
 some (t76.1,(t72,t77.1,t77.2.1,t77.2.2.1,t77.2.2.2)))
 (cond (t21.2 == 8)
 ((spec_l1Below t21.1 4).bind fun t82 =>
 (spec_l17Name [3,3,w64 (1 + t82.2)]).bind fun t85 =>
 (spec_l1Below t82.1 (w64 ((w64 (t18 - 1)) + 1))).bind fun t89 =>
 (spec_l3Int t89.2).bind fun t90 =>
 some (t89.1,(t85,t90.1,t90.2.1,t90.2.2.1,t90.2.2.2)))
 ((spec_l17Oid t21.1 i1).bind fun t94 =>
 (spec_l3Draw t94.1).bind fun t96 =>
 some (t96.1,(t94.2,t96.2.1,t96.2.2.1,t96.2.2.2.1,t96.2.2.2.2)))))
 (cond (t21.2 == 7)
 ((spec_l1Below t21.1 4).bind fun t69_1 =>
 (spec_l17Name [3,2,w64 (1 + t69_1.2)]).bind fun t72_1 =>
 (spec_l1Below t69_1.1 (w64 ((w64 (t18 - 1)) + 2))).bind fun t76_1 =>
 (spec_l3Int t76_1.2).bind fun t77_1 =>
 some (t76_1.1,(t72_1,t77_1.1,t77_1.2.1,t77_1.2.2.1,t77_1.2.2.2)))
 (cond (t21.2 == 8)
 ((spec_l1Below t21.1 4).bind fun t82_1 =>
 (spec_l17Name [3,3,w64 (1 + t82_1.2)]).bind fun t85_1 =>
 (spec_l1Below t82_1.1 (w64 ((w64 (t18 - 1)) + 1))).bind fun t89_1 =>
 (spec_l3Int t89_1.2).bind fun t90_1 =>
 some (t89_1.1,(t85_1,t90_1.1,t90_1.2.1,t90_1.2.2.1,t90_1.2.2.2)))
 ((spec_l17Oid t21.1 i1).bind fun t94_1 =>
 (spec_l3Draw t94_1.1).bind fun t96_1 =>
 some (t96_1.1,(t94_1.2,t96_1.2.1,t96_1.2.2.1,t96_1.2.2.2.1,t96_1.2.2.2.2)))))))
 (cond (t21.2 == 5)
 ((spec_l1Below t21.1 4).bind fun t56_1 =>
 (spec_l17Name [3,1,w64 (1 + t56_1.2)]).bind fun t59_1 =>
 (spec_l1Int t56_1.1 ([4,4,6,1]:List Int)).bind fun t62_1 =>
 (spec_l3Int t62_1.2).bind fun t63_1 =>
 some (t62_1.1,(t59_1,t63_1.1,t63_1.2.1,t63_1.2.2.1,t63_1.2.2.2)))
 (cond (t21.2 == 6)
 (cond (t21.2 == 6)
 ((spec_l1Below t21.1 4).bind fun t69_2 =>
 (spec_l17Name [3,2,w64 (1 + t69_2.2)]).bind fun t72_2 =>
 (spec_l1Below t69_2.1 (w64 ((w64 (t18 - 1)) + 2))).bind fun t76_2 =>
 (spec_l3Int t76_2.2).bind fun t77_2 =>
 some (t76_2.1,(t72_2,t77_2.1,t77_2.2.1,t77_2.2.2.1,t77_2.2.2.2)))
 (cond (t21.2 == 8)
 ((spec_l1Below t21.1 4).bind fun t82_2 =>
 (spec_l17Name [3,3,w64 (1 + t82_2.2)]).bind fun t85_2 =>
 (spec_l1Below t82_2.1 (w64 ((w64 (t18 - 1)) + 1))).bind fun t89_2 =>
 (spec_l3Int t89_2.2).bind fun t90_2 =>
 some (t89_2.1,(t85_2,t90_2.1,t90_2.2.1,t90_2.2.2.1,t90_2.2.2.2)))
 ((spec_l17Oid t21.1 i1).bind fun t94_2 =>
 (spec_l3Draw t94_2.1).bind fun t96_2 =>
 some (t96_2.1,(t94_2.2,t96_2.2.1,t96_2.2.2.1,t96_2.2.2.2.1,t96_2.2.2.2.2)))))
 (cond (t21.2 == 7)
 ((spec_l1Below t21.1 4).bind fun t69_3 =>
 (spec_l17Name [3,2,w64 (1 + t69_3.2)]).bind fun t72_3 =>
 (spec_l1Below t69_3.1 (w64 ((w64 (t18 - 1)) + 2))).bind fun t76_3 =>
 (spec_l3Int t76_3.2).bind fun t77_3 =>
 some (t76_3.1,(t72_3,t77_3.1,t77_3.2.1,t77_3.2.2.1,t77_3.2.2.2)))
 (cond (t21.2 == 8)
 ((spec_l1Below t21.1 4).bind fun t82_3 =>
 (spec_l17Name [3,3,w64 (1 + t82_3.2)]).bind fun t85_3 =>
 (spec_l1Below t82_3.1 (w64 ((w64 (t18 - 1)) + 1))).bind fun t89_3 =>
 (spec_l3Int t89_3.2).bind fun t90_3 =>
 some (t89_3.1,(t85_3,t90_3.1,t90_3.2.1,t90_3.2.2.1,t90_3.2.2.2)))
 ((spec_l17Oid t21.1 i1).bind fun t94_3 =>
 (spec_l3Draw t94_3.1).bind fun t96_3 =>
 some (t96_3.1,(t94_3.2,t96_3.2.1,t96_3.2.2.1,t96_3.2.2.2.1,t96_3.2.2.2.2))))))))))
 (cond (t21.2 == 2)
 ((spec_l17Name [2,2,w64 (1 + t12.2)]).bind fun t36_1 =>
 (spec_l1Int t21.1 ([1,5,1000,0,1001]:List Int)).bind fun t39_1 =>
 (spec_l3Int t39_1.2).bind fun t40_1 =>
 some (t39_1.1,(t36_1,t40_1.1,t40_1.2.1,t40_1.2.2.1,t40_1.2.2.2)))
 (cond (t21.2 == 3)
 ((spec_l17Name [2,4,w64 (1 + t12.2)]).bind fun t46_1 =>
 (spec_l1Below t21.1 4).bind fun t48_1 =>
 (spec_l3Int (w64 (1 + t48_1.2))).bind fun t50_1 =>
 some (t48_1.1,(t46_1,t50_1.1,t50_1.2.1,t50_1.2.2.1,t50_1.2.2.2)))
 (cond (t21.2 == 4)
 (cond (t21.2 == 4)
 ((spec_l1Below t21.1 4).bind fun t56_2 =>
 (spec_l17Name [3,1,w64 (1 + t56_2.2)]).bind fun t59_2 =>
 (spec_l1Int t56_2.1 ([4,4,6,1]:List Int)).bind fun t62_2 =>
 (spec_l3Int t62_2.2).bind fun t63_2 =>
 some (t62_2.1,(t59_2,t63_2.1,t63_2.2.1,t63_2.2.2.1,t63_2.2.2.2)))
 (cond (t21.2 == 6)
 (cond (t21.2 == 6)
 ((spec_l1Below t21.1 4).bind fun t69_4 =>
 (spec_l17Name [3,2,w64 (1 + t69_4.2)]).bind fun t72_4 =>
 (spec_l1Below t69_4.1 (w64 ((w64 (t18 - 1)) + 2))).bind fun t76_4 =>
 (spec_l3Int t76_4.2).bind fun t77_4 =>
 some (t76_4.1,(t72_4,t77_4.1,t77_4.2.1,t77_4.2.2.1,t77_4.2.2.2)))
 (cond (t21.2 == 8)
 ((spec_l1Below t21.1 4).bind fun t82_4 =>
 (spec_l17Name [3,3,w64 (1 + t82_4.2)]).bind fun t85_4 =>
 (spec_l1Below t82_4.1 (w64 ((w64 (t18 - 1)) + 1))).bind fun t89_4 =>
 (spec_l3Int t89_4.2).bind fun t90_4 =>
 some (t89_4.1,(t85_4,t90_4.1,t90_4.2.1,t90_4.2.2.1,t90_4.2.2.2)))
 ((spec_l17Oid t21.1 i1).bind fun t94_4 =>
 (spec_l3Draw t94_4.1).bind fun t96_4 =>
 some (t96_4.1,(t94_4.2,t96_4.2.1,t96_4.2.2.1,t96_4.2.2.2.1,t96_4.2.2.2.2)))))
 (cond (t21.2 == 7)
 ((spec_l1Below t21.1 4).bind fun t69_5 =>
 (spec_l17Name [3,2,w64 (1 + t69_5.2)]).bind fun t72_5 =>
 (spec_l1Below t69_5.1 (w64 ((w64 (t18 - 1)) + 2))).bind fun t76_5 =>
 (spec_l3Int t76_5.2).bind fun t77_5 =>
 some (t76_5.1,(t72_5,t77_5.1,t77_5.2.1,t77_5.2.2.1,t77_5.2.2.2)))
 (cond (t21.2 == 8)
 ((spec_l1Below t21.1 4).bind fun t82_5 =>
 (spec_l17Name [3,3,w64 (1 + t82_5.2)]).bind fun t85_5 =>
 (spec_l1Below t82_5.1 (w64 ((w64 (t18 - 1)) + 1))).bind fun t89_5 =>
 (spec_l3Int t89_5.2).bind fun t90_5 =>
 some (t89_5.1,(t85_5,t90_5.1,t90_5.2.1,t90_5.2.2.1,t90_5.2.2.2)))
 ((spec_l17Oid t21.1 i1).bind fun t94_5 =>
 (spec_l3Draw t94_5.1).bind fun t96_5 =>
 some (t96_5.1,(t94_5.2,t96_5.2.1,t96_5.2.2.1,t96_5.2.2.2.1,t96_5.2.2.2.2)))))))
 (cond (t21.2 == 5)
 ((spec_l1Below t21.1 4).bind fun t56_3 =>
 (spec_l17Name [3,1,w64 (1 + t56_3.2)]).bind fun t59_3 =>
 (spec_l1Int t56_3.1 ([4,4,6,1]:List Int)).bind fun t62_3 =>
 (spec_l3Int t62_3.2).bind fun t63_3 =>
 some (t62_3.1,(t59_3,t63_3.1,t63_3.2.1,t63_3.2.2.1,t63_3.2.2.2)))
 (cond (t21.2 == 6)
 (cond (t21.2 == 6)
 ((spec_l1Below t21.1 4).bind fun t69_6 =>
 (spec_l17Name [3,2,w64 (1 + t69_6.2)]).bind fun t72_6 =>
 (spec_l1Below t69_6.1 (w64 ((w64 (t18 - 1)) + 2))).bind fun t76_6 =>
 (spec_l3Int t76_6.2).bind fun t77_6 =>
 some (t76_6.1,(t72_6,t77_6.1,t77_6.2.1,t77_6.2.2.1,t77_6.2.2.2)))
 (cond (t21.2 == 8)
 ((spec_l1Below t21.1 4).bind fun t82_6 =>
 (spec_l17Name [3,3,w64 (1 + t82_6.2)]).bind fun t85_6 =>
 (spec_l1Below t82_6.1 (w64 ((w64 (t18 - 1)) + 1))).bind fun t89_6 =>
 (spec_l3Int t89_6.2).bind fun t90_6 =>
 some (t89_6.1,(t85_6,t90_6.1,t90_6.2.1,t90_6.2.2.1,t90_6.2.2.2)))
 ((spec_l17Oid t21.1 i1).bind fun t94_6 =>
 (spec_l3Draw t94_6.1).bind fun t96_6 =>
 some (t96_6.1,(t94_6.2,t96_6.2.1,t96_6.2.2.1,t96_6.2.2.2.1,t96_6.2.2.2.2)))))
 (cond (t21.2 == 7)
 ((spec_l1Below t21.1 4).bind fun t69_7 =>
 (spec_l17Name [3,2,w64 (1 + t69_7.2)]).bind fun t72_7 =>
 (spec_l1Below t69_7.1 (w64 ((w64 (t18 - 1)) + 2))).bind fun t76_7 =>
 (spec_l3Int t76_7.2).bind fun t77_7 =>
 some (t76_7.1,(t72_7,t77_7.1,t77_7.2.1,t77_7.2.2.1,t77_7.2.2.2)))
 (cond (t21.2 == 8)
 ((spec_l1Below t21.1 4).bind fun t82_7 =>
 (spec_l17Name [3,3,w64 (1 + t82_7.2)]).bind fun t85_7 =>
 (spec_l1Below t82_7.1 (w64 ((w64 (t18 - 1)) + 1))).bind fun t89_7 =>
 (spec_l3Int t89_7.2).bind fun t90_7 =>
 some (t89_7.1,(t85_7,t90_7.1,t90_7.2.1,t90_7.2.2.1,t90_7.2.2.2)))
 ((spec_l17Oid t21.1 i1).bind fun t94_7 =>
 (spec_l3Draw t94_7.1).bind fun t96_7 =>
 some (t96_7.1,(t94_7.2,t96_7.2.1,t96_7.2.2.1,t96_7.2.2.2.1,t96_7.2.2.2.2)))))))))))
def F_spec_l18Bind:Fn:=⟨[.ptr cL1Cur false,.val true cBridge false],[.val true cBind true],fun a=>spec_l18Bind a.1 a.2⟩
theorem m_spec_l18Bind:Meets Tryz.prog 337 F_spec_l18Bind:=mkM g_228 337 Tryz.f337 [] F_spec_l18Bind Tryz.func337 (by kernel_rfl) (by kernel_rfl) (by kernel_rfl)
def fns_337:List (FuncId × Fn):=(337,F_spec_l18Bind) :: fns_228
theorem g_337:Good Tryz.prog ⟨tis,fns_337,[],false⟩:=g_228.cons m_spec_l18Bind
def spec_l18Binds_l0 (b1:Bridge) (i6:Int) (b0:List Int) (b1_1:Int) (b2:Int) (out5:List Bind):Option ((Int × List Int × Int × Int × List Bind) ⊕ (List Int × Int × Int × List Bind)) :=
 cond (decide (i6 > 0))
 ((spec_l18Bind (b0,b1_1,b2) b1).bind fun t17 =>
 (app out5 [t17.2]).bind fun zs19 =>
 some (.inl (w64 (i6 - 1),t17.1.1,t17.1.2.1,t17.1.2.2,zs19)))
 (some (.inr (b0,b1_1,b2,out5)))
def spec_l18Binds (c0:L1Cur) (b1:Bridge):Option (L1Cur × List Bind) :=
 (spec_l1Below c0 4).bind fun t9 =>
 (loop (fun z=>spec_l18Binds_l0 b1 z.1 z.2.1 z.2.2.1 z.2.2.2.1 z.2.2.2.2) (t9.2,t9.1.1,t9.1.2.1,t9.1.2.2,([]:List Bind))).bind fun d =>
 some ((d.1,d.2.1,d.2.2.1),d.2.2.2)
def F_spec_l18Binds:Fn:=⟨[.ptr cL1Cur false,.val true cBridge false],[.val false (.one (.sl cBind)) true],fun a=>spec_l18Binds a.1 a.2⟩
def a_spec_l18Binds:List (Nat × LoopAnn):=[(0,⟨⟨[(5,false,[.own 1000000000]),(6,false,[dI])],[(1,.box [.dat (.sl (.one (.int .u8))),dI,dI]),(1000000000,.root cBind true)]⟩,
 ⟨[(5,false,[.own 1000000300])],[(1,.box [.dat (.sl (.one (.int .u8))),dI,dI]),(1000000300,.root cBind true)]⟩,none⟩)]
theorem m_spec_l18Binds:Meets Tryz.prog 227 F_spec_l18Binds:=mkM g_337 227 Tryz.f227 a_spec_l18Binds F_spec_l18Binds Tryz.func227 (by kernel_rfl) (by kernel_rfl) (by kernel_rfl)
def fns_227:List (FuncId × Fn):=(227,F_spec_l18Binds) :: fns_337
theorem g_227:Good Tryz.prog ⟨tis,fns_227,[],false⟩:=g_337.cons m_spec_l18Binds
def spec_l19Pdu_l0 (b1:Bridge) (i6:Int) (b0:List Int) (b1_1:Int) (b2:Int) (b0_1:Int) (b1_2:Int) (b2_1:Int) (b3:Int) (b4:List Bind):Option ((Int × List Int × Int × Int × Int × Int × Int × Int × List Bind) ⊕ (List Int × Int × Int × Int × Int × Int × Int × List Bind)) :=
 cond (decide (i6 > 0))
 ((spec_l17Oid (b0,b1_1,b2) b1).bind fun t31 =>
 (app b4 ([(t31.2,5,0,[],[])])).bind fun zs35 =>
 some (.inl (w64 (i6 - 1),t31.1.1,t31.1.2.1,t31.1.2.2,b0_1,b1_2,b2_1,b3,zs35)))
 (some (.inr (b0,b1_1,b2,b0_1,b1_2,b2_1,b3,b4)))
def spec_l19Pdu (c0:L1Cur) (b1:Bridge):Option (L1Cur × Pdu) :=
 (spec_l1Int c0 ([160,161,163,163,165]:List Int)).bind fun t9 =>
 (spec_l1Below t9.1 100).bind fun t11 =>
 cond (t9.2 == 163)
 ((spec_l18Binds t11.1 b1).bind fun t18 =>
 some (t18.1,(t9.2,t11.2,0,0,t18.2)))
 ((spec_l1Below t11.1 4).bind fun t22 =>
 (loop (fun z=>spec_l19Pdu_l0 b1 z.1 z.2.1 z.2.2.1 z.2.2.2.1 z.2.2.2.2.1 z.2.2.2.2.2.1 z.2.2.2.2.2.2.1 z.2.2.2.2.2.2.2.1 z.2.2.2.2.2.2.2.2) (t22.2,t22.1.1,t22.1.2.1,t22.1.2.2,t9.2,t11.2,0,0,[])).bind fun d =>
 cond (d.2.2.2.1 == 165)
 ((spec_l1Below (d.1,d.2.1,d.2.2.1) 3).bind fun t41 =>
 (spec_l1Below t41.1 5).bind fun t44 =>
 some (t44.1,(d.2.2.2.1,d.2.2.2.2.1,t41.2,t44.2,d.2.2.2.2.2.2.2)))
 (some ((d.1,d.2.1,d.2.2.1),d.2.2.2)))
def F_spec_l19Pdu:Fn:=⟨[.ptr cL1Cur false,.val true cBridge false],[.val true cPdu true],fun a=>spec_l19Pdu a.1 a.2⟩
def a_spec_l19Pdu:List (Nat × LoopAnn):=[(0,⟨⟨[(6,false,[dI])],[(1,.box [.dat (.sl (.one (.int .u8))),dI,dI]),(269312,.box [dI,dI,dI,dI,.own 1000000000]),(1000000000,.root cBind true)]⟩,
 ⟨[],[(1,.box [.dat (.sl (.one (.int .u8))),dI,dI]),(269312,.box [dI,dI,dI,dI,.own 1000000300]),(1000000300,.root cBind true)]⟩,none⟩)]
theorem m_spec_l19Pdu:Meets Tryz.prog 116 F_spec_l19Pdu:=mkM g_227 116 Tryz.f116 a_spec_l19Pdu F_spec_l19Pdu Tryz.func116 (by kernel_rfl) (by kernel_rfl) (by kernel_rfl)
def fns_116:List (FuncId × Fn):=(116,F_spec_l19Pdu) :: fns_227
theorem g_116:Good Tryz.prog ⟨tis,fns_116,[],false⟩:=g_227.cons m_spec_l19Pdu
def spec_l4Draw_l0 (i4:Int) (b0:List Int) (b1:Int) (b2:Int) (b0_1:Int) (b1_1:Int) (b2_1:Int) (b3:Int) (b4:List Bind):Option ((Int × List Int × Int × Int × Int × Int × Int × Int × List Bind) ⊕ (List Int × Int × Int × Int × Int × Int × Int × List Bind)) :=
 cond (decide (i4 > 0))
 ((spec_l2Draw (b0,b1,b2)).bind fun t35 =>
 (spec_l3Draw t35.1).bind fun t37 =>
 (app b4 [(t35.2,t37.2.1,t37.2.2.1,t37.2.2.2.1,t37.2.2.2.2)]).bind fun zs40 =>
 some (.inl (w64 (i4 - 1),t37.1.1,t37.1.2.1,t37.1.2.2,b0_1,b1_1,b2_1,b3,zs40)))
 (some (.inr (b0,b1,b2,b0_1,b1_1,b2_1,b3,b4)))
def spec_l4Draw_l0_1 (i4_1:Int) (b0_4:List Int) (b1_4:Int) (b2_4:Int) (b0_5:Int) (b1_5:Int) (b2_5:Int) (b3_2:Int) (b4_2:List Bind):Option ((Int × List Int × Int × Int × Int × Int × Int × Int × List Bind) ⊕ (List Int × Int × Int × Int × Int × Int × Int × List Bind)) :=
 cond (decide (i4_1 > 0))
 ((spec_l2Draw (b0_4,b1_4,b2_4)).bind fun t35_1 =>
 (spec_l3Draw t35_1.1).bind fun t37_1 =>
 (app b4_2 [(t35_1.2,t37_1.2.1,t37_1.2.2.1,t37_1.2.2.2.1,t37_1.2.2.2.2)]).bind fun zs40_1 =>
 some (.inl (w64 (i4_1 - 1),t37_1.1.1,t37_1.1.2.1,t37_1.1.2.2,b0_5,b1_5,b2_5,b3_2,zs40_1)))
 (some (.inr (b0_4,b1_4,b2_4,b0_5,b1_5,b2_5,b3_2,b4_2)))
def spec_l4Draw (c0:L1Cur):Option (L1Cur × Pdu) :=
 (spec_l1Int c0 ([160,161,162,163,165]:List Int)).bind fun t7 =>
 (spec_l1Num t7.1).bind fun t9 =>
 (spec_l1Clip t9.2).bind fun t10 =>
 (cond (t7.2 == 162) (some true) (some (t7.2 == 165))).bind fun t19 =>
 cond t19
 ((spec_l1Below t9.1 4).bind fun t21 =>
 (spec_l1Below t21.1 5).bind fun t24 =>
 (spec_l1Below t24.1 4).bind fun t27 =>
 (loop (fun z=>spec_l4Draw_l0 z.1 z.2.1 z.2.2.1 z.2.2.2.1 z.2.2.2.2.1 z.2.2.2.2.2.1 z.2.2.2.2.2.2.1 z.2.2.2.2.2.2.2.1 z.2.2.2.2.2.2.2.2) (t27.2,t27.1.1,t27.1.2.1,t27.1.2.2,t7.2,t10,t21.2,t24.2,[])).bind fun d =>
 some ((d.1,d.2.1,d.2.2.1),d.2.2.2))
 ((spec_l1Below t9.1 4).bind fun t27_1 =>
 (loop (fun z=>spec_l4Draw_l0_1 z.1 z.2.1 z.2.2.1 z.2.2.2.1 z.2.2.2.2.1 z.2.2.2.2.2.1 z.2.2.2.2.2.2.1 z.2.2.2.2.2.2.2.1 z.2.2.2.2.2.2.2.2) (t27_1.2,t27_1.1.1,t27_1.1.2.1,t27_1.1.2.2,t7.2,t10,0,0,[])).bind fun d_1 =>
 some ((d_1.1,d_1.2.1,d_1.2.2.1),d_1.2.2.2))
def F_spec_l4Draw:Fn:=⟨[.ptr cL1Cur false],[.val true cPdu true],fun a=>spec_l4Draw a⟩
def a_spec_l4Draw:List (Nat × LoopAnn):=[(0,⟨⟨[(4,false,[dI])],[(1,.box [.dat (.sl (.one (.int .u8))),dI,dI]),(270336,.box [dI,dI,dI,dI,.own 1000000000]),(1000000000,.root cBind true)]⟩,
 ⟨[],[(1,.box [.dat (.sl (.one (.int .u8))),dI,dI]),(270336,.box [dI,dI,dI,dI,.own 1000000300]),(1000000300,.root cBind true)]⟩,none⟩)]
theorem m_spec_l4Draw:Meets Tryz.prog 179 F_spec_l4Draw:=mkM g_116 179 Tryz.f179 a_spec_l4Draw F_spec_l4Draw Tryz.func179 (by kernel_rfl) (by kernel_rfl) (by kernel_rfl)
def fns_179:List (FuncId × Fn):=(179,F_spec_l4Draw) :: fns_116
theorem g_179:Good Tryz.prog ⟨tis,fns_179,[],false⟩:=g_116.cons m_spec_l4Draw
def spec_l1Bend (c0:L1Cur) (b1:List Int):Option (L1Cur × List Int) :=
 cond ((b1.length:Int) == 0)
 (some (c0,b1))
 ((spec_l1Below c0 5).bind fun t10 =>
 cond (t10.2 == 0)
 ((spec_l1Below t10.1 (b1.length:Int)).bind fun t17 =>
 (spec_l1Int t17.1 ([0,1,2,4,5,6,48,127,128,129,160,255]:List Int)).bind fun t20 =>
 (ix b1.length t17.2).bind fun j22 =>
 (b1[j22]?).bind fun x =>
 some (t20.1,b1.set j22 (IntKind.u8.wrap (t20.2))))
 (cond (t10.2 == 1)
 ((app b1 ([3]:List Int)).bind fun zs27 =>
 some (t10.1,zs27))
 (cond (t10.2 == 2)
 ((spec_l1Below t10.1 (b1.length:Int)).bind fun t34 =>
 (cutIx b1.length 0 t34.2).bind fun p =>
 some (t34.1,(b1.take p.2).drop p.1))
 (some (t10.1,b1)))))
def F_spec_l1Bend:Fn:=⟨[.ptr cL1Cur false,.val false cNY true],[.val false cNY false],fun a=>spec_l1Bend a.1 a.2⟩
theorem m_spec_l1Bend:Meets Tryz.prog 182 F_spec_l1Bend:=mkM g_179 182 Tryz.f182 [] F_spec_l1Bend Tryz.func182 (by kernel_rfl) (by kernel_rfl) (by kernel_rfl)
def fns_182:List (FuncId × Fn):=(182,F_spec_l1Bend) :: fns_179
theorem g_182:Good Tryz.prog ⟨tis,fns_182,[],false⟩:=g_179.cons m_spec_l1Bend
def spec_PutTlv (b0:List Int) (tag1:Int) (body2:List Int):Option (List Int) :=
 (app ([]:List Int) b0).bind fun zs10 =>
 (spec_l1In tag1 0 255).bind fun t12 =>
 (cond (!t12) (some true) (some (decide ((body2.length:Int) > 250)))).bind fun t18 =>
 cond t18
 (some zs10)
 ((app zs10 [IntKind.u8.wrap (tag1)]).bind fun zs24 =>
 cond (decide ((body2.length:Int) > 127))
 ((app zs24 ([129]:List Int)).bind fun zs30 =>
 (app zs30 [IntKind.u8.wrap ((body2.length:Int))]).bind fun zs36 =>
 (app zs36 body2).bind fun zs38 =>
 some zs38)
 ((app zs24 [IntKind.u8.wrap ((body2.length:Int))]).bind fun zs36_1 =>
 (app zs36_1 body2).bind fun zs38_1 =>
 some zs38_1))
def F_spec_PutTlv:Fn:=⟨[.val false cNY false,.val false cNI false,.val false cNY false],[.val false cNY true],fun a=>spec_PutTlv a.1 a.2.1 a.2.2⟩
theorem m_spec_PutTlv:Meets Tryz.prog 180 F_spec_PutTlv:=mkM g_182 180 Tryz.f180 [] F_spec_PutTlv Tryz.func180 (by kernel_rfl) (by kernel_rfl) (by kernel_rfl)
def fns_180:List (FuncId × Fn):=(180,F_spec_PutTlv) :: fns_182
theorem g_180:Good Tryz.prog ⟨tis,fns_180,[],false⟩:=g_182.cons m_spec_PutTlv
def spec_OidOk_l0 (o0:List Int) (i3:Int):Option (Int ⊕ (Unit ⊕ Bool)) :=
 cond (decide (i3 < (o0.length:Int)))
 ((at? o0 i3).bind fun x12 =>
 (spec_l1In x12 0 100000).bind fun t14 =>
 cond (!t14) (some (.inr (.inr false))) (some (.inl (w64 (i3 + 1)))))
 (some (.inr (.inl ())))
def spec_OidOk (o0:List Int):Option Bool :=
 (loop (fun z=>spec_OidOk_l0 o0 z) 0).bind (Sum.elim (fun d =>
 (spec_l1In (o0.length:Int) 1 10).bind fun t18 =>
 some t18) (fun r=>some r))
def F_spec_OidOk:Fn:=⟨[.val false cNN false],[.val false cNB true],fun a=>spec_OidOk a⟩
def a_spec_OidOk:List (Nat × LoopAnn):=[(0,⟨⟨[(3,false,[dI])],[]⟩,
 ⟨[],[]⟩,some ⟨[(2,false,[dB])],[]⟩⟩)]
theorem m_spec_OidOk:Meets Tryz.prog 348 F_spec_OidOk:=mkM g_180 348 Tryz.f348 a_spec_OidOk F_spec_OidOk Tryz.func348 (by kernel_rfl) (by kernel_rfl) (by kernel_rfl)
def fns_348:List (FuncId × Fn):=(348,F_spec_OidOk) :: fns_180
theorem g_348:Good Tryz.prog ⟨tis,fns_348,[],false⟩:=g_180.cons m_spec_OidOk
def spec_ValOk (p0:Val):Option Bool :=
 cond (p0.1 == 5)
 (cond (p0.1 == 5)
 ((cond (p0.2.1 == 0) (some (p0.2.2.1 == [])) (some false)).bind fun t16 =>
 (cond t16 (some ((p0.2.2.2.length:Int) == 0)) (some false)).bind fun t22 =>
 some t22)
 (cond (p0.1 == 2)
 ((spec_l1Clip p0.2.1).bind fun t27 =>
 (cond (t27 == p0.2.1) (some (p0.2.2.1 == [])) (some false)).bind fun t35 =>
 (cond t35 (some ((p0.2.2.2.length:Int) == 0)) (some false)).bind fun t41 =>
 some t41)
 (cond (p0.1 == 4)
 ((cond (decide ((p0.2.2.1.length:Int) ≤ 20)) (some (p0.2.1 == 0)) (some false)).bind fun t52 =>
 (cond t52 (some ((p0.2.2.2.length:Int) == 0)) (some false)).bind fun t58 =>
 some t58)
 (cond (p0.1 == 6)
 ((spec_OidOk p0.2.2.2).bind fun t63 =>
 (cond t63 (some (p0.2.1 == 0)) (some false)).bind fun t68 =>
 (cond t68 (some (p0.2.2.1 == [])) (some false)).bind fun t73 =>
 some t73)
 (some false)))))
 (cond (p0.1 == 128)
 (cond (p0.1 == 128)
 ((cond (p0.2.1 == 0) (some (p0.2.2.1 == [])) (some false)).bind fun t16_1 =>
 (cond t16_1 (some ((p0.2.2.2.length:Int) == 0)) (some false)).bind fun t22_1 =>
 some t22_1)
 (cond (p0.1 == 2)
 ((spec_l1Clip p0.2.1).bind fun t27_1 =>
 (cond (t27_1 == p0.2.1) (some (p0.2.2.1 == [])) (some false)).bind fun t35_1 =>
 (cond t35_1 (some ((p0.2.2.2.length:Int) == 0)) (some false)).bind fun t41_1 =>
 some t41_1)
 (cond (p0.1 == 4)
 ((cond (decide ((p0.2.2.1.length:Int) ≤ 20)) (some (p0.2.1 == 0)) (some false)).bind fun t52_1 =>
 (cond t52_1 (some ((p0.2.2.2.length:Int) == 0)) (some false)).bind fun t58_1 =>
 some t58_1)
 (cond (p0.1 == 6)
 ((spec_OidOk p0.2.2.2).bind fun t63_1 =>
 (cond t63_1 (some (p0.2.1 == 0)) (some false)).bind fun t68_1 =>
 (cond t68_1 (some (p0.2.2.1 == [])) (some false)).bind fun t73_1 =>
 some t73_1)
 (some false)))))
 (cond (p0.1 == 130)
 ((cond (p0.2.1 == 0) (some (p0.2.2.1 == [])) (some false)).bind fun t16_2 =>
 (cond t16_2 (some ((p0.2.2.2.length:Int) == 0)) (some false)).bind fun t22_2 =>
 some t22_2)
 (cond (p0.1 == 2)
 ((spec_l1Clip p0.2.1).bind fun t27_2 =>
 (cond (t27_2 == p0.2.1) (some (p0.2.2.1 == [])) (some false)).bind fun t35_2 =>
 (cond t35_2 (some ((p0.2.2.2.length:Int) == 0)) (some false)).bind fun t41_2 =>
 some t41_2)
 (cond (p0.1 == 4)
 ((cond (decide ((p0.2.2.1.length:Int) ≤ 20)) (some (p0.2.1 == 0)) (some false)).bind fun t52_2 =>
 (cond t52_2 (some ((p0.2.2.2.length:Int) == 0)) (some false)).bind fun t58_2 =>
 some t58_2)
 (cond (p0.1 == 6)
 ((spec_OidOk p0.2.2.2).bind fun t63_2 =>
 (cond t63_2 (some (p0.2.1 == 0)) (some false)).bind fun t68_2 =>
 (cond t68_2 (some (p0.2.2.1 == [])) (some false)).bind fun t73_2 =>
 some t73_2)
 (some false))))))
def F_spec_ValOk:Fn:=⟨[.val true cVal false],[.val false cNB true],fun a=>spec_ValOk a⟩
theorem m_spec_ValOk:Meets Tryz.prog 349 F_spec_ValOk:=mkM g_348 349 Tryz.f349 [] F_spec_ValOk Tryz.func349 (by kernel_rfl) (by kernel_rfl) (by kernel_rfl)
def fns_349:List (FuncId × Fn):=(349,F_spec_ValOk) :: fns_348
theorem g_349:Good Tryz.prog ⟨tis,fns_349,[],false⟩:=g_348.cons m_spec_ValOk
def spec_l4Kind (k0:Int):Option Bool :=
 (cond (k0 == 160) (some true) (some (k0 == 161))).bind fun t8 =>
 (cond t8 (some true) (some (k0 == 162))).bind fun t12 =>
 (cond t12 (some true) (some (k0 == 163))).bind fun t16 =>
 (cond t16 (some true) (some (k0 == 165))).bind fun t20 =>
 some t20
def F_spec_l4Kind:Fn:=⟨[.val false cNI false],[.val false cNB true],fun a=>spec_l4Kind a⟩
theorem m_spec_l4Kind:Meets Tryz.prog 350 F_spec_l4Kind:=mkM g_349 350 Tryz.f350 [] F_spec_l4Kind Tryz.func350 (by kernel_rfl) (by kernel_rfl) (by kernel_rfl)
def fns_350:List (FuncId × Fn):=(350,F_spec_l4Kind) :: fns_349
theorem g_350:Good Tryz.prog ⟨tis,fns_350,[],false⟩:=g_349.cons m_spec_l4Kind
def spec_PduOk_l0 (p0:Pdu) (t3:Int):Option (Int ⊕ (Unit ⊕ Bool)) :=
 cond (decide (t3 < (p0.2.2.2.2.length:Int)))
 ((at? p0.2.2.2.2 t3).bind fun x14 =>
 (spec_OidOk x14.1).bind fun t17 =>
 (cond (!t17)
 (some true)
 ((at? p0.2.2.2.2 t3).bind fun x23 =>
 (spec_ValOk x23.2).bind fun t26 =>
 some (!t26))).bind fun t28 =>
 cond t28 (some (.inr (.inr false))) (some (.inl (w64 (t3 + 1)))))
 (some (.inr (.inl ())))
def spec_PduOk (p0:Pdu):Option Bool :=
 (loop (fun z=>spec_PduOk_l0 p0 z) 0).bind (Sum.elim (fun d =>
 (cond (p0.1 != 162) (some (p0.1 != 165)) (some false)).bind fun t36 =>
 (cond t36
 ((cond (p0.2.2.1 != 0) (some true) (some (p0.2.2.2.1 != 0))).bind fun t45 =>
 some t45)
 (some false)).bind fun t46 =>
 cond t46
 (some false)
 ((spec_l4Kind p0.1).bind fun t49 =>
 (cond t49
 ((spec_l1Clip p0.2.1).bind fun t53 =>
 some (t53 == p0.2.1))
 (some false)).bind fun t57 =>
 (cond t57
 ((spec_l1In p0.2.2.1 0 1000).bind fun t61 =>
 some t61)
 (some false)).bind fun t62 =>
 (cond t62
 ((spec_l1In p0.2.2.2.1 0 1000).bind fun t66 =>
 some t66)
 (some false)).bind fun t67 =>
 (cond t67 (some (decide ((p0.2.2.2.2.length:Int) ≤ 10))) (some false)).bind fun t73 =>
 some t73)) (fun r=>some r))
def F_spec_PduOk:Fn:=⟨[.val true cPdu false],[.val false cNB true],fun a=>spec_PduOk a⟩
def a_spec_PduOk:List (Nat × LoopAnn):=[(0,⟨⟨(3,false,[dI]) :: us 20 8 [],[]⟩,
 ⟨[],[]⟩,some ⟨[(2,false,[dB])],[]⟩⟩)]
theorem m_spec_PduOk:Meets Tryz.prog 237 F_spec_PduOk:=mkM g_350 237 Tryz.f237 a_spec_PduOk F_spec_PduOk Tryz.func237 (by kernel_rfl) (by kernel_rfl) (by kernel_rfl)
def fns_237:List (FuncId × Fn):=(237,F_spec_PduOk) :: fns_350
theorem g_237:Good Tryz.prog ⟨tis,fns_237,[],false⟩:=g_350.cons m_spec_PduOk
def spec_PutInt_l0 (n0_1:Int) (out3:List Int):Option ((Int × List Int) ⊕ (List Int)) :=
 (cond (decide (n0_1 < (-128))) (some true) (some (decide (n0_1 > 127)))).bind fun t14 =>
 cond t14
 ((app [IntKind.u8.wrap (n0_1.fdiv (2 ^ 8))] out3).bind fun zs21 =>
 some (.inl (n0_1.fdiv (2 ^ 8),zs21)))
 (some (.inr out3))
def spec_PutInt (n0:Int):Option (List Int) :=
 (spec_l1Clip n0).bind fun t5 =>
 (loop (fun z=>spec_PutInt_l0 z.1 z.2) (t5,[IntKind.u8.wrap (t5)])).bind fun d =>
 some d
def F_spec_PutInt:Fn:=⟨[.val false cNI false],[.val false cNY true],fun a=>spec_PutInt a⟩
def a_spec_PutInt:List (Nat × LoopAnn):=[(0,⟨⟨[(0,false,[dI]),(3,false,[.own 1000000000]),(12,false,[.undef]),(13,false,[.undef])],[(1000000000,.root (.one (.int .u8)) true)]⟩,
 ⟨[(3,false,[.own 1000000300])],[(1000000300,.root (.one (.int .u8)) true)]⟩,none⟩)]
theorem m_spec_PutInt:Meets Tryz.prog 181 F_spec_PutInt:=mkM g_237 181 Tryz.f181 a_spec_PutInt F_spec_PutInt Tryz.func181 (by kernel_rfl) (by kernel_rfl) (by kernel_rfl)
def fns_181:List (FuncId × Fn):=(181,F_spec_PutInt) :: fns_237
theorem g_181:Good Tryz.prog ⟨tis,fns_181,[],false⟩:=g_237.cons m_spec_PutInt
def spec_l2Group_l0 (n0_1:Int) (out3:List Int):Option ((Int × List Int) ⊕ (List Int)) :=
 cond (decide (n0_1 > 127))
 ((app [IntKind.u8.wrap (bor .i64 (band .i64 (n0_1.fdiv (2 ^ 7)) 127) 128)] out3).bind fun zs18 =>
 some (.inl (n0_1.fdiv (2 ^ 7),zs18)))
 (some (.inr out3))
def spec_l2Group (n0:Int):Option (List Int) :=
 (loop (fun z=>spec_l2Group_l0 z.1 z.2) (n0,[IntKind.u8.wrap (band .i64 n0 127)])).bind fun d =>
 some d
def F_spec_l2Group:Fn:=⟨[.val false cNI false],[.val false cNY true],fun a=>spec_l2Group a⟩
def a_spec_l2Group:List (Nat × LoopAnn):=[(0,⟨⟨[(0,false,[dI]),(3,false,[.own 1000000000])],[(1000000000,.root (.one (.int .u8)) true)]⟩,
 ⟨[(3,false,[.own 1000000300])],[(1000000300,.root (.one (.int .u8)) true)]⟩,none⟩)]
theorem m_spec_l2Group:Meets Tryz.prog 414 F_spec_l2Group:=mkM g_181 414 Tryz.f414 a_spec_l2Group F_spec_l2Group Tryz.func414 (by kernel_rfl) (by kernel_rfl) (by kernel_rfl)
def fns_414:List (FuncId × Fn):=(414,F_spec_l2Group) :: fns_181
theorem g_414:Good Tryz.prog ⟨tis,fns_414,[],false⟩:=g_181.cons m_spec_l2Group
def spec_PutOid_l0 (o0:List Int) (i4:Int) (b3:List Int):Option ((Int × List Int) ⊕ (List Int)) :=
 cond (decide (i4 < (o0.length:Int)))
 ((at? o0 i4).bind fun x19 =>
 (spec_l2Group x19).bind fun t21 =>
 (app b3 t21).bind fun zs22 =>
 some (.inl (w64 (i4 + 1),zs22)))
 (some (.inr b3))
def spec_PutOid (o0:List Int):Option (List Int) :=
 (spec_OidOk o0).bind fun t7 =>
 cond (!t7)
 (some ([]:List Int))
 ((loop (fun z=>spec_PutOid_l0 o0 z.1 z.2) (0,([]:List Int))).bind fun d =>
 some d)
def F_spec_PutOid:Fn:=⟨[.val false cNN false],[.val false cNY true],fun a=>spec_PutOid a⟩
def a_spec_PutOid:List (Nat × LoopAnn):=[(0,⟨⟨[(3,false,[.own 1000000000]),(4,false,[dI])],[(1000000000,.root (.one (.int .u8)) true)]⟩,
 ⟨[(3,false,[.own 1000000300])],[(1000000300,.root (.one (.int .u8)) true)]⟩,none⟩)]
theorem m_spec_PutOid:Meets Tryz.prog 401 F_spec_PutOid:=mkM g_414 401 Tryz.f401 a_spec_PutOid F_spec_PutOid Tryz.func401 (by kernel_rfl) (by kernel_rfl) (by kernel_rfl)
def fns_401:List (FuncId × Fn):=(401,F_spec_PutOid) :: fns_414
theorem g_401:Good Tryz.prog ⟨tis,fns_401,[],false⟩:=g_414.cons m_spec_PutOid
def spec_PutVal (b0:List Int) (v1:Val):Option (List Int) :=
 (spec_ValOk v1).bind fun t7 =>
 cond (!t7)
 ((app ([]:List Int) b0).bind fun zs11 =>
 some zs11)
 (cond (v1.1 == 2)
 ((spec_PutInt v1.2.1).bind fun t19 =>
 (spec_PutTlv b0 v1.1 t19).bind fun t34 =>
 some t34)
 (cond (v1.1 == 4)
 ((spec_PutTlv b0 v1.1 (intsOf v1.2.2.1)).bind fun t34_1 =>
 some t34_1)
 (cond (v1.1 == 6)
 ((spec_PutOid v1.2.2.2).bind fun t29 =>
 (spec_PutTlv b0 v1.1 t29).bind fun t34_2 =>
 some t34_2)
 ((spec_PutTlv b0 v1.1 ([]:List Int)).bind fun t34_3 =>
 some t34_3))))
def F_spec_PutVal:Fn:=⟨[.val false cNY false,.val true cVal false],[.val false cNY true],fun a=>spec_PutVal a.1 a.2⟩
theorem m_spec_PutVal:Meets Tryz.prog 400 F_spec_PutVal:=mkM g_401 400 Tryz.f400 [] F_spec_PutVal Tryz.func400 (by kernel_rfl) (by kernel_rfl) (by kernel_rfl)
def fns_400:List (FuncId × Fn):=(400,F_spec_PutVal) :: fns_401
theorem g_400:Good Tryz.prog ⟨tis,fns_400,[],false⟩:=g_401.cons m_spec_PutVal
def spec_l4Binds_l0 (l0:List Bind) (i4:Int) (b3:List Int):Option ((Int × List Int) ⊕ (List Int)) :=
 cond (decide (i4 < (l0.length:Int)))
 ((at? l0 i4).bind fun x16 =>
 (spec_PutOid x16.1).bind fun t19 =>
 (spec_PutTlv ([]:List Int) 6 t19).bind fun t20 =>
 (at? l0 i4).bind fun x23 =>
 (spec_PutVal t20 x23.2).bind fun t26 =>
 (spec_PutTlv b3 48 t26).bind fun t29 =>
 some (.inl (w64 (i4 + 1),t29)))
 (some (.inr b3))
def spec_l4Binds (l0:List Bind):Option (List Int) :=
 (loop (fun z=>spec_l4Binds_l0 l0 z.1 z.2) (0,([]:List Int))).bind fun d =>
 some d
def F_spec_l4Binds:Fn:=⟨[.val false (.one (.sl cBind)) false],[.val false cNY true],fun a=>spec_l4Binds a⟩
def a_spec_l4Binds:List (Nat × LoopAnn):=[(0,⟨⟨[(3,false,[.own 1000000000]),(4,false,[dI])],[(1000000000,.root (.one (.int .u8)) true)]⟩,
 ⟨[(3,false,[.own 1000000300])],[(1000000300,.root (.one (.int .u8)) true)]⟩,none⟩)]
theorem m_spec_l4Binds:Meets Tryz.prog 361 F_spec_l4Binds:=mkM g_400 361 Tryz.f361 a_spec_l4Binds F_spec_l4Binds Tryz.func361 (by kernel_rfl) (by kernel_rfl) (by kernel_rfl)
def fns_361:List (FuncId × Fn):=(361,F_spec_l4Binds) :: fns_400
theorem g_361:Good Tryz.prog ⟨tis,fns_361,[],false⟩:=g_400.cons m_spec_l4Binds
def spec_l4Body (p0:Pdu):Option ((List Int) × Bool) :=
 (spec_l4Binds p0.2.2.2.2).bind fun t8 =>
 cond (decide ((t8.length:Int) > 250))
 (some (([]:List Int),false))
 ((spec_PutInt p0.2.1).bind fun t16 =>
 (spec_PutTlv ([]:List Int) 2 t16).bind fun t17 =>
 (spec_PutInt p0.2.2.1).bind fun t20 =>
 (spec_PutTlv t17 2 t20).bind fun t21 =>
 (spec_PutInt p0.2.2.2.1).bind fun t24 =>
 (spec_PutTlv t21 2 t24).bind fun t25 =>
 (spec_PutTlv t25 48 t8).bind fun t28 =>
 let t3:=decide ((t28.length:Int) ≤ 250)
 some (t28,t3))
def F_spec_l4Body:Fn:=⟨[.val true cPdu false],[.val false cNY true,.val false cNB true],fun a=>spec_l4Body a⟩
theorem m_spec_l4Body:Meets Tryz.prog 262 F_spec_l4Body:=mkM g_361 262 Tryz.f262 [] F_spec_l4Body Tryz.func262 (by kernel_rfl) (by kernel_rfl) (by kernel_rfl)
def fns_262:List (FuncId × Fn):=(262,F_spec_l4Body) :: fns_361
theorem g_262:Good Tryz.prog ⟨tis,fns_262,[],false⟩:=g_361.cons m_spec_l4Body
def spec_PutPdu (p0:Pdu):Option (List Int) :=
 (spec_PduOk p0).bind fun t6 =>
 cond (!t6)
 (some ([]:List Int))
 ((spec_l4Body p0).bind fun t11 =>
 cond (!t11.2)
 (some ([]:List Int))
 ((spec_PutTlv ([]:List Int) p0.1 t11.1).bind fun t21 =>
 some t21))
def F_spec_PutPdu:Fn:=⟨[.val true cPdu false],[.val false cNY true],fun a=>spec_PutPdu a⟩
theorem m_spec_PutPdu:Meets Tryz.prog 145 F_spec_PutPdu:=mkM g_262 145 Tryz.f145 [] F_spec_PutPdu Tryz.func145 (by kernel_rfl) (by kernel_rfl) (by kernel_rfl)
def fns_145:List (FuncId × Fn):=(145,F_spec_PutPdu) :: fns_262
theorem g_145:Good Tryz.prog ⟨tis,fns_145,[],false⟩:=g_262.cons m_spec_PutPdu
def spec_PutMsg (word0:List UInt8) (p1:Pdu):Option (List Int) :=
 (spec_PutPdu p1).bind fun t8 =>
 (cond ((t8.length:Int) == 0) (some true) (some (decide ((word0.length:Int) > 20)))).bind fun t16 =>
 cond t16
 (some ([]:List Int))
 ((spec_PutInt 1).bind fun t19 =>
 (spec_PutTlv ([]:List Int) 2 t19).bind fun t20 =>
 (spec_PutTlv t20 4 (intsOf word0)).bind fun t23 =>
 (app t23 t8).bind fun zs25 =>
 cond (decide ((zs25.length:Int) > 250))
 (some ([]:List Int))
 ((spec_PutTlv ([]:List Int) 48 zs25).bind fun t32 =>
 some t32))
def F_spec_PutMsg:Fn:=⟨[.val false cNS false,.val true cPdu false],[.val false cNY true],fun a=>spec_PutMsg a.1 a.2⟩
theorem m_spec_PutMsg:Meets Tryz.prog 183 F_spec_PutMsg:=mkM g_145 183 Tryz.f183 [] F_spec_PutMsg Tryz.func183 (by kernel_rfl) (by kernel_rfl) (by kernel_rfl)
def fns_183:List (FuncId × Fn):=(183,F_spec_PutMsg) :: fns_145
theorem g_183:Good Tryz.prog ⟨tis,fns_183,[],false⟩:=g_145.cons m_spec_PutMsg
def spec_l20Msg (c0:L1Cur) (b1:Bridge):Option (L1Cur × List Int) :=
 (spec_l1Below c0 10).bind fun t6 =>
 cond (t6.2 == 0)
 ((spec_l19Pdu t6.1 b1).bind fun t12 =>
 (spec_PutMsg [121,97,114,100] t12.2).bind fun t13 =>
 (spec_l1Bend t12.1 t13).bind fun t14 =>
 some t14)
 (cond (t6.2 == 1)
 ((spec_l19Pdu t6.1 b1).bind fun t19 =>
 (spec_PutMsg [111,116,104,101,114] t19.2).bind fun t20 =>
 some (t19.1,t20))
 (cond (t6.2 == 2)
 ((spec_l4Draw t6.1).bind fun t24 =>
 (spec_PutMsg [121,97,114,100] t24.2).bind fun t25 =>
 some (t24.1,t25))
 ((spec_l19Pdu t6.1 b1).bind fun t28 =>
 (spec_PutMsg [121,97,114,100] t28.2).bind fun t29 =>
 some (t28.1,t29))))
def F_spec_l20Msg:Fn:=⟨[.ptr cL1Cur false,.val true cBridge false],[.val false cNY false],fun a=>spec_l20Msg a.1 a.2⟩
theorem m_spec_l20Msg:Meets Tryz.prog 177 F_spec_l20Msg:=mkM g_183 177 Tryz.f177 [] F_spec_l20Msg Tryz.func177 (by kernel_rfl) (by kernel_rfl) (by kernel_rfl)
def fns_177:List (FuncId × Fn):=(177,F_spec_l20Msg) :: fns_183
theorem g_177:Good Tryz.prog ⟨tis,fns_177,[],false⟩:=g_183.cons m_spec_l20Msg
def spec_l1Bytes_l0 (n1:Int) (i6:Int) (b0:List Int) (b1:Int) (b2:Int) (out5:List Int):Option ((Int × List Int × Int × Int × List Int) ⊕ (List Int × Int × Int × List Int)) :=
 cond (decide (i6 < n1))
 ((spec_l1Byte (b0,b1,b2)).bind fun t15 =>
 (app out5 [IntKind.u8.wrap (t15.2)]).bind fun zs18 =>
 some (.inl (w64 (i6 + 1),t15.1.1,t15.1.2.1,t15.1.2.2,zs18)))
 (some (.inr (b0,b1,b2,out5)))
def spec_l1Bytes (c0:L1Cur) (n1:Int):Option (L1Cur × List Int) :=
 (loop (fun z=>spec_l1Bytes_l0 n1 z.1 z.2.1 z.2.2.1 z.2.2.2.1 z.2.2.2.2) (0,c0.1,c0.2.1,c0.2.2,([]:List Int))).bind fun d =>
 some ((d.1,d.2.1,d.2.2.1),d.2.2.2)
def F_spec_l1Bytes:Fn:=⟨[.ptr cL1Cur false,.val false cNI false],[.val false cNY true],fun a=>spec_l1Bytes a.1 a.2⟩
def a_spec_l1Bytes:List (Nat × LoopAnn):=[(0,⟨⟨[(5,false,[.own 1000000000]),(6,false,[dI])],[(1,.box [.dat (.sl (.one (.int .u8))),dI,dI]),(1000000000,.root (.one (.int .u8)) true)]⟩,
 ⟨[(5,false,[.own 1000000300])],[(1,.box [.dat (.sl (.one (.int .u8))),dI,dI]),(1000000300,.root (.one (.int .u8)) true)]⟩,none⟩)]
theorem m_spec_l1Bytes:Meets Tryz.prog 415 F_spec_l1Bytes:=mkM g_177 415 Tryz.f415 a_spec_l1Bytes F_spec_l1Bytes Tryz.func415 (by kernel_rfl) (by kernel_rfl) (by kernel_rfl)
def fns_415:List (FuncId × Fn):=(415,F_spec_l1Bytes) :: fns_177
theorem g_415:Good Tryz.prog ⟨tis,fns_415,[],false⟩:=g_177.cons m_spec_l1Bytes
def spec_l1Some (c0:L1Cur):Option (L1Cur × List Int) :=
 (spec_l1Int c0 ([0,1,2,5,9]:List Int)).bind fun t6 =>
 (spec_l1Bytes t6.1 t6.2).bind fun t7 =>
 some t7
def F_spec_l1Some:Fn:=⟨[.ptr cL1Cur false],[.val false cNY true],fun a=>spec_l1Some a⟩
theorem m_spec_l1Some:Meets Tryz.prog 402 F_spec_l1Some:=mkM g_415 402 Tryz.f402 [] F_spec_l1Some Tryz.func402 (by kernel_rfl) (by kernel_rfl) (by kernel_rfl)
def fns_402:List (FuncId × Fn):=(402,F_spec_l1Some) :: fns_415
theorem g_402:Good Tryz.prog ⟨tis,fns_402,[],false⟩:=g_415.cons m_spec_l1Some
def spec_l6Draw (c0:L1Cur):Option (L1Cur × Frame) :=
 (spec_l1Int c0 ([0,11,12,13,14,11,12]:List Int)).bind fun t5 =>
 (spec_l6Mac t5.1).bind fun t7 =>
 (spec_l1Int t7.1 ([0,0,0,1,2,3]:List Int)).bind fun t10 =>
 (spec_l1Some t10.1).bind fun t12 =>
 some (t12.1,(t5.2,t7.2,t10.2,t12.2))
def F_spec_l6Draw:Fn:=⟨[.ptr cL1Cur false],[.val true cFrame true],fun a=>spec_l6Draw a⟩
theorem m_spec_l6Draw:Meets Tryz.prog 362 F_spec_l6Draw:=mkM g_402 362 Tryz.f362 [] F_spec_l6Draw Tryz.func362 (by kernel_rfl) (by kernel_rfl) (by kernel_rfl)
def fns_362:List (FuncId × Fn):=(362,F_spec_l6Draw) :: fns_402
theorem g_362:Good Tryz.prog ⟨tis,fns_362,[],false⟩:=g_402.cons m_spec_l6Draw
def spec_l21Act (c0:L1Cur) (b1:Bridge):Option (L1Cur × Act) :=
 (spec_l1Int c0 ([1,1,2,2,2,2,2,3,4,5,6]:List Int)).bind fun t8 =>
 cond (t8.2 == 1)
 ((spec_l20Msg t8.1 b1).bind fun t16 =>
 some (t16.1,(t8.2,0,false,t16.2,0,0,0,[],0,0,0,0,0)))
 (cond (t8.2 == 2)
 ((spec_l1Int t8.1 ([0,0,1,2]:List Int)).bind fun t22 =>
 some (t22.1,(t8.2,t22.2,false,[],0,0,0,[],0,0,0,0,0)))
 (cond (t8.2 == 3)
 ((spec_l1Below t8.1 4).bind fun t27 =>
 (spec_l6Draw t27.1).bind fun t30 =>
 some (t30.1,(t8.2,t27.2,false,[],t30.2.1,t30.2.2.1,t30.2.2.2.1,t30.2.2.2.2,0,0,0,0,0)))
 (cond (t8.2 == 4)
 ((spec_l1Below t8.1 4).bind fun t35 =>
 (spec_l7Draw t35.1).bind fun t38 =>
 some (t38.1,(t8.2,t35.2,false,[],0,0,0,[],t38.2.1,t38.2.2.1,t38.2.2.2.1,t38.2.2.2.2.1,t38.2.2.2.2.2)))
 (cond (t8.2 == 5)
 ((spec_l1Below t8.1 4).bind fun t43 =>
 (spec_l1Once t43.1 3).bind fun t46 =>
 some (t46.1,(t8.2,t43.2,!t46.2,[],0,0,0,[],0,0,0,0,0)))
 (some (t8.1,(t8.2,0,false,[],0,0,0,[],0,0,0,0,0)))))))
def F_spec_l21Act:Fn:=⟨[.ptr cL1Cur false,.val true cBridge false],[.val true cAct false],fun a=>spec_l21Act a.1 a.2⟩
theorem m_spec_l21Act:Meets Tryz.prog 263 F_spec_l21Act:=mkM g_362 263 Tryz.f263 [] F_spec_l21Act Tryz.func263 (by kernel_rfl) (by kernel_rfl) (by kernel_rfl)
def fns_263:List (FuncId × Fn):=(263,F_spec_l21Act) :: fns_362
theorem g_263:Good Tryz.prog ⟨tis,fns_263,[],false⟩:=g_362.cons m_spec_l21Act
def spec_l21Acts_l0 (b1:Bridge) (i8:Int) (b0:List Int) (b1_1:Int) (b2:Int) (out7:List Act):Option ((Int × List Int × Int × Int × List Act) ⊕ (List Int × Int × Int × List Act)) :=
 cond (decide (i8 > 0))
 ((spec_l21Act (b0,b1_1,b2) b1).bind fun t20 =>
 (app out7 [t20.2]).bind fun zs22 =>
 some (.inl (w64 (i8 - 1),t20.1.1,t20.1.2.1,t20.1.2.2,zs22)))
 (some (.inr (b0,b1_1,b2,out7)))
def spec_l21Acts (c0:L1Cur) (b1:Bridge) (most2:Int):Option (L1Cur × List Act) :=
 (spec_l1Below c0 most2).bind fun t12 =>
 (loop (fun z=>spec_l21Acts_l0 b1 z.1 z.2.1 z.2.2.1 z.2.2.2.1 z.2.2.2.2) (t12.2,t12.1.1,t12.1.2.1,t12.1.2.2,([]:List Act))).bind fun d =>
 some ((d.1,d.2.1,d.2.2.1),d.2.2.2)
def F_spec_l21Acts:Fn:=⟨[.ptr cL1Cur false,.val true cBridge false,.val false cNI false],[.val false (.one (.sl cAct)) false],fun a=>spec_l21Acts a.1 a.2.1 a.2.2⟩
def a_spec_l21Acts:List (Nat × LoopAnn):=[(0,⟨⟨[(7,false,[.own 1000000000]),(8,false,[dI])],[(1,.box [.dat (.sl (.one (.int .u8))),dI,dI]),(1000000000,.root cAct false)]⟩,
 ⟨[(7,false,[.own 1000000300])],[(1,.box [.dat (.sl (.one (.int .u8))),dI,dI]),(1000000300,.root cAct false)]⟩,none⟩)]
theorem m_spec_l21Acts:Meets Tryz.prog 146 F_spec_l21Acts:=mkM g_263 146 Tryz.f146 a_spec_l21Acts F_spec_l21Acts Tryz.func146 (by kernel_rfl) (by kernel_rfl) (by kernel_rfl)
def fns_146:List (FuncId × Fn):=(146,F_spec_l21Acts) :: fns_263
theorem g_146:Good Tryz.prog ⟨tis,fns_146,[],false⟩:=g_263.cons m_spec_l21Acts
def spec_l1Size (code0:List Int) (most1:Int):Option Int :=
 let n5:=w64 (3 + (w64 ((code0.length:Int).tdiv 12)))
 cond (decide (n5 > most1)) (some most1) (some n5)
def F_spec_l1Size:Fn:=⟨[.val false cNY false,.val false cNI false],[.val false cNI true],fun a=>spec_l1Size a.1 a.2⟩
theorem m_spec_l1Size:Meets Tryz.prog 147 F_spec_l1Size:=mkM g_146 147 Tryz.f147 [] F_spec_l1Size Tryz.func147 (by kernel_rfl) (by kernel_rfl) (by kernel_rfl)
def fns_147:List (FuncId × Fn):=(147,F_spec_l1Size) :: fns_146
theorem g_147:Good Tryz.prog ⟨tis,fns_147,[],false⟩:=g_146.cons m_spec_l1Size
def spec_DrawPlay (code0:List Int):Option (Bridge × List Act) :=
 (spec_l1New code0).bind fun t7 =>
 (spec_l11Draw t7).bind fun t9 =>
 (spec_l1Size code0 36).bind fun t14 =>
 (spec_l21Acts t9.1 t9.2 (w64 (20 + t14))).bind fun t16 =>
 some (t9.2,t16.2)
def F_spec_DrawPlay:Fn:=⟨[.val false cNY false],[.val true cBridge false,.val false (.one (.sl cAct)) false],fun a=>spec_DrawPlay a⟩
theorem m_spec_DrawPlay:Meets Tryz.prog 43 F_spec_DrawPlay:=mkM g_147 43 Tryz.f43 [] F_spec_DrawPlay Tryz.func43 (by kernel_rfl) (by kernel_rfl) (by kernel_rfl)
def fns_43:List (FuncId × Fn):=(43,F_spec_DrawPlay) :: fns_147
theorem g_43:Good Tryz.prog ⟨tis,fns_43,[],false⟩:=g_147.cons m_spec_DrawPlay
def impl_AgentNew (b0:Bridge) (word1:List UInt8):Option Agent :=
 (impl_BridgeOk b0).bind fun t6 =>
 (cond (!t6) (some true) (some (decide ((word1.length:Int) > 20)))).bind fun t12 =>
 cond t12
 (some (0,[],[],[],[],[],0,0,0,0,0,[],[],0,0))
 ((impl_copyBridge b0).bind fun t15 =>
 some (t15.1,t15.2.1,t15.2.2.1,t15.2.2.2.1,t15.2.2.2.2.1,t15.2.2.2.2.2.1,t15.2.2.2.2.2.2.1,t15.2.2.2.2.2.2.2.1,t15.2.2.2.2.2.2.2.2.1,t15.2.2.2.2.2.2.2.2.2.1,t15.2.2.2.2.2.2.2.2.2.2,word1,[],0,0))
def F_impl_AgentNew:Fn:=⟨[.val true cBridge false,.val false cNS false],[.val true cAgent true],fun a=>impl_AgentNew a.1 a.2⟩
theorem m_impl_AgentNew:Meets Tryz.prog 44 F_impl_AgentNew:=mkM g_43 44 Tryz.f44 [] F_impl_AgentNew Tryz.func44 (by kernel_rfl) (by kernel_rfl) (by kernel_rfl)
def fns_44:List (FuncId × Fn):=(44,F_impl_AgentNew) :: fns_43
theorem g_44:Good Tryz.prog ⟨tis,fns_44,[],false⟩:=g_43.cons m_impl_AgentNew
def impl_jobOk (j0:Job):Option Bool :=
 (impl_in j0.2.2.1 0 2).bind fun t5 =>
 (cond (!t5)
 (some true)
 ((impl_in j0.2.2.2.2.2.2.2.2.2.2.2.2.2.2.2.2.2.2.2.1 0 (j0.2.2.2.2.2.2.2.1.length:Int)).bind fun t14 =>
 some (!t14))).bind fun t16 =>
 (cond t16
 (some true)
 ((impl_in j0.2.2.2.2.2.2.2.2.2.2.2.2.2.2.2.2.2.2.2.2 0 3).bind fun t20 =>
 some (!t20))).bind fun t22 =>
 cond t22
 (some false)
 ((cond (j0.2.2.1 == 0)
 (some true)
 ((impl_PduOk (j0.2.2.2.1,j0.2.2.2.2.1,j0.2.2.2.2.2.1,j0.2.2.2.2.2.2.1,j0.2.2.2.2.2.2.2.1)).bind fun t29 =>
 (cond t29 (some (j0.2.2.2.1 != 162)) (some false)).bind fun t35 =>
 (cond t35
 ((impl_BridgeOk (j0.2.2.2.2.2.2.2.2.1,j0.2.2.2.2.2.2.2.2.2.1,j0.2.2.2.2.2.2.2.2.2.2.1,j0.2.2.2.2.2.2.2.2.2.2.2.1,j0.2.2.2.2.2.2.2.2.2.2.2.2.1,j0.2.2.2.2.2.2.2.2.2.2.2.2.2.1,j0.2.2.2.2.2.2.2.2.2.2.2.2.2.2.1,j0.2.2.2.2.2.2.2.2.2.2.2.2.2.2.2.1,j0.2.2.2.2.2.2.2.2.2.2.2.2.2.2.2.2.1,j0.2.2.2.2.2.2.2.2.2.2.2.2.2.2.2.2.2.1,j0.2.2.2.2.2.2.2.2.2.2.2.2.2.2.2.2.2.2.1)).bind fun t39 =>
 some t39)
 (some false)).bind fun t40 =>
 some t40)).bind fun t41 =>
 some t41)
def F_impl_jobOk:Fn:=⟨[.val true cJob false],[.val false cNB true],fun a=>impl_jobOk a⟩
theorem m_impl_jobOk:Meets Tryz.prog 151 F_impl_jobOk:=mkM g_44 151 Tryz.f151 [] F_impl_jobOk Tryz.func151 (by kernel_rfl) (by kernel_rfl) (by kernel_rfl)
def fns_151:List (FuncId × Fn):=(151,F_impl_jobOk) :: fns_44
theorem g_151:Good Tryz.prog ⟨tis,fns_151,[],false⟩:=g_44.cons m_impl_jobOk
def impl_AgentOk_l0 (p0:Agent) (t36:Int):Option (Int ⊕ (Unit ⊕ Bool)) :=
 cond (decide (t36 < (p0.2.2.2.2.2.2.2.2.2.2.2.2.1.length:Int)))
 ((at? p0.2.2.2.2.2.2.2.2.2.2.2.2.1 t36).bind fun x39 =>
 (impl_in x39.1 1 p0.2.2.2.2.2.2.2.2.2.2.2.2.2.2).bind fun t45 =>
 (cond (!t45)
 (some true)
 ((cond (decide (t36 > 0))
 ((at? p0.2.2.2.2.2.2.2.2.2.2.2.2.1 (w64 (t36 - 1))).bind fun x55 =>
 some (decide (x55.1 ≥ x39.1)))
 (some false)).bind fun t61 =>
 some t61)).bind fun t62 =>
 (cond t62
 (some true)
 ((impl_jobOk x39).bind fun t65 =>
 some (!t65))).bind fun t67 =>
 cond t67 (some (.inr (.inr false))) (some (.inl (w64 (t36 + 1)))))
 (some (.inr (.inl ())))
def impl_AgentOk (p0:Agent):Option Bool :=
 (impl_BridgeOk (p0.1,p0.2.1,p0.2.2.1,p0.2.2.2.1,p0.2.2.2.2.1,p0.2.2.2.2.2.1,p0.2.2.2.2.2.2.1,p0.2.2.2.2.2.2.2.1,p0.2.2.2.2.2.2.2.2.1,p0.2.2.2.2.2.2.2.2.2.1,p0.2.2.2.2.2.2.2.2.2.2.1)).bind fun t7 =>
 (cond (!t7)
 (some true)
 (some (decide ((p0.2.2.2.2.2.2.2.2.2.2.2.1.length:Int) > 20)))).bind fun t14 =>
 (cond t14
 (some true)
 (some (decide ((p0.2.2.2.2.2.2.2.2.2.2.2.2.1.length:Int) > 6)))).bind fun t20 =>
 (cond t20
 (some true)
 ((impl_isCount p0.2.2.2.2.2.2.2.2.2.2.2.2.2.1).bind fun t24 =>
 some (!t24))).bind fun t26 =>
 (cond t26
 (some true)
 ((impl_isCount p0.2.2.2.2.2.2.2.2.2.2.2.2.2.2).bind fun t30 =>
 some (!t30))).bind fun t32 =>
 cond t32
 (some false)
 ((loop (fun z=>impl_AgentOk_l0 p0 z) 0).bind (Sum.elim (fun d =>
 some true) (fun r=>some r)))
def F_impl_AgentOk:Fn:=⟨[.val true cAgent false],[.val false cNB true],fun a=>impl_AgentOk a⟩
def a_impl_AgentOk:List (Nat × LoopAnn):=[(0,⟨⟨(36,false,[dI]) :: us 48 14 (us 64 3 []),[]⟩,
 ⟨[],[]⟩,some ⟨[(2,false,[dB])],[]⟩⟩)]
theorem m_impl_AgentOk:Meets Tryz.prog 46 F_impl_AgentOk:=mkM g_151 46 Tryz.f46 a_impl_AgentOk F_impl_AgentOk Tryz.func46 (by kernel_rfl) (by kernel_rfl) (by kernel_rfl)
def fns_46:List (FuncId × Fn):=(46,F_impl_AgentOk) :: fns_151
theorem g_46:Good Tryz.prog ⟨tis,fns_46,[],false⟩:=g_151.cons m_impl_AgentOk
def impl_copyPdu (p0:Pdu):Option Pdu :=
 (impl_copyBinds p0.2.2.2.2).bind fun t5 =>
 some (p0.1,p0.2.1,p0.2.2.1,p0.2.2.2.1,t5)
def F_impl_copyPdu:Fn:=⟨[.val true cPdu false],[.val true cPdu true],fun a=>impl_copyPdu a⟩
theorem m_impl_copyPdu:Meets Tryz.prog 264 F_impl_copyPdu:=mkM g_46 264 Tryz.f264 [] F_impl_copyPdu Tryz.func264 (by kernel_rfl) (by kernel_rfl) (by kernel_rfl)
def fns_264:List (FuncId × Fn):=(264,F_impl_copyPdu) :: fns_46
theorem g_264:Good Tryz.prog ⟨tis,fns_264,[],false⟩:=g_46.cons m_impl_copyPdu
def impl_copyAgent_l0 (a0:Agent) (t13:Int) (jobs3:List Job):Option ((Int × List Job) ⊕ (List Job)) :=
 cond (decide (t13 < (a0.2.2.2.2.2.2.2.2.2.2.2.2.1.length:Int)))
 ((at? a0.2.2.2.2.2.2.2.2.2.2.2.2.1 t13).bind fun x15 =>
 (impl_copyBytes x15.2.1).bind fun t19 =>
 (impl_copyPdu (x15.2.2.2.1,x15.2.2.2.2.1,x15.2.2.2.2.2.1,x15.2.2.2.2.2.2.1,x15.2.2.2.2.2.2.2.1)).bind fun t22 =>
 (impl_copyBridge (x15.2.2.2.2.2.2.2.2.1,x15.2.2.2.2.2.2.2.2.2.1,x15.2.2.2.2.2.2.2.2.2.2.1,x15.2.2.2.2.2.2.2.2.2.2.2.1,x15.2.2.2.2.2.2.2.2.2.2.2.2.1,x15.2.2.2.2.2.2.2.2.2.2.2.2.2.1,x15.2.2.2.2.2.2.2.2.2.2.2.2.2.2.1,x15.2.2.2.2.2.2.2.2.2.2.2.2.2.2.2.1,x15.2.2.2.2.2.2.2.2.2.2.2.2.2.2.2.2.1,x15.2.2.2.2.2.2.2.2.2.2.2.2.2.2.2.2.2.1,x15.2.2.2.2.2.2.2.2.2.2.2.2.2.2.2.2.2.2.1)).bind fun t25 =>
 (app jobs3 [(x15.1,t19,x15.2.2.1,t22.1,t22.2.1,t22.2.2.1,t22.2.2.2.1,t22.2.2.2.2,t25.1,t25.2.1,t25.2.2.1,t25.2.2.2.1,t25.2.2.2.2.1,t25.2.2.2.2.2.1,t25.2.2.2.2.2.2.1,t25.2.2.2.2.2.2.2.1,t25.2.2.2.2.2.2.2.2.1,t25.2.2.2.2.2.2.2.2.2.1,t25.2.2.2.2.2.2.2.2.2.2,x15.2.2.2.2.2.2.2.2.2.2.2.2.2.2.2.2.2.2.2.1,x15.2.2.2.2.2.2.2.2.2.2.2.2.2.2.2.2.2.2.2.2)]).bind fun zs32 =>
 some (.inl (w64 (t13 + 1),zs32)))
 (some (.inr jobs3))
def impl_copyAgent (a0:Agent):Option Agent :=
 (impl_copyBridge (a0.1,a0.2.1,a0.2.2.1,a0.2.2.2.1,a0.2.2.2.2.1,a0.2.2.2.2.2.1,a0.2.2.2.2.2.2.1,a0.2.2.2.2.2.2.2.1,a0.2.2.2.2.2.2.2.2.1,a0.2.2.2.2.2.2.2.2.2.1,a0.2.2.2.2.2.2.2.2.2.2.1)).bind fun t8 =>
 (loop (fun z=>impl_copyAgent_l0 a0 z.1 z.2) (0,[])).bind fun d =>
 some (t8.1,t8.2.1,t8.2.2.1,t8.2.2.2.1,t8.2.2.2.2.1,t8.2.2.2.2.2.1,t8.2.2.2.2.2.2.1,t8.2.2.2.2.2.2.2.1,t8.2.2.2.2.2.2.2.2.1,t8.2.2.2.2.2.2.2.2.2.1,t8.2.2.2.2.2.2.2.2.2.2,a0.2.2.2.2.2.2.2.2.2.2.2.1,d,a0.2.2.2.2.2.2.2.2.2.2.2.2.2.1,a0.2.2.2.2.2.2.2.2.2.2.2.2.2.2)
def F_impl_copyAgent:Fn:=⟨[.val true cAgent false],[.val true cAgent true],fun a=>impl_copyAgent a⟩
def a_impl_copyAgent:List (Nat × LoopAnn):=[(0,⟨⟨[(3,false,[.own 1000000000]),(13,false,[dI])],[(1000000000,.root cJob true)]⟩,
 ⟨[(3,false,[.own 1000000300])],[(1000000300,.root cJob true)]⟩,none⟩)]
theorem m_impl_copyAgent:Meets Tryz.prog 148 F_impl_copyAgent:=mkM g_264 148 Tryz.f148 a_impl_copyAgent F_impl_copyAgent Tryz.func148 (by kernel_rfl) (by kernel_rfl) (by kernel_rfl)
def fns_148:List (FuncId × Fn):=(148,F_impl_copyAgent) :: fns_264
theorem g_148:Good Tryz.prog ⟨tis,fns_148,[],false⟩:=g_264.cons m_impl_copyAgent
def impl_Arrive (a0:Agent) (b1:List Int):Option Agent :=
 (impl_copyAgent a0).bind fun t7 =>
 (impl_AgentOk a0).bind fun t24 =>
 cond (!t24)
 (some t7)
 ((cond (decide ((a0.2.2.2.2.2.2.2.2.2.2.2.2.1.length:Int) ≥ 6))
 (some true)
 (some (decide (a0.2.2.2.2.2.2.2.2.2.2.2.2.2.2 ≥ 1000000)))).bind fun t35 =>
 cond t35
 ((impl_more a0.2.2.2.2.2.2.2.2.2.2.2.2.2.1).bind fun t38 =>
 some (t7.1,t7.2.1,t7.2.2.1,t7.2.2.2.1,t7.2.2.2.2.1,t7.2.2.2.2.2.1,t7.2.2.2.2.2.2.1,t7.2.2.2.2.2.2.2.1,t7.2.2.2.2.2.2.2.2.1,t7.2.2.2.2.2.2.2.2.2.1,t7.2.2.2.2.2.2.2.2.2.2.1,t7.2.2.2.2.2.2.2.2.2.2.2.1,t7.2.2.2.2.2.2.2.2.2.2.2.2.1,t38,t7.2.2.2.2.2.2.2.2.2.2.2.2.2.2))
 ((impl_copyBytes b1).bind fun t17 =>
 (app t7.2.2.2.2.2.2.2.2.2.2.2.2.1 ([(w64 (t7.2.2.2.2.2.2.2.2.2.2.2.2.2.2 + 1),t17,0,0,0,0,0,[],0,[],[],[],[],[],0,0,0,0,0,0,0)])).bind fun zs20 =>
 some (t7.1,t7.2.1,t7.2.2.1,t7.2.2.2.1,t7.2.2.2.2.1,t7.2.2.2.2.2.1,t7.2.2.2.2.2.2.1,t7.2.2.2.2.2.2.2.1,t7.2.2.2.2.2.2.2.2.1,t7.2.2.2.2.2.2.2.2.2.1,t7.2.2.2.2.2.2.2.2.2.2.1,t7.2.2.2.2.2.2.2.2.2.2.2.1,zs20,t7.2.2.2.2.2.2.2.2.2.2.2.2.2.1,w64 (t7.2.2.2.2.2.2.2.2.2.2.2.2.2.2 + 1))))
def F_impl_Arrive:Fn:=⟨[.val true cAgent false,.val false cNY false],[.val true cAgent true],fun a=>impl_Arrive a.1 a.2⟩
theorem m_impl_Arrive:Meets Tryz.prog 67 F_impl_Arrive:=mkM g_148 67 Tryz.f67 [] F_impl_Arrive Tryz.func67 (by kernel_rfl) (by kernel_rfl) (by kernel_rfl)
def fns_67:List (FuncId × Fn):=(67,F_impl_Arrive) :: fns_148
theorem g_67:Good Tryz.prog ⟨tis,fns_67,[],false⟩:=g_148.cons m_impl_Arrive
def impl_GetTlv (p0:List Int) (i1:Int):Option (Int × (List Int) × Int × Bool) :=
 (cond (decide (i1 < 0)) (some true) (some (decide (i1 > (w64 ((p0.length:Int) - 2)))))).bind fun t18 =>
 cond t18
 (some (0,[],0,false))
 ((at? p0 (w64 (i1 + 1))).bind fun x22 =>
 cond (decide ((w64 (x22)) ≥ 128))
 ((cond ((w64 (x22)) != 129) (some true) (some (decide ((w64 (i1 + 2)) ≥ (p0.length:Int))))).bind fun t36 =>
 (cond t36
 (some true)
 ((at? p0 (w64 (i1 + 2))).bind fun x40 =>
 some (decide (x40 < 128)))).bind fun t43 =>
 cond t43
 (some (0,[],0,false))
 ((at? p0 (w64 (i1 + 2))).bind fun x46 =>
 (cond (decide ((w64 (x46)) > 250))
 (some true)
 (some (decide ((w64 (x46)) > (w64 ((p0.length:Int) - (w64 ((w64 (i1 + 2)) + 1)))))))).bind fun t60 =>
 cond t60
 (some (0,[],0,false))
 ((at? p0 i1).bind fun x63 =>
 (cut p0 (w64 ((w64 (i1 + 2)) + 1)) (w64 ((w64 ((w64 (i1 + 2)) + 1)) + (w64 (x46))))).bind fun t71 =>
 (impl_copyBytes t71).bind fun t72 =>
 let t6:=w64 ((w64 ((w64 (i1 + 2)) + 1)) + (w64 (x46)))
 some (w64 (x63),t72,t6,true))))
 ((cond (decide ((w64 (x22)) > 250))
 (some true)
 (some (decide ((w64 (x22)) > (w64 ((p0.length:Int) - (w64 (i1 + 2)))))))).bind fun t60_1 =>
 cond t60_1
 (some (0,[],0,false))
 ((at? p0 i1).bind fun x63_1 =>
 (cut p0 (w64 (i1 + 2)) (w64 ((w64 (i1 + 2)) + (w64 (x22))))).bind fun t71_1 =>
 (impl_copyBytes t71_1).bind fun t72_1 =>
 let t6_1:=w64 ((w64 (i1 + 2)) + (w64 (x22)))
 some (w64 (x63_1),t72_1,t6_1,true))))
def F_impl_GetTlv:Fn:=⟨[.val false cNY false,.val false cNI false],[.val false cNI true,.val false cNY true,.val false cNI true,.val false cNB true],fun a=>impl_GetTlv a.1 a.2⟩
theorem m_impl_GetTlv:Meets Tryz.prog 184 F_impl_GetTlv:=mkM g_67 184 Tryz.f184 [] F_impl_GetTlv Tryz.func184 (by kernel_rfl) (by kernel_rfl) (by kernel_rfl)
def fns_184:List (FuncId × Fn):=(184,F_impl_GetTlv) :: fns_67
theorem g_184:Good Tryz.prog ⟨tis,fns_184,[],false⟩:=g_67.cons m_impl_GetTlv
def impl_parts_part (r0:Parts) (tag1:Int):Option (Parts × List Int) :=
 (impl_GetTlv r0.1 r0.2.1).bind fun t18 =>
 (cond r0.2.2 (some true) (some (!t18.2.2.2))).bind fun t30 =>
 (cond t30 (some true) (some (t18.1 != tag1))).bind fun t35 =>
 cond t35
 (some ((r0.1,r0.2.1,true),[]))
 (some ((r0.1,t18.2.2.1,r0.2.2),t18.2.1))
def F_impl_parts_part:Fn:=⟨[.ptr cParts false,.val false cNI false],[.val false cNY true],fun a=>impl_parts_part a.1 a.2⟩
theorem m_impl_parts_part:Meets Tryz.prog 186 F_impl_parts_part:=mkM g_184 186 Tryz.f186 [] F_impl_parts_part Tryz.func186 (by kernel_rfl) (by kernel_rfl) (by kernel_rfl)
def fns_186:List (FuncId × Fn):=(186,F_impl_parts_part) :: fns_184
theorem g_186:Good Tryz.prog ⟨tis,fns_186,[],false⟩:=g_184.cons m_impl_parts_part
def impl_GetInt_l0 (t17:List Int) (n4_1:Int) (t19:Int):Option ((Int × Int) ⊕ Int) :=
 cond (decide (t19 < (t17.length:Int)))
 ((at? t17 t19).bind fun x21 =>
 let n4_2:=bor .i64 (w64 (n4_1 * 2 ^ 8)) (w64 (x21))
 some (.inl (n4_2,w64 (t19 + 1))))
 (some (.inr n4_1))
def impl_GetInt (b0:List Int):Option (Int × Bool) :=
 (impl_in (b0.length:Int) 1 4).bind fun t9 =>
 cond (!t9)
 (some (0,false))
 ((at? b0 0).bind fun x12 =>
 let n4:=w64 (IntKind.i8.wrap (x12))
 (cut b0 1 (b0.length:Int)).bind fun t17 =>
 (loop (fun z=>impl_GetInt_l0 t17 z.1 z.2) (n4,0)).bind fun d =>
 (impl_PutInt d).bind fun t30 =>
 cond ((t30.length:Int) != (b0.length:Int)) (some (0,false)) (some (d,true)))
def F_impl_GetInt:Fn:=⟨[.val false cNY false],[.val false cNI true,.val false cNB true],fun a=>impl_GetInt a⟩
def a_impl_GetInt:List (Nat × LoopAnn):=[(0,⟨⟨[(4,false,[dI]),(19,false,[dI])],[]⟩,
 ⟨[(4,false,[dI])],[]⟩,none⟩)]
theorem m_impl_GetInt:Meets Tryz.prog 286 F_impl_GetInt:=mkM g_186 286 Tryz.f286 a_impl_GetInt F_impl_GetInt Tryz.func286 (by kernel_rfl) (by kernel_rfl) (by kernel_rfl)
def fns_286:List (FuncId × Fn):=(286,F_impl_GetInt) :: fns_186
theorem g_286:Good Tryz.prog ⟨tis,fns_286,[],false⟩:=g_186.cons m_impl_GetInt
def impl_parts_num (r0:Parts) (tag1:Int):Option (Parts × Int) :=
 (impl_parts_part r0 tag1).bind fun t10 =>
 (impl_GetInt t10.2).bind fun t11 =>
 (cond t10.1.2.2 (some true) (some (!t11.2))).bind fun t22 =>
 some ((t10.1.1,t10.1.2.1,t22),t11.1)
def F_impl_parts_num:Fn:=⟨[.ptr cParts false,.val false cNI false],[.val false cNI true],fun a=>impl_parts_num a.1 a.2⟩
theorem m_impl_parts_num:Meets Tryz.prog 185 F_impl_parts_num:=mkM g_286 185 Tryz.f185 [] F_impl_parts_num Tryz.func185 (by kernel_rfl) (by kernel_rfl) (by kernel_rfl)
def fns_185:List (FuncId × Fn):=(185,F_impl_parts_num) :: fns_286
theorem g_185:Good Tryz.prog ⟨tis,fns_185,[],false⟩:=g_286.cons m_impl_parts_num
def impl_parts_done (r0:Parts):Option (Parts × Bool) :=
 (cond (!r0.2.2) (some (r0.2.1 == (r0.1.length:Int))) (some false)).bind fun t19 =>
 some (r0,t19)
def F_impl_parts_done:Fn:=⟨[.ptr cParts false],[.val false cNB true],fun a=>impl_parts_done a⟩
theorem m_impl_parts_done:Meets Tryz.prog 287 F_impl_parts_done:=mkM g_185 287 Tryz.f287 [] F_impl_parts_done Tryz.func287 (by kernel_rfl) (by kernel_rfl) (by kernel_rfl)
def fns_287:List (FuncId × Fn):=(287,F_impl_parts_done) :: fns_185
theorem g_287:Good Tryz.prog ⟨tis,fns_287,[],false⟩:=g_185.cons m_impl_parts_done
def impl_GetOid_l0 (b0:List Int) (n5:Int) (t11:Int) (out4:List Int):Option ((Int × Int × List Int) ⊕ ((List Int) ⊕ (Bool × List Int))) :=
 cond (decide (t11 < (b0.length:Int)))
 ((at? b0 t11).bind fun x14 =>
 cond (decide (t11 ≥ 40))
 (some (.inr (.inr (false,[]))))
 (let n5_1:=bor .i64 (w64 ((min2 n5 1048576) * 2 ^ 7)) (w64 (band .u8 x14 127))
 cond (decide (x14 < 128))
 ((app out4 [n5_1]).bind fun zs30 =>
 some (.inl (0,w64 (t11 + 1),zs30)))
 (some (.inl (n5_1,w64 (t11 + 1),out4)))))
 (some (.inr (.inl out4)))
def impl_GetOid (b0:List Int):Option ((List Int) × Bool) :=
 (loop (fun z=>impl_GetOid_l0 b0 z.1 z.2.1 z.2.2) (0,0,[])).bind (Sum.elim (fun d =>
 (impl_PutOid d).bind fun t33 =>
 (cond ((t33.length:Int) == 0) (some true) (some (!((bytesOf t33) == (bytesOf b0))))).bind fun t43 =>
 cond t43 (some ([],false)) (some (d,true))) (fun r=>some (r.2,r.1)))
def F_impl_GetOid:Fn:=⟨[.val false cNY false],[.val false cNN true,.val false cNB true],fun a=>impl_GetOid a⟩
def a_impl_GetOid:List (Nat × LoopAnn):=[(0,⟨⟨[(4,false,[.own 1000000000]),(5,false,[dI]),(11,false,[dI])],[(1000000000,.root cNI true)]⟩,
 ⟨[(4,false,[.own 1000000300])],[(1000000300,.root cNI true)]⟩,some ⟨[(2,false,[.own 1000000600]),(3,false,[dB])],[(1000000600,.root cNI true)]⟩⟩)]
theorem m_impl_GetOid:Meets Tryz.prog 370 F_impl_GetOid:=mkM g_287 370 Tryz.f370 a_impl_GetOid F_impl_GetOid Tryz.func370 (by kernel_rfl) (by kernel_rfl) (by kernel_rfl)
def fns_370:List (FuncId × Fn):=(370,F_impl_GetOid) :: fns_287
theorem g_370:Good Tryz.prog ⟨tis,fns_370,[],false⟩:=g_287.cons m_impl_GetOid
def impl_GetVal (b0:List Int) (at1:Int):Option (Val × Int × Bool) :=
 (impl_GetTlv b0 at1).bind fun t15 =>
 cond (!t15.2.2.2)
 (some ((0,0,[],[]),0,false))
 (cond (t15.1 == 2)
 ((impl_GetInt t15.2.1).bind fun t33 =>
 (cond (!t33.2)
 (some true)
 ((impl_ValOk (t15.1,t33.1,[],[])).bind fun t54 =>
 some (!t54))).bind fun t56 =>
 cond t56
 (some ((0,0,[],[]),0,false))
 (some ((t15.1,t33.1,[],[]),t15.2.2.1,true)))
 (cond (t15.1 == 4)
 ((cond (!t15.2.2.2)
 (some true)
 ((impl_ValOk (t15.1,0,bytesOf t15.2.1,[])).bind fun t54_1 =>
 some (!t54_1))).bind fun t56_1 =>
 cond t56_1
 (some ((0,0,[],[]),0,false))
 (some ((t15.1,0,bytesOf t15.2.1,[]),t15.2.2.1,true)))
 (cond (t15.1 == 6)
 ((impl_GetOid t15.2.1).bind fun t46 =>
 (cond (!t46.2)
 (some true)
 ((impl_ValOk (t15.1,0,[],t46.1)).bind fun t54_2 =>
 some (!t54_2))).bind fun t56_2 =>
 cond t56_2
 (some ((0,0,[],[]),0,false))
 (some ((t15.1,0,[],t46.1),t15.2.2.1,true)))
 (let ok10:=(t15.2.1.length:Int) == 0
 (cond (!ok10)
 (some true)
 ((impl_ValOk (t15.1,0,[],[])).bind fun t54_3 =>
 some (!t54_3))).bind fun t56_3 =>
 cond t56_3
 (some ((0,0,[],[]),0,false))
 (some ((t15.1,0,[],[]),t15.2.2.1,true))))))
def F_impl_GetVal:Fn:=⟨[.val false cNY false,.val false cNI false],[.val true cVal true,.val false cNI true,.val false cNB true],fun a=>impl_GetVal a.1 a.2⟩
theorem m_impl_GetVal:Meets Tryz.prog 371 F_impl_GetVal:=mkM g_370 371 Tryz.f371 [] F_impl_GetVal Tryz.func371 (by kernel_rfl) (by kernel_rfl) (by kernel_rfl)
def fns_371:List (FuncId × Fn):=(371,F_impl_GetVal) :: fns_370
theorem g_371:Good Tryz.prog ⟨tis,fns_371,[],false⟩:=g_370.cons m_impl_GetVal
def impl_bindOf (b0:List Int):Option (Bind × Bool) :=
 (impl_parts_part (b0,0,false) 6).bind fun t15 =>
 (impl_GetOid t15.2).bind fun t16 =>
 (impl_GetVal b0 t15.1.2.1).bind fun t25 =>
 (cond t15.1.2.2 (some true) (some (!t16.2))).bind fun t36 =>
 (cond t36 (some true) (some (!t25.2.2))).bind fun t40 =>
 (cond t40 (some true) (some (t25.2.1 != (b0.length:Int)))).bind fun t46 =>
 cond t46
 (some (([],0,0,[],[]),false))
 (some ((t16.1,t25.1.1,t25.1.2.1,t25.1.2.2.1,t25.1.2.2.2),true))
def F_impl_bindOf:Fn:=⟨[.val false cNY false],[.val true cBind true,.val false cNB true],fun a=>impl_bindOf a⟩
theorem m_impl_bindOf:Meets Tryz.prog 288 F_impl_bindOf:=mkM g_371 288 Tryz.f288 [] F_impl_bindOf Tryz.func288 (by kernel_rfl) (by kernel_rfl) (by kernel_rfl)
def fns_288:List (FuncId × Fn):=(288,F_impl_bindOf) :: fns_371
theorem g_288:Good Tryz.prog ⟨tis,fns_288,[],false⟩:=g_371.cons m_impl_bindOf
def impl_GetPdu_l0 (b0:Int) (b1:Int) (b2:Int) (b3:Int) (b0_1:Int) (b1_1:Int) (b2_1:Int) (b3_1:Int) (b0_2:List Int) (b1_2:Int) (b2_2:Bool) (b4:List Bind) (b4_1:List Bind):Option ((Int × Int × Int × Int × Int × Int × Int × Int × List Int × Int × Bool × List Bind × List Bind) ⊕ ((Int × Int × Int × Int × Int × Int × Int × Int × List Int × Int × Bool × List Bind × List Bind) ⊕ (Bool × Int × Int × Int × Int × List Bind))) :=
 cond (decide (b1_2 < (b0_2.length:Int)))
 ((impl_parts_part (b0_2,b1_2,b2_2) 48).bind fun t64 =>
 (impl_bindOf t64.2).bind fun t65 =>
 (cond (!t65.2) (some true) (some (decide ((b4_1.length:Int) ≥ 10)))).bind fun t75 =>
 cond t75
 (some (.inr (.inr (false,0,0,0,0,[]))))
 ((app b4_1 [t65.1]).bind fun zs81 =>
 some (.inl (b0,b1,b2,b3,b0_1,b1_1,b2_1,b3_1,t64.1.1,t64.1.2.1,t64.1.2.2,b4,zs81))))
 (some (.inr (.inl (b0,b1,b2,b3,b0_1,b1_1,b2_1,b3_1,b0_2,b1_2,b2_2,b4,b4_1))))
def impl_GetPdu (p0:List Int):Option (Pdu × Bool) :=
 (impl_GetTlv p0 0).bind fun t16 =>
 (cond (!t16.2.2.2) (some true) (some (t16.2.2.1 != (p0.length:Int)))).bind fun t28 =>
 cond t28
 (some ((0,0,0,0,[]),false))
 ((impl_parts_num (t16.2.1,0,false) 2).bind fun t36 =>
 (impl_parts_num t36.1 2).bind fun t39 =>
 (impl_parts_num t39.1 2).bind fun t42 =>
 (impl_parts_part t42.1 48).bind fun t45 =>
 (impl_parts_done t45.1).bind fun t49 =>
 cond (!t49.2)
 (some ((0,0,0,0,[]),false))
 ((loop (fun z=>impl_GetPdu_l0 z.1 z.2.1 z.2.2.1 z.2.2.2.1 z.2.2.2.2.1 z.2.2.2.2.2.1 z.2.2.2.2.2.2.1 z.2.2.2.2.2.2.2.1 z.2.2.2.2.2.2.2.2.1 z.2.2.2.2.2.2.2.2.2.1 z.2.2.2.2.2.2.2.2.2.2.1 z.2.2.2.2.2.2.2.2.2.2.2.1 z.2.2.2.2.2.2.2.2.2.2.2.2) (0,0,0,0,t16.1,t36.2,t39.2,t42.2,t45.2,0,false,[],[])).bind (Sum.elim (fun d =>
 (impl_PutPdu (d.2.2.2.2.1,d.2.2.2.2.2.1,d.2.2.2.2.2.2.1,d.2.2.2.2.2.2.2.1,d.2.2.2.2.2.2.2.2.2.2.2.2)).bind fun t84 =>
 (cond ((t84.length:Int) == 0) (some true) (some (!((bytesOf t84) == (bytesOf p0))))).bind fun t94 =>
 cond t94
 (some ((0,0,0,0,[]),false))
 (some ((d.2.2.2.2.1,d.2.2.2.2.2.1,d.2.2.2.2.2.2.1,d.2.2.2.2.2.2.2.1,d.2.2.2.2.2.2.2.2.2.2.2.2),true))) (fun r=>some (r.2,r.1)))))
def F_impl_GetPdu:Fn:=⟨[.val false cNY false],[.val true cPdu true,.val false cNB true],fun a=>impl_GetPdu a⟩
def a_impl_GetPdu:List (Nat × LoopAnn):=[(0,⟨⟨us 71 4 [],[(1024,.box [dI,dI,dI,dI,.own 1000000000]),(1051648,.box [dI,dI,dI,dI,.own 1000000001]),(2363392,.box [.dat (.sl (.one (.int .u8))),dI,dB]),(1000000000,.root cBind true),(1000000001,.root cBind true)]⟩,
 ⟨[],[(1024,.box [dI,dI,dI,dI,.own 1000000300]),(1051648,.box [dI,dI,dI,dI,.own 1000000301]),(2363392,.box [.dat (.sl (.one (.int .u8))),dI,dB]),(1000000300,.root cBind true),(1000000301,.root cBind true)]⟩,some ⟨[(3,false,[dB])],[(1024,.box [dI,dI,dI,dI,.own 1000000600]),(1000000600,.root cBind true)]⟩⟩)]
theorem m_impl_GetPdu:Meets Tryz.prog 187 F_impl_GetPdu:=mkM g_288 187 Tryz.f187 a_impl_GetPdu F_impl_GetPdu Tryz.func187 (by kernel_rfl) (by kernel_rfl) (by kernel_rfl)
def fns_187:List (FuncId × Fn):=(187,F_impl_GetPdu) :: fns_288
theorem g_187:Good Tryz.prog ⟨tis,fns_187,[],false⟩:=g_288.cons m_impl_GetPdu
def impl_GetMsg (p0:List UInt8) (i1:List Int):Option (Pdu × Int) :=
 (impl_GetTlv i1 0).bind fun t17 =>
 (cond (!t17.2.2.2) (some true) (some (t17.1 != 48))).bind fun t27 =>
 (cond t27 (some true) (some (t17.2.2.1 != (i1.length:Int)))).bind fun t33 =>
 cond t33
 (some ((0,0,0,0,[]),1))
 ((impl_parts_num (t17.2.1,0,false) 2).bind fun t39 =>
 (impl_parts_part t39.1 4).bind fun t41 =>
 cond t41.1.2.2
 (some ((0,0,0,0,[]),1))
 (cond (t39.2 != 1)
 (some ((0,0,0,0,[]),2))
 (cond (!((bytesOf t41.2) == p0))
 (some ((0,0,0,0,[]),3))
 ((cut t17.2.1 t41.1.2.1 (t17.2.1.length:Int)).bind fun t64 =>
 (impl_GetPdu t64).bind fun t65 =>
 cond (!t65.2) (some ((0,0,0,0,[]),1)) (some (t65.1,0))))))
def F_impl_GetMsg:Fn:=⟨[.val false cNS false,.val false cNY false],[.val true cPdu true,.val false cNI true],fun a=>impl_GetMsg a.1 a.2⟩
theorem m_impl_GetMsg:Meets Tryz.prog 65 F_impl_GetMsg:=mkM g_187 65 Tryz.f65 [] F_impl_GetMsg Tryz.func65 (by kernel_rfl) (by kernel_rfl) (by kernel_rfl)
def fns_65:List (FuncId × Fn):=(65,F_impl_GetMsg) :: fns_187
theorem g_65:Good Tryz.prog ⟨tis,fns_65,[],false⟩:=g_187.cons m_impl_GetMsg
def impl_Agent_drop (a0:Agent) (k1:Int):Option Agent :=
 (cutIx a0.2.2.2.2.2.2.2.2.2.2.2.2.1.length 0 k1).bind fun p =>
 (cutIx a0.2.2.2.2.2.2.2.2.2.2.2.2.1.length (w64 (k1 + 1)) (a0.2.2.2.2.2.2.2.2.2.2.2.2.1.length:Int)).bind fun p_1 =>
 (cutTwo a0.2.2.2.2.2.2.2.2.2.2.2.2.1 p.1 p.2 p_1.1 p_1.2).bind fun zs18 =>
 some (a0.1,a0.2.1,a0.2.2.1,a0.2.2.2.1,a0.2.2.2.2.1,a0.2.2.2.2.2.1,a0.2.2.2.2.2.2.1,a0.2.2.2.2.2.2.2.1,a0.2.2.2.2.2.2.2.2.1,a0.2.2.2.2.2.2.2.2.2.1,a0.2.2.2.2.2.2.2.2.2.2.1,a0.2.2.2.2.2.2.2.2.2.2.2.1,zs18,a0.2.2.2.2.2.2.2.2.2.2.2.2.2.1,a0.2.2.2.2.2.2.2.2.2.2.2.2.2.2)
def F_impl_Agent_drop:Fn:=⟨[.ptr cAgent true,.val false cNI false],[],fun a=>impl_Agent_drop a.1 a.2⟩
theorem m_impl_Agent_drop:Meets Tryz.prog 372 F_impl_Agent_drop:=mkM g_65 372 Tryz.f372 [] F_impl_Agent_drop Tryz.func372 (by kernel_rfl) (by kernel_rfl) (by kernel_rfl)
def fns_372:List (FuncId × Fn):=(372,F_impl_Agent_drop) :: fns_65
theorem g_372:Good Tryz.prog ⟨tis,fns_372,[],false⟩:=g_65.cons m_impl_Agent_drop
def impl_Agent_begin (a0:Agent) (k1:Int):Option Agent :=
 (ix a0.2.2.2.2.2.2.2.2.2.2.2.2.1.length k1).bind fun j10 =>
 (impl_copyBridge (a0.1,a0.2.1,a0.2.2.1,a0.2.2.2.1,a0.2.2.2.2.1,a0.2.2.2.2.2.1,a0.2.2.2.2.2.2.1,a0.2.2.2.2.2.2.2.1,a0.2.2.2.2.2.2.2.2.1,a0.2.2.2.2.2.2.2.2.2.1,a0.2.2.2.2.2.2.2.2.2.2.1)).bind fun t18 =>
 (a0.2.2.2.2.2.2.2.2.2.2.2.2.1[j10]?).bind fun x =>
 ((a0.2.2.2.2.2.2.2.2.2.2.2.2.1.set j10 (x.1,x.2.1,1,x.2.2.2.1,x.2.2.2.2.1,x.2.2.2.2.2.1,x.2.2.2.2.2.2.1,x.2.2.2.2.2.2.2.1,x.2.2.2.2.2.2.2.2.1,x.2.2.2.2.2.2.2.2.2.1,x.2.2.2.2.2.2.2.2.2.2.1,x.2.2.2.2.2.2.2.2.2.2.2.1,x.2.2.2.2.2.2.2.2.2.2.2.2.1,x.2.2.2.2.2.2.2.2.2.2.2.2.2.1,x.2.2.2.2.2.2.2.2.2.2.2.2.2.2.1,x.2.2.2.2.2.2.2.2.2.2.2.2.2.2.2.1,x.2.2.2.2.2.2.2.2.2.2.2.2.2.2.2.2.1,x.2.2.2.2.2.2.2.2.2.2.2.2.2.2.2.2.2.1,x.2.2.2.2.2.2.2.2.2.2.2.2.2.2.2.2.2.2.1,x.2.2.2.2.2.2.2.2.2.2.2.2.2.2.2.2.2.2.2.1,x.2.2.2.2.2.2.2.2.2.2.2.2.2.2.2.2.2.2.2.2))[j10]?).bind fun x_1 =>
 (((a0.2.2.2.2.2.2.2.2.2.2.2.2.1.set j10 (x.1,x.2.1,1,x.2.2.2.1,x.2.2.2.2.1,x.2.2.2.2.2.1,x.2.2.2.2.2.2.1,x.2.2.2.2.2.2.2.1,x.2.2.2.2.2.2.2.2.1,x.2.2.2.2.2.2.2.2.2.1,x.2.2.2.2.2.2.2.2.2.2.1,x.2.2.2.2.2.2.2.2.2.2.2.1,x.2.2.2.2.2.2.2.2.2.2.2.2.1,x.2.2.2.2.2.2.2.2.2.2.2.2.2.1,x.2.2.2.2.2.2.2.2.2.2.2.2.2.2.1,x.2.2.2.2.2.2.2.2.2.2.2.2.2.2.2.1,x.2.2.2.2.2.2.2.2.2.2.2.2.2.2.2.2.1,x.2.2.2.2.2.2.2.2.2.2.2.2.2.2.2.2.2.1,x.2.2.2.2.2.2.2.2.2.2.2.2.2.2.2.2.2.2.1,x.2.2.2.2.2.2.2.2.2.2.2.2.2.2.2.2.2.2.2.1,x.2.2.2.2.2.2.2.2.2.2.2.2.2.2.2.2.2.2.2.2)).set j10 (x_1.1,x_1.2.1,x_1.2.2.1,x_1.2.2.2.1,x_1.2.2.2.2.1,x_1.2.2.2.2.2.1,x_1.2.2.2.2.2.2.1,x_1.2.2.2.2.2.2.2.1,x_1.2.2.2.2.2.2.2.2.1,x_1.2.2.2.2.2.2.2.2.2.1,x_1.2.2.2.2.2.2.2.2.2.2.1,x_1.2.2.2.2.2.2.2.2.2.2.2.1,x_1.2.2.2.2.2.2.2.2.2.2.2.2.1,x_1.2.2.2.2.2.2.2.2.2.2.2.2.2.1,x_1.2.2.2.2.2.2.2.2.2.2.2.2.2.2.1,x_1.2.2.2.2.2.2.2.2.2.2.2.2.2.2.2.1,x_1.2.2.2.2.2.2.2.2.2.2.2.2.2.2.2.2.1,x_1.2.2.2.2.2.2.2.2.2.2.2.2.2.2.2.2.2.1,x_1.2.2.2.2.2.2.2.2.2.2.2.2.2.2.2.2.2.2.1,0,x_1.2.2.2.2.2.2.2.2.2.2.2.2.2.2.2.2.2.2.2.2))[j10]?).bind fun x_2 =>
 some (a0.1,a0.2.1,a0.2.2.1,a0.2.2.2.1,a0.2.2.2.2.1,a0.2.2.2.2.2.1,a0.2.2.2.2.2.2.1,a0.2.2.2.2.2.2.2.1,a0.2.2.2.2.2.2.2.2.1,a0.2.2.2.2.2.2.2.2.2.1,a0.2.2.2.2.2.2.2.2.2.2.1,a0.2.2.2.2.2.2.2.2.2.2.2.1,((a0.2.2.2.2.2.2.2.2.2.2.2.2.1.set j10 (x.1,x.2.1,1,x.2.2.2.1,x.2.2.2.2.1,x.2.2.2.2.2.1,x.2.2.2.2.2.2.1,x.2.2.2.2.2.2.2.1,x.2.2.2.2.2.2.2.2.1,x.2.2.2.2.2.2.2.2.2.1,x.2.2.2.2.2.2.2.2.2.2.1,x.2.2.2.2.2.2.2.2.2.2.2.1,x.2.2.2.2.2.2.2.2.2.2.2.2.1,x.2.2.2.2.2.2.2.2.2.2.2.2.2.1,x.2.2.2.2.2.2.2.2.2.2.2.2.2.2.1,x.2.2.2.2.2.2.2.2.2.2.2.2.2.2.2.1,x.2.2.2.2.2.2.2.2.2.2.2.2.2.2.2.2.1,x.2.2.2.2.2.2.2.2.2.2.2.2.2.2.2.2.2.1,x.2.2.2.2.2.2.2.2.2.2.2.2.2.2.2.2.2.2.1,x.2.2.2.2.2.2.2.2.2.2.2.2.2.2.2.2.2.2.2.1,x.2.2.2.2.2.2.2.2.2.2.2.2.2.2.2.2.2.2.2.2)).set j10 (x_1.1,x_1.2.1,x_1.2.2.1,x_1.2.2.2.1,x_1.2.2.2.2.1,x_1.2.2.2.2.2.1,x_1.2.2.2.2.2.2.1,x_1.2.2.2.2.2.2.2.1,x_1.2.2.2.2.2.2.2.2.1,x_1.2.2.2.2.2.2.2.2.2.1,x_1.2.2.2.2.2.2.2.2.2.2.1,x_1.2.2.2.2.2.2.2.2.2.2.2.1,x_1.2.2.2.2.2.2.2.2.2.2.2.2.1,x_1.2.2.2.2.2.2.2.2.2.2.2.2.2.1,x_1.2.2.2.2.2.2.2.2.2.2.2.2.2.2.1,x_1.2.2.2.2.2.2.2.2.2.2.2.2.2.2.2.1,x_1.2.2.2.2.2.2.2.2.2.2.2.2.2.2.2.2.1,x_1.2.2.2.2.2.2.2.2.2.2.2.2.2.2.2.2.2.1,x_1.2.2.2.2.2.2.2.2.2.2.2.2.2.2.2.2.2.2.1,0,x_1.2.2.2.2.2.2.2.2.2.2.2.2.2.2.2.2.2.2.2.2)).set j10 (x_2.1,x_2.2.1,x_2.2.2.1,x_2.2.2.2.1,x_2.2.2.2.2.1,x_2.2.2.2.2.2.1,x_2.2.2.2.2.2.2.1,x_2.2.2.2.2.2.2.2.1,t18.1,t18.2.1,t18.2.2.1,t18.2.2.2.1,t18.2.2.2.2.1,t18.2.2.2.2.2.1,t18.2.2.2.2.2.2.1,t18.2.2.2.2.2.2.2.1,t18.2.2.2.2.2.2.2.2.1,t18.2.2.2.2.2.2.2.2.2.1,t18.2.2.2.2.2.2.2.2.2.2,x_2.2.2.2.2.2.2.2.2.2.2.2.2.2.2.2.2.2.2.2.1,x_2.2.2.2.2.2.2.2.2.2.2.2.2.2.2.2.2.2.2.2.2),a0.2.2.2.2.2.2.2.2.2.2.2.2.2.1,a0.2.2.2.2.2.2.2.2.2.2.2.2.2.2)
def F_impl_Agent_begin:Fn:=⟨[.ptr cAgent true,.val false cNI false],[],fun a=>impl_Agent_begin a.1 a.2⟩
theorem m_impl_Agent_begin:Meets Tryz.prog 373 F_impl_Agent_begin:=mkM g_372 373 Tryz.f373 [] F_impl_Agent_begin Tryz.func373 (by kernel_rfl) (by kernel_rfl) (by kernel_rfl)
def fns_373:List (FuncId × Fn):=(373,F_impl_Agent_begin) :: fns_372
theorem g_373:Good Tryz.prog ⟨tis,fns_373,[],false⟩:=g_372.cons m_impl_Agent_begin
def impl_Agent_read (p0:Agent) (i1:Int):Option Agent :=
 (ix p0.2.2.2.2.2.2.2.2.2.2.2.2.1.length i1).bind fun j16 =>
 (p0.2.2.2.2.2.2.2.2.2.2.2.2.1[j16]?).bind fun x18 =>
 (impl_GetMsg p0.2.2.2.2.2.2.2.2.2.2.2.1 x18.2.1).bind fun t19 =>
 cond (t19.2 == 3)
 ((impl_more p0.2.2.2.2.2.2.2.2.1).bind fun t42 =>
 (impl_Agent_drop (p0.1,p0.2.1,p0.2.2.1,p0.2.2.2.1,p0.2.2.2.2.1,p0.2.2.2.2.2.1,p0.2.2.2.2.2.2.1,p0.2.2.2.2.2.2.2.1,t42,p0.2.2.2.2.2.2.2.2.2.1,p0.2.2.2.2.2.2.2.2.2.2.1,p0.2.2.2.2.2.2.2.2.2.2.2.1,p0.2.2.2.2.2.2.2.2.2.2.2.2.1,p0.2.2.2.2.2.2.2.2.2.2.2.2.2.1,p0.2.2.2.2.2.2.2.2.2.2.2.2.2.2) i1).bind fun t48 =>
 some t48)
 ((cond (t19.2 != 0) (some true) (some (t19.1.1 == 162))).bind fun t56 =>
 cond t56
 ((impl_more p0.2.2.2.2.2.2.2.1).bind fun t63 =>
 (impl_Agent_drop (p0.1,p0.2.1,p0.2.2.1,p0.2.2.2.1,p0.2.2.2.2.1,p0.2.2.2.2.2.1,p0.2.2.2.2.2.2.1,t63,p0.2.2.2.2.2.2.2.2.1,p0.2.2.2.2.2.2.2.2.2.1,p0.2.2.2.2.2.2.2.2.2.2.1,p0.2.2.2.2.2.2.2.2.2.2.2.1,p0.2.2.2.2.2.2.2.2.2.2.2.2.1,p0.2.2.2.2.2.2.2.2.2.2.2.2.2.1,p0.2.2.2.2.2.2.2.2.2.2.2.2.2.2) i1).bind fun t69 =>
 some t69)
 ((ix p0.2.2.2.2.2.2.2.2.2.2.2.2.1.length i1).bind fun j28 =>
 (p0.2.2.2.2.2.2.2.2.2.2.2.2.1[j28]?).bind fun x =>
 (impl_Agent_begin (p0.1,p0.2.1,p0.2.2.1,p0.2.2.2.1,p0.2.2.2.2.1,p0.2.2.2.2.2.1,p0.2.2.2.2.2.2.1,p0.2.2.2.2.2.2.2.1,p0.2.2.2.2.2.2.2.2.1,p0.2.2.2.2.2.2.2.2.2.1,p0.2.2.2.2.2.2.2.2.2.2.1,p0.2.2.2.2.2.2.2.2.2.2.2.1,p0.2.2.2.2.2.2.2.2.2.2.2.2.1.set j28 (x.1,x.2.1,x.2.2.1,t19.1.1,t19.1.2.1,t19.1.2.2.1,t19.1.2.2.2.1,t19.1.2.2.2.2,x.2.2.2.2.2.2.2.2.1,x.2.2.2.2.2.2.2.2.2.1,x.2.2.2.2.2.2.2.2.2.2.1,x.2.2.2.2.2.2.2.2.2.2.2.1,x.2.2.2.2.2.2.2.2.2.2.2.2.1,x.2.2.2.2.2.2.2.2.2.2.2.2.2.1,x.2.2.2.2.2.2.2.2.2.2.2.2.2.2.1,x.2.2.2.2.2.2.2.2.2.2.2.2.2.2.2.1,x.2.2.2.2.2.2.2.2.2.2.2.2.2.2.2.2.1,x.2.2.2.2.2.2.2.2.2.2.2.2.2.2.2.2.2.1,x.2.2.2.2.2.2.2.2.2.2.2.2.2.2.2.2.2.2.1,x.2.2.2.2.2.2.2.2.2.2.2.2.2.2.2.2.2.2.2.1,x.2.2.2.2.2.2.2.2.2.2.2.2.2.2.2.2.2.2.2.2),p0.2.2.2.2.2.2.2.2.2.2.2.2.2.1,p0.2.2.2.2.2.2.2.2.2.2.2.2.2.2) i1).bind fun t32 =>
 some t32))
def F_impl_Agent_read:Fn:=⟨[.ptr cAgent true,.val false cNI false],[],fun a=>impl_Agent_read a.1 a.2⟩
theorem m_impl_Agent_read:Meets Tryz.prog 289 F_impl_Agent_read:=mkM g_373 289 Tryz.f289 [] F_impl_Agent_read Tryz.func289 (by kernel_rfl) (by kernel_rfl) (by kernel_rfl)
def fns_289:List (FuncId × Fn):=(289,F_impl_Agent_read) :: fns_373
theorem g_289:Good Tryz.prog ⟨tis,fns_289,[],false⟩:=g_373.cons m_impl_Agent_read
def impl_late (p0:Pdu):Option Pdu :=
 (impl_copyBinds p0.2.2.2.2).bind fun t8 =>
 (impl_Fits (162,p0.2.1,6,1,t8)).bind fun t11 =>
 cond (!t11) (some (162,p0.2.1,7,0,[])) (some (162,p0.2.1,6,1,t8))
def F_impl_late:Fn:=⟨[.val true cPdu false],[.val true cPdu true],fun a=>impl_late a⟩
theorem m_impl_late:Meets Tryz.prog 374 F_impl_late:=mkM g_289 374 Tryz.f374 [] F_impl_late Tryz.func374 (by kernel_rfl) (by kernel_rfl) (by kernel_rfl)
def fns_374:List (FuncId × Fn):=(374,F_impl_late) :: fns_289
theorem g_374:Good Tryz.prog ⟨tis,fns_374,[],false⟩:=g_289.cons m_impl_late
def impl_Agent_finish (p0:Agent) (i1:Int):Option (Agent × List Done) :=
 (ix p0.2.2.2.2.2.2.2.2.2.2.2.2.1.length i1).bind fun j12 =>
 (p0.2.2.2.2.2.2.2.2.2.2.2.2.1[j12]?).bind fun x13 =>
 cond (x13.2.2.2.1 != 163)
 ((impl_ReplyOf (x13.2.2.2.2.2.2.2.2.1,x13.2.2.2.2.2.2.2.2.2.1,x13.2.2.2.2.2.2.2.2.2.2.1,x13.2.2.2.2.2.2.2.2.2.2.2.1,x13.2.2.2.2.2.2.2.2.2.2.2.2.1,x13.2.2.2.2.2.2.2.2.2.2.2.2.2.1,x13.2.2.2.2.2.2.2.2.2.2.2.2.2.2.1,x13.2.2.2.2.2.2.2.2.2.2.2.2.2.2.2.1,x13.2.2.2.2.2.2.2.2.2.2.2.2.2.2.2.2.1,x13.2.2.2.2.2.2.2.2.2.2.2.2.2.2.2.2.2.1,x13.2.2.2.2.2.2.2.2.2.2.2.2.2.2.2.2.2.2.1) (x13.2.2.2.1,x13.2.2.2.2.1,x13.2.2.2.2.2.1,x13.2.2.2.2.2.2.1,x13.2.2.2.2.2.2.2.1)).bind fun t41 =>
 (impl_Agent_drop p0 i1).bind fun t81 =>
 some (t81,[(x13.1,t41.2.1.1,t41.2.1.2.1,t41.2.1.2.2.1,t41.2.1.2.2.2.1,t41.2.1.2.2.2.2)]))
 (let t46:=p0.2.2.2.2.2.2.2.2.2.2.1 == x13.2.2.2.2.2.2.2.2.2.2.2.2.2.2.2.2.2.2.1
 cond t46
 ((impl_ReplyOf (p0.1,p0.2.1,p0.2.2.1,p0.2.2.2.1,p0.2.2.2.2.1,p0.2.2.2.2.2.1,p0.2.2.2.2.2.2.1,p0.2.2.2.2.2.2.2.1,p0.2.2.2.2.2.2.2.2.1,p0.2.2.2.2.2.2.2.2.2.1,p0.2.2.2.2.2.2.2.2.2.2.1) (x13.2.2.2.1,x13.2.2.2.2.1,x13.2.2.2.2.2.1,x13.2.2.2.2.2.2.1,x13.2.2.2.2.2.2.2.1)).bind fun t64 =>
 (impl_Agent_drop (t64.1.1,t64.1.2.1,t64.1.2.2.1,t64.1.2.2.2.1,t64.1.2.2.2.2.1,t64.1.2.2.2.2.2.1,t64.1.2.2.2.2.2.2.1,t64.1.2.2.2.2.2.2.2.1,t64.1.2.2.2.2.2.2.2.2.1,t64.1.2.2.2.2.2.2.2.2.2.1,t64.1.2.2.2.2.2.2.2.2.2.2,p0.2.2.2.2.2.2.2.2.2.2.2.1,p0.2.2.2.2.2.2.2.2.2.2.2.2.1,p0.2.2.2.2.2.2.2.2.2.2.2.2.2.1,p0.2.2.2.2.2.2.2.2.2.2.2.2.2.2) i1).bind fun t81_1 =>
 some (t81_1,[(x13.1,t64.2.1.1,t64.2.1.2.1,t64.2.1.2.2.1,t64.2.1.2.2.2.1,t64.2.1.2.2.2.2)]))
 (let t71:=decide (x13.2.2.2.2.2.2.2.2.2.2.2.2.2.2.2.2.2.2.2.2 ≥ 3)
 cond t71
 ((impl_late (x13.2.2.2.1,x13.2.2.2.2.1,x13.2.2.2.2.2.1,x13.2.2.2.2.2.2.1,x13.2.2.2.2.2.2.2.1)).bind fun t77 =>
 (impl_Agent_drop p0 i1).bind fun t81_2 =>
 some (t81_2,[(x13.1,t77.1,t77.2.1,t77.2.2.1,t77.2.2.2.1,t77.2.2.2.2)]))
 ((ix p0.2.2.2.2.2.2.2.2.2.2.2.2.1.length i1).bind fun j22 =>
 (p0.2.2.2.2.2.2.2.2.2.2.2.2.1[j22]?).bind fun x24 =>
 (ix p0.2.2.2.2.2.2.2.2.2.2.2.2.1.length i1).bind fun j26 =>
 (p0.2.2.2.2.2.2.2.2.2.2.2.2.1[j26]?).bind fun x =>
 (impl_Agent_begin (p0.1,p0.2.1,p0.2.2.1,p0.2.2.2.1,p0.2.2.2.2.1,p0.2.2.2.2.2.1,p0.2.2.2.2.2.2.1,p0.2.2.2.2.2.2.2.1,p0.2.2.2.2.2.2.2.2.1,p0.2.2.2.2.2.2.2.2.2.1,p0.2.2.2.2.2.2.2.2.2.2.1,p0.2.2.2.2.2.2.2.2.2.2.2.1,p0.2.2.2.2.2.2.2.2.2.2.2.2.1.set j26 (x.1,x.2.1,x.2.2.1,x.2.2.2.1,x.2.2.2.2.1,x.2.2.2.2.2.1,x.2.2.2.2.2.2.1,x.2.2.2.2.2.2.2.1,x.2.2.2.2.2.2.2.2.1,x.2.2.2.2.2.2.2.2.2.1,x.2.2.2.2.2.2.2.2.2.2.1,x.2.2.2.2.2.2.2.2.2.2.2.1,x.2.2.2.2.2.2.2.2.2.2.2.2.1,x.2.2.2.2.2.2.2.2.2.2.2.2.2.1,x.2.2.2.2.2.2.2.2.2.2.2.2.2.2.1,x.2.2.2.2.2.2.2.2.2.2.2.2.2.2.2.1,x.2.2.2.2.2.2.2.2.2.2.2.2.2.2.2.2.1,x.2.2.2.2.2.2.2.2.2.2.2.2.2.2.2.2.2.1,x.2.2.2.2.2.2.2.2.2.2.2.2.2.2.2.2.2.2.1,x.2.2.2.2.2.2.2.2.2.2.2.2.2.2.2.2.2.2.2.1,w64 (x24.2.2.2.2.2.2.2.2.2.2.2.2.2.2.2.2.2.2.2.2 + 1)),p0.2.2.2.2.2.2.2.2.2.2.2.2.2.1,p0.2.2.2.2.2.2.2.2.2.2.2.2.2.2) i1).bind fun t30 =>
 some (t30,[]))))
def F_impl_Agent_finish:Fn:=⟨[.ptr cAgent true,.val false cNI false],[.val false (.one (.sl cDone)) false],fun a=>impl_Agent_finish a.1 a.2⟩
theorem m_impl_Agent_finish:Meets Tryz.prog 290 F_impl_Agent_finish:=mkM g_374 290 Tryz.f290 [] F_impl_Agent_finish Tryz.func290 (by kernel_rfl) (by kernel_rfl) (by kernel_rfl)
def fns_290:List (FuncId × Fn):=(290,F_impl_Agent_finish) :: fns_374
theorem g_290:Good Tryz.prog ⟨tis,fns_290,[],false⟩:=g_374.cons m_impl_Agent_finish
def impl_Agent_work (a0:Agent) (k1:Int):Option (Agent × List Done) :=
 (ix a0.2.2.2.2.2.2.2.2.2.2.2.2.1.length k1).bind fun j11 =>
 (a0.2.2.2.2.2.2.2.2.2.2.2.2.1[j11]?).bind fun x19 =>
 cond (x19.2.2.1 == 0)
 ((impl_Agent_read a0 k1).bind fun t23 =>
 some (t23,[]))
 ((a0.2.2.2.2.2.2.2.2.2.2.2.2.1[j11]?).bind fun x28 =>
 cond (x28.2.2.1 == 2)
 ((impl_Agent_finish a0 k1).bind fun t32 =>
 some t32)
 ((a0.2.2.2.2.2.2.2.2.2.2.2.2.1[j11]?).bind fun x37 =>
 (a0.2.2.2.2.2.2.2.2.2.2.2.2.1[j11]?).bind fun x42 =>
 let t33:=decide (x37.2.2.2.2.2.2.2.2.2.2.2.2.2.2.2.2.2.2.2.1 < (x42.2.2.2.2.2.2.2.1.length:Int))
 cond t33
 ((a0.2.2.2.2.2.2.2.2.2.2.2.2.1[j11]?).bind fun x48 =>
 (a0.2.2.2.2.2.2.2.2.2.2.2.2.1[j11]?).bind fun x =>
 some ((a0.1,a0.2.1,a0.2.2.1,a0.2.2.2.1,a0.2.2.2.2.1,a0.2.2.2.2.2.1,a0.2.2.2.2.2.2.1,a0.2.2.2.2.2.2.2.1,a0.2.2.2.2.2.2.2.2.1,a0.2.2.2.2.2.2.2.2.2.1,a0.2.2.2.2.2.2.2.2.2.2.1,a0.2.2.2.2.2.2.2.2.2.2.2.1,a0.2.2.2.2.2.2.2.2.2.2.2.2.1.set j11 (x.1,x.2.1,x.2.2.1,x.2.2.2.1,x.2.2.2.2.1,x.2.2.2.2.2.1,x.2.2.2.2.2.2.1,x.2.2.2.2.2.2.2.1,x.2.2.2.2.2.2.2.2.1,x.2.2.2.2.2.2.2.2.2.1,x.2.2.2.2.2.2.2.2.2.2.1,x.2.2.2.2.2.2.2.2.2.2.2.1,x.2.2.2.2.2.2.2.2.2.2.2.2.1,x.2.2.2.2.2.2.2.2.2.2.2.2.2.1,x.2.2.2.2.2.2.2.2.2.2.2.2.2.2.1,x.2.2.2.2.2.2.2.2.2.2.2.2.2.2.2.1,x.2.2.2.2.2.2.2.2.2.2.2.2.2.2.2.2.1,x.2.2.2.2.2.2.2.2.2.2.2.2.2.2.2.2.2.1,x.2.2.2.2.2.2.2.2.2.2.2.2.2.2.2.2.2.2.1,w64 (x48.2.2.2.2.2.2.2.2.2.2.2.2.2.2.2.2.2.2.2.1 + 1),x.2.2.2.2.2.2.2.2.2.2.2.2.2.2.2.2.2.2.2.2),a0.2.2.2.2.2.2.2.2.2.2.2.2.2.1,a0.2.2.2.2.2.2.2.2.2.2.2.2.2.2),[]))
 ((a0.2.2.2.2.2.2.2.2.2.2.2.2.1[j11]?).bind fun x_1 =>
 some ((a0.1,a0.2.1,a0.2.2.1,a0.2.2.2.1,a0.2.2.2.2.1,a0.2.2.2.2.2.1,a0.2.2.2.2.2.2.1,a0.2.2.2.2.2.2.2.1,a0.2.2.2.2.2.2.2.2.1,a0.2.2.2.2.2.2.2.2.2.1,a0.2.2.2.2.2.2.2.2.2.2.1,a0.2.2.2.2.2.2.2.2.2.2.2.1,a0.2.2.2.2.2.2.2.2.2.2.2.2.1.set j11 (x_1.1,x_1.2.1,2,x_1.2.2.2.1,x_1.2.2.2.2.1,x_1.2.2.2.2.2.1,x_1.2.2.2.2.2.2.1,x_1.2.2.2.2.2.2.2.1,x_1.2.2.2.2.2.2.2.2.1,x_1.2.2.2.2.2.2.2.2.2.1,x_1.2.2.2.2.2.2.2.2.2.2.1,x_1.2.2.2.2.2.2.2.2.2.2.2.1,x_1.2.2.2.2.2.2.2.2.2.2.2.2.1,x_1.2.2.2.2.2.2.2.2.2.2.2.2.2.1,x_1.2.2.2.2.2.2.2.2.2.2.2.2.2.2.1,x_1.2.2.2.2.2.2.2.2.2.2.2.2.2.2.2.1,x_1.2.2.2.2.2.2.2.2.2.2.2.2.2.2.2.2.1,x_1.2.2.2.2.2.2.2.2.2.2.2.2.2.2.2.2.2.1,x_1.2.2.2.2.2.2.2.2.2.2.2.2.2.2.2.2.2.2.1,x_1.2.2.2.2.2.2.2.2.2.2.2.2.2.2.2.2.2.2.2.1,x_1.2.2.2.2.2.2.2.2.2.2.2.2.2.2.2.2.2.2.2.2),a0.2.2.2.2.2.2.2.2.2.2.2.2.2.1,a0.2.2.2.2.2.2.2.2.2.2.2.2.2.2),[]))))
def F_impl_Agent_work:Fn:=⟨[.ptr cAgent true,.val false cNI false],[.val false (.one (.sl cDone)) false],fun a=>impl_Agent_work a.1 a.2⟩
theorem m_impl_Agent_work:Meets Tryz.prog 188 F_impl_Agent_work:=mkM g_290 188 Tryz.f188 [] F_impl_Agent_work Tryz.func188 (by kernel_rfl) (by kernel_rfl) (by kernel_rfl)
def fns_188:List (FuncId × Fn):=(188,F_impl_Agent_work) :: fns_290
theorem g_188:Good Tryz.prog ⟨tis,fns_188,[],false⟩:=g_290.cons m_impl_Agent_work
def impl_isPort (b0:Bridge) (port1:Int):Option Bool :=
 (impl_BridgeOk b0).bind fun t6 =>
 (cond t6
 ((impl_in port1 0 (w64 ((b0.2.2.1.length:Int) - 1))).bind fun t13 =>
 some t13)
 (some false)).bind fun t14 =>
 some t14
def F_impl_isPort:Fn:=⟨[.val true cBridge false,.val false cNI false],[.val false cNB true],fun a=>impl_isPort a.1 a.2⟩
theorem m_impl_isPort:Meets Tryz.prog 321 F_impl_isPort:=mkM g_188 321 Tryz.f321 [] F_impl_isPort Tryz.func321 (by kernel_rfl) (by kernel_rfl) (by kernel_rfl)
def fns_321:List (FuncId × Fn):=(321,F_impl_isPort) :: fns_188
theorem g_321:Good Tryz.prog ⟨tis,fns_321,[],false⟩:=g_188.cons m_impl_isPort
def impl_FrameOk (f0:Frame):Option Bool :=
 (impl_in f0.1 0 9999).bind fun t5 =>
 (cond t5
 ((impl_in f0.2.1 1 9999).bind fun t9 =>
 some t9)
 (some false)).bind fun t10 =>
 (cond t10
 ((impl_in f0.2.2.1 0 99).bind fun t14 =>
 some t14)
 (some false)).bind fun t15 =>
 (cond t15 (some (decide ((f0.2.2.2.length:Int) ≤ 20))) (some false)).bind fun t21 =>
 some t21
def F_impl_FrameOk:Fn:=⟨[.val true cFrame false],[.val false cNB true],fun a=>impl_FrameOk a⟩
theorem m_impl_FrameOk:Meets Tryz.prog 322 F_impl_FrameOk:=mkM g_321 322 Tryz.f322 [] F_impl_FrameOk Tryz.func322 (by kernel_rfl) (by kernel_rfl) (by kernel_rfl)
def fns_322:List (FuncId × Fn):=(322,F_impl_FrameOk) :: fns_321
theorem g_322:Good Tryz.prog ⟨tis,fns_322,[],false⟩:=g_321.cons m_impl_FrameOk
def impl_ClassOf (v0:Vtab) (port1:Int) (tag2:Int):Option (Int × Bool) :=
 (impl_in port1 0 (w64 ((v0.2.length:Int) - 1))).bind fun t15 =>
 cond (!t15)
 (some (0,false))
 (cond (tag2 == 0)
 ((at? v0.2 port1).bind fun x23 =>
 (impl_RowAt v0 x23).bind fun t27 =>
 (cond (decide (t27 < 0))
 (some true)
 ((at? v0.1 t27).bind fun x34 =>
 (impl_hasPort x34.2.1 port1).bind fun t38 =>
 some (!t38))).bind fun t40 =>
 cond t40 (some (0,false)) (some (x23,true)))
 ((impl_RowAt v0 tag2).bind fun t27_1 =>
 (cond (decide (t27_1 < 0))
 (some true)
 ((at? v0.1 t27_1).bind fun x34_1 =>
 (impl_hasPort x34_1.2.1 port1).bind fun t38_1 =>
 some (!t38_1))).bind fun t40_1 =>
 cond t40_1 (some (0,false)) (some (tag2,true))))
def F_impl_ClassOf:Fn:=⟨[.val true cVtab false,.val false cNI false,.val false cNI false],[.val false cNI true,.val false cNB true],fun a=>impl_ClassOf a.1 a.2.1 a.2.2⟩
theorem m_impl_ClassOf:Meets Tryz.prog 323 F_impl_ClassOf:=mkM g_322 323 Tryz.f323 [] F_impl_ClassOf Tryz.func323 (by kernel_rfl) (by kernel_rfl) (by kernel_rfl)
def fns_323:List (FuncId × Fn):=(323,F_impl_ClassOf) :: fns_322
theorem g_323:Good Tryz.prog ⟨tis,fns_323,[],false⟩:=g_322.cons m_impl_ClassOf
def impl_put_l0 (l0:List Fent) (e1:Fent) (k8:Int):Option (Int ⊕ Int) :=
 (cond (decide (k8 < (l0.length:Int)))
 ((at? l0 k8).bind fun x35 =>
 (impl_behind x35 e1.1 e1.2.1).bind fun t41 =>
 some (!t41))
 (some false)).bind fun t43 =>
 cond t43 (some (.inl (w64 (k8 + 1)))) (some (.inr k8))
def impl_put (l0:List Fent) (e1:Fent):Option ((List Fent) × Bool) :=
 (impl_copyFdb l0).bind fun t10 =>
 (impl_entAt l0 e1.1 e1.2.1).bind fun t16 =>
 cond (decide (t16 ≥ 0))
 ((ix t10.length t16).bind fun j22 =>
 (t10[j22]?).bind fun x =>
 some (t10.set j22 e1,true))
 (cond (decide ((l0.length:Int) ≥ 12))
 (some (t10,false))
 ((loop (fun z=>impl_put_l0 l0 e1 z) 0).bind fun d =>
 (cut l0 0 d).bind fun t48 =>
 (impl_copyFdb t48).bind fun t49 =>
 (app t49 [e1]).bind fun zs52 =>
 (cut l0 d (l0.length:Int)).bind fun t55 =>
 (app zs52 t55).bind fun zs56 =>
 some (zs56,true)))
def F_impl_put:Fn:=⟨[.val false (.one (.sl cFent)) false,.val true cFent false],[.val false (.one (.sl cFent)) true,.val false cNB true],fun a=>impl_put a.1 a.2⟩
def a_impl_put:List (Nat × LoopAnn):=[(0,⟨⟨(8,false,[dI]) :: us 33 10 [],[]⟩,
 ⟨[(8,false,[dI])],[]⟩,none⟩)]
theorem m_impl_put:Meets Tryz.prog 384 F_impl_put:=mkM g_323 384 Tryz.f384 a_impl_put F_impl_put Tryz.func384 (by kernel_rfl) (by kernel_rfl) (by kernel_rfl)
def fns_384:List (FuncId × Fn):=(384,F_impl_put) :: fns_323
theorem g_384:Good Tryz.prog ⟨tis,fns_384,[],false⟩:=g_323.cons m_impl_put
def impl_Learn (l0:List Fent) (tag1:Int) (mac2:Int) (port3:Int):Option (List Fent) :=
 (impl_entAt l0 tag1 mac2).bind fun t20 =>
 (impl_FdbOk l0).bind fun t22 =>
 (cond (!t22)
 (some true)
 ((impl_fentOk (tag1,mac2,port3,0,false)).bind fun t26 =>
 some (!t26))).bind fun t28 =>
 (cond t28
 (some true)
 ((cond (decide (t20 ≥ 0))
 ((at? l0 t20).bind fun x35 =>
 some x35.2.2.2.2)
 (some false)).bind fun t38 =>
 some t38)).bind fun t39 =>
 cond t39
 ((impl_copyFdb l0).bind fun t41 =>
 some t41)
 ((impl_put l0 (tag1,mac2,port3,0,false)).bind fun t45 =>
 some t45.1)
def F_impl_Learn:Fn:=⟨[.val false (.one (.sl cFent)) false,.val false cNI false,.val false cNI false,.val false cNI false],[.val false (.one (.sl cFent)) true],fun a=>impl_Learn a.1 a.2.1 a.2.2.1 a.2.2.2⟩
theorem m_impl_Learn:Meets Tryz.prog 324 F_impl_Learn:=mkM g_384 324 Tryz.f324 [] F_impl_Learn Tryz.func324 (by kernel_rfl) (by kernel_rfl) (by kernel_rfl)
def fns_324:List (FuncId × Fn):=(324,F_impl_Learn) :: fns_384
theorem g_324:Good Tryz.prog ⟨tis,fns_324,[],false⟩:=g_384.cons m_impl_Learn
def impl_LookUp (l0:List Fent) (tag1:Int) (mac2:Int):Option Int :=
 (impl_entAt l0 tag1 mac2).bind fun t11 =>
 cond (decide (t11 < 0))
 (some (-1))
 ((at? l0 t11).bind fun x16 =>
 some x16.2.2.1)
def F_impl_LookUp:Fn:=⟨[.val false (.one (.sl cFent)) false,.val false cNI false,.val false cNI false],[.val false cNI true],fun a=>impl_LookUp a.1 a.2.1 a.2.2⟩
theorem m_impl_LookUp:Meets Tryz.prog 325 F_impl_LookUp:=mkM g_324 325 Tryz.f325 [] F_impl_LookUp Tryz.func325 (by kernel_rfl) (by kernel_rfl) (by kernel_rfl)
def fns_325:List (FuncId × Fn):=(325,F_impl_LookUp) :: fns_324
theorem g_325:Good Tryz.prog ⟨tis,fns_325,[],false⟩:=g_324.cons m_impl_LookUp
def impl_EgressOf (v0:Vtab) (id1:Int):Option Int :=
 (impl_RowAt v0 id1).bind fun t8 =>
 cond (decide (t8 < 0))
 (some 0)
 ((at? v0.1 t8).bind fun x14 =>
 some x14.2.1)
def F_impl_EgressOf:Fn:=⟨[.val true cVtab false,.val false cNI false],[.val false cNI true],fun a=>impl_EgressOf a.1 a.2⟩
theorem m_impl_EgressOf:Meets Tryz.prog 326 F_impl_EgressOf:=mkM g_325 326 Tryz.f326 [] F_impl_EgressOf Tryz.func326 (by kernel_rfl) (by kernel_rfl) (by kernel_rfl)
def fns_326:List (FuncId × Fn):=(326,F_impl_EgressOf) :: fns_325
theorem g_326:Good Tryz.prog ⟨tis,fns_326,[],false⟩:=g_325.cons m_impl_EgressOf
def impl_Tagged (f0:Frame) (tag1:Int):Option Frame :=
 (impl_copyBytes f0.2.2.2).bind fun t7 =>
 some (f0.1,f0.2.1,tag1,t7)
def F_impl_Tagged:Fn:=⟨[.val true cFrame false,.val false cNI false],[.val true cFrame true],fun a=>impl_Tagged a.1 a.2⟩
theorem m_impl_Tagged:Meets Tryz.prog 327 F_impl_Tagged:=mkM g_326 327 Tryz.f327 [] F_impl_Tagged Tryz.func327 (by kernel_rfl) (by kernel_rfl) (by kernel_rfl)
def fns_327:List (FuncId × Fn):=(327,F_impl_Tagged) :: fns_326
theorem g_327:Good Tryz.prog ⟨tis,fns_327,[],false⟩:=g_326.cons m_impl_Tagged
def impl_ShownTag (v0:Vtab) (id1:Int) (port2:Int):Option Int :=
 (impl_RowAt v0 id1).bind fun t10 =>
 (cond (decide (t10 < 0))
 (some true)
 ((at? v0.1 t10).bind fun x17 =>
 (impl_hasPort x17.2.2 port2).bind fun t21 =>
 some t21)).bind fun t22 =>
 cond t22 (some 0) (some id1)
def F_impl_ShownTag:Fn:=⟨[.val true cVtab false,.val false cNI false,.val false cNI false],[.val false cNI true],fun a=>impl_ShownTag a.1 a.2.1 a.2.2⟩
theorem m_impl_ShownTag:Meets Tryz.prog 328 F_impl_ShownTag:=mkM g_327 328 Tryz.f328 [] F_impl_ShownTag Tryz.func328 (by kernel_rfl) (by kernel_rfl) (by kernel_rfl)
def fns_328:List (FuncId × Fn):=(328,F_impl_ShownTag) :: fns_327
theorem g_328:Good Tryz.prog ⟨tis,fns_328,[],false⟩:=g_327.cons m_impl_ShownTag
def impl_Forward_l0 (p0:Bridge) (i1:Int) (a2:Frame) (t31:Int) (t38:Int × Bool) (t74:Int) (t78:Int) (t13:List Out):Option ((Int × List Out) ⊕ (List Out)) :=
 cond (decide (t78 < (p0.2.2.1.length:Int)))
 ((cond (t78 != i1)
 ((impl_EgressOf (p0.2.2.2.2.1,p0.2.2.2.2.2.1) t38.1).bind fun t89 =>
 (impl_hasPort (band .i64 t31 t89) t78).bind fun t92 =>
 some t92)
 (some false)).bind fun t93 =>
 (cond t93
 ((cond (decide (t74 < 0)) (some true) (some (t74 == t78))).bind fun t101 =>
 some t101)
 (some false)).bind fun t102 =>
 cond t102
 ((impl_ShownTag (p0.2.2.2.2.1,p0.2.2.2.2.2.1) t38.1 t78).bind fun t110 =>
 (impl_Tagged a2 t110).bind fun t111 =>
 (app t13 [(t78,t111.1,t111.2.1,t111.2.2.1,t111.2.2.2)]).bind fun zs114 =>
 some (.inl (w64 (t78 + 1),zs114)))
 (some (.inl (w64 (t78 + 1),t13))))
 (some (.inr t13))
def impl_Forward_l0_1 (p0:Bridge) (i1:Int) (a2:Frame) (t31:Int) (t38:Int × Bool) (t78_1:Int) (t13_2:List Out):Option ((Int × List Out) ⊕ (List Out)) :=
 cond (decide (t78_1 < (p0.2.2.1.length:Int)))
 ((cond (t78_1 != i1)
 ((impl_EgressOf (p0.2.2.2.2.1,p0.2.2.2.2.2.1) t38.1).bind fun t89_1 =>
 (impl_hasPort (band .i64 t31 t89_1) t78_1).bind fun t92_1 =>
 some t92_1)
 (some false)).bind fun t93_1 =>
 (cond t93_1
 ((cond (decide ((-1) < 0)) (some true) (some ((-1) == t78_1))).bind fun t101_1 =>
 some t101_1)
 (some false)).bind fun t102_1 =>
 cond t102_1
 ((impl_ShownTag (p0.2.2.2.2.1,p0.2.2.2.2.2.1) t38.1 t78_1).bind fun t110_1 =>
 (impl_Tagged a2 t110_1).bind fun t111_1 =>
 (app t13_2 [(t78_1,t111_1.1,t111_1.2.1,t111_1.2.2.1,t111_1.2.2.2)]).bind fun zs114_1 =>
 some (.inl (w64 (t78_1 + 1),zs114_1)))
 (some (.inl (w64 (t78_1 + 1),t13_2))))
 (some (.inr t13_2))
def impl_Forward (p0:Bridge) (i1:Int) (a2:Frame):Option (Bridge × List Out) :=
 (impl_copyBridge p0).bind fun t16 =>
 (impl_isPort p0 i1).bind fun t19 =>
 (cond (!t19)
 (some true)
 ((impl_FrameOk a2).bind fun t23 =>
 some (!t23))).bind fun t25 =>
 cond t25
 (some (t16,[]))
 ((impl_Sends p0.1 p0.2.2.1).bind fun t31 =>
 (impl_ClassOf (p0.2.2.2.2.1,p0.2.2.2.2.2.1) i1 a2.2.2.1).bind fun t38 =>
 (impl_hasPort t31 i1).bind fun t43 =>
 (cond (!t43) (some true) (some (!t38.2))).bind fun t48 =>
 cond t48
 ((impl_more p0.2.2.2.2.2.2.2.2.2.1).bind fun t51 =>
 some ((t16.1,t16.2.1,t16.2.2.1,t16.2.2.2.1,t16.2.2.2.2.1,t16.2.2.2.2.2.1,t16.2.2.2.2.2.2.1,t16.2.2.2.2.2.2.2.1,t16.2.2.2.2.2.2.2.2.1,t51,t16.2.2.2.2.2.2.2.2.2.2),[]))
 ((impl_Learn p0.2.2.2.1 t38.1 a2.2.1 i1).bind fun t60 =>
 (impl_more p0.2.2.2.2.2.2.2.2.2.2).bind fun t64 =>
 cond (a2.1 != 0)
 ((impl_LookUp t60 t38.1 a2.1).bind fun t74 =>
 (loop (fun z=>impl_Forward_l0 p0 i1 a2 t31 t38 t74 z.1 z.2) (0,[])).bind fun d =>
 some ((t16.1,t16.2.1,t16.2.2.1,t60,t16.2.2.2.2.1,t16.2.2.2.2.2.1,t16.2.2.2.2.2.2.1,t16.2.2.2.2.2.2.2.1,t16.2.2.2.2.2.2.2.2.1,t16.2.2.2.2.2.2.2.2.2.1,t64),d))
 ((loop (fun z=>impl_Forward_l0_1 p0 i1 a2 t31 t38 z.1 z.2) (0,[])).bind fun d_1 =>
 some ((t16.1,t16.2.1,t16.2.2.1,t60,t16.2.2.2.2.1,t16.2.2.2.2.2.1,t16.2.2.2.2.2.2.1,t16.2.2.2.2.2.2.2.1,t16.2.2.2.2.2.2.2.2.1,t16.2.2.2.2.2.2.2.2.2.1,t64),d_1))))
def F_impl_Forward:Fn:=⟨[.val true cBridge false,.val false cNI false,.val true cFrame false],[.val true cBridge true,.val false (.one (.sl cOut)) true],fun a=>impl_Forward a.1 a.2.1 a.2.2⟩
def a_impl_Forward:List (Nat × LoopAnn):=[(0,⟨⟨(13,false,[.own 1000000000]) :: (78,false,[dI]) :: us 85 8 (us 95 7 []),[(1000000000,.root cOut true)]⟩,
 ⟨[(13,false,[.own 1000000300])],[(1000000300,.root cOut true)]⟩,none⟩)]
theorem m_impl_Forward:Meets Tryz.prog 215 F_impl_Forward:=mkM g_328 215 Tryz.f215 a_impl_Forward F_impl_Forward Tryz.func215 (by kernel_rfl) (by kernel_rfl) (by kernel_rfl)
def fns_215:List (FuncId × Fn):=(215,F_impl_Forward) :: fns_328
theorem g_215:Good Tryz.prog ⟨tis,fns_215,[],false⟩:=g_328.cons m_impl_Forward
def impl_HearVec (b0:Bridge) (port1:Int) (v2:Vec):Option Bridge :=
 (impl_copyBridge b0).bind fun t9 =>
 (impl_isPort b0 port1).bind fun t12 =>
 (cond t12
 ((at? b0.2.2.1 port1).bind fun x17 =>
 some x17.1)
 (some false)).bind fun t20 =>
 (cond t20
 ((impl_VecOk v2).bind fun t23 =>
 some t23)
 (some false)).bind fun t24 =>
 cond t24
 ((ix t9.2.2.1.length port1).bind fun j32 =>
 (t9.2.2.1[j32]?).bind fun x =>
 (ix (t9.2.2.1.set j32 (x.1,x.2.1,true,x.2.2.2.1,x.2.2.2.2.1,x.2.2.2.2.2.1,x.2.2.2.2.2.2.1,x.2.2.2.2.2.2.2)).length port1).bind fun j34 =>
 ((t9.2.2.1.set j32 (x.1,x.2.1,true,x.2.2.2.1,x.2.2.2.2.1,x.2.2.2.2.2.1,x.2.2.2.2.2.2.1,x.2.2.2.2.2.2.2))[j34]?).bind fun x_1 =>
 (impl_Bridge_turn (t9.1,t9.2.1,(t9.2.2.1.set j32 (x.1,x.2.1,true,x.2.2.2.1,x.2.2.2.2.1,x.2.2.2.2.2.1,x.2.2.2.2.2.2.1,x.2.2.2.2.2.2.2)).set j34 (x_1.1,x_1.2.1,x_1.2.2.1,v2.1,v2.2.1,v2.2.2.1,v2.2.2.2.1,v2.2.2.2.2),t9.2.2.2.1,t9.2.2.2.2.1,t9.2.2.2.2.2.1,t9.2.2.2.2.2.2.1,t9.2.2.2.2.2.2.2.1,t9.2.2.2.2.2.2.2.2.1,t9.2.2.2.2.2.2.2.2.2.1,t9.2.2.2.2.2.2.2.2.2.2)).bind fun t36 =>
 some t36)
 (some t9)
def F_impl_HearVec:Fn:=⟨[.val true cBridge false,.val false cNI false,.val true cVec false],[.val true cBridge true],fun a=>impl_HearVec a.1 a.2.1 a.2.2⟩
theorem m_impl_HearVec:Meets Tryz.prog 265 F_impl_HearVec:=mkM g_215 265 Tryz.f265 [] F_impl_HearVec Tryz.func265 (by kernel_rfl) (by kernel_rfl) (by kernel_rfl)
def fns_265:List (FuncId × Fn):=(265,F_impl_HearVec) :: fns_215
theorem g_265:Good Tryz.prog ⟨tis,fns_265,[],false⟩:=g_215.cons m_impl_HearVec
def impl_LinkSet (b0:Bridge) (port1:Int) (up2:Bool):Option Bridge :=
 (impl_copyBridge b0).bind fun t9 =>
 (impl_isPort b0 port1).bind fun t12 =>
 cond t12
 ((at? b0.2.2.1 port1).bind fun x20 =>
 (ix t9.2.2.1.length port1).bind fun j24 =>
 (t9.2.2.1[j24]?).bind fun x =>
 (impl_Bridge_turn (t9.1,t9.2.1,t9.2.2.1.set j24 (up2,x20.2.1,false,0,0,0,0,0),t9.2.2.2.1,t9.2.2.2.2.1,t9.2.2.2.2.2.1,t9.2.2.2.2.2.2.1,t9.2.2.2.2.2.2.2.1,t9.2.2.2.2.2.2.2.2.1,t9.2.2.2.2.2.2.2.2.2.1,t9.2.2.2.2.2.2.2.2.2.2)).bind fun t25 =>
 some t25)
 (some t9)
def F_impl_LinkSet:Fn:=⟨[.val true cBridge false,.val false cNI false,.val false cNB false],[.val true cBridge true],fun a=>impl_LinkSet a.1 a.2.1 a.2.2⟩
theorem m_impl_LinkSet:Meets Tryz.prog 266 F_impl_LinkSet:=mkM g_265 266 Tryz.f266 [] F_impl_LinkSet Tryz.func266 (by kernel_rfl) (by kernel_rfl) (by kernel_rfl)
def fns_266:List (FuncId × Fn):=(266,F_impl_LinkSet) :: fns_265
theorem g_266:Good Tryz.prog ⟨tis,fns_266,[],false⟩:=g_265.cons m_impl_LinkSet
def impl_AgeAll_l0 (l0:List Fent) (t8:Int) (out3:List Fent):Option ((Int × List Fent) ⊕ (List Fent)) :=
 cond (decide (t8 < (l0.length:Int)))
 ((at? l0 t8).bind fun x10 =>
 cond (!x10.2.2.2.2)
 (cond (decide (x10.2.2.2.1 ≥ 4))
 (some (.inl (w64 (t8 + 1),out3)))
 ((app out3 [(x10.1,x10.2.1,x10.2.2.1,w64 (x10.2.2.2.1 + 1),x10.2.2.2.2)]).bind fun zs25 =>
 some (.inl (w64 (t8 + 1),zs25))))
 ((app out3 [x10]).bind fun zs25_1 =>
 some (.inl (w64 (t8 + 1),zs25_1))))
 (some (.inr out3))
def impl_AgeAll (l0:List Fent):Option (List Fent) :=
 (loop (fun z=>impl_AgeAll_l0 l0 z.1 z.2) (0,[])).bind fun d =>
 some d
def F_impl_AgeAll:Fn:=⟨[.val false (.one (.sl cFent)) false],[.val false (.one (.sl cFent)) true],fun a=>impl_AgeAll a⟩
def a_impl_AgeAll:List (Nat × LoopAnn):=[(0,⟨⟨[(3,false,[.own 1000000000]),(8,false,[dI])],[(1000000000,.root cFent true)]⟩,
 ⟨[(3,false,[.own 1000000300])],[(1000000300,.root cFent true)]⟩,none⟩)]
theorem m_impl_AgeAll:Meets Tryz.prog 363 F_impl_AgeAll:=mkM g_266 363 Tryz.f363 a_impl_AgeAll F_impl_AgeAll Tryz.func363 (by kernel_rfl) (by kernel_rfl) (by kernel_rfl)
def fns_363:List (FuncId × Fn):=(363,F_impl_AgeAll) :: fns_266
theorem g_363:Good Tryz.prog ⟨tis,fns_363,[],false⟩:=g_266.cons m_impl_AgeAll
def impl_Tick (b0:Bridge):Option Bridge :=
 (impl_copyBridge b0).bind fun t5 =>
 (impl_BridgeOk b0).bind fun t7 =>
 cond t7
 ((impl_more b0.2.2.2.2.2.2.1).bind fun t10 =>
 (impl_AgeAll b0.2.2.2.1).bind fun t14 =>
 (impl_Bridge_turn (t5.1,t5.2.1,t5.2.2.1,t14,t5.2.2.2.2.1,t5.2.2.2.2.2.1,t10,t5.2.2.2.2.2.2.2.1,t5.2.2.2.2.2.2.2.2.1,t5.2.2.2.2.2.2.2.2.2.1,t5.2.2.2.2.2.2.2.2.2.2)).bind fun t16 =>
 some t16)
 (some t5)
def F_impl_Tick:Fn:=⟨[.val true cBridge false],[.val true cBridge true],fun a=>impl_Tick a⟩
theorem m_impl_Tick:Meets Tryz.prog 267 F_impl_Tick:=mkM g_363 267 Tryz.f267 [] F_impl_Tick Tryz.func267 (by kernel_rfl) (by kernel_rfl) (by kernel_rfl)
def fns_267:List (FuncId × Fn):=(267,F_impl_Tick) :: fns_363
theorem g_267:Good Tryz.prog ⟨tis,fns_267,[],false⟩:=g_363.cons m_impl_Tick
def impl_Agent_act (p0:Agent) (i1:Act):Option (Agent × (List Out) × List Done) :=
 cond (i1.1 == 1)
 ((impl_Arrive p0 i1.2.2.2.1).bind fun t18 =>
 some (t18,[],[]))
 (cond (i1.1 == 2)
 ((impl_in i1.2.1 0 (w64 ((p0.2.2.2.2.2.2.2.2.2.2.2.2.1.length:Int) - 1))).bind fun t30 =>
 cond t30
 ((impl_Agent_work p0 i1.2.1).bind fun t34 =>
 some (t34.1,[],t34.2))
 (some (p0,[],[])))
 (cond (i1.1 == 3)
 ((impl_Forward (p0.1,p0.2.1,p0.2.2.1,p0.2.2.2.1,p0.2.2.2.2.1,p0.2.2.2.2.2.1,p0.2.2.2.2.2.2.1,p0.2.2.2.2.2.2.2.1,p0.2.2.2.2.2.2.2.2.1,p0.2.2.2.2.2.2.2.2.2.1,p0.2.2.2.2.2.2.2.2.2.2.1) i1.2.1 (i1.2.2.2.2.1,i1.2.2.2.2.2.1,i1.2.2.2.2.2.2.1,i1.2.2.2.2.2.2.2.1)).bind fun t46 =>
 some ((t46.1.1,t46.1.2.1,t46.1.2.2.1,t46.1.2.2.2.1,t46.1.2.2.2.2.1,t46.1.2.2.2.2.2.1,t46.1.2.2.2.2.2.2.1,t46.1.2.2.2.2.2.2.2.1,t46.1.2.2.2.2.2.2.2.2.1,t46.1.2.2.2.2.2.2.2.2.2.1,t46.1.2.2.2.2.2.2.2.2.2.2,p0.2.2.2.2.2.2.2.2.2.2.2.1,p0.2.2.2.2.2.2.2.2.2.2.2.2.1,p0.2.2.2.2.2.2.2.2.2.2.2.2.2.1,p0.2.2.2.2.2.2.2.2.2.2.2.2.2.2),t46.2,[]))
 (cond (i1.1 == 4)
 ((impl_HearVec (p0.1,p0.2.1,p0.2.2.1,p0.2.2.2.1,p0.2.2.2.2.1,p0.2.2.2.2.2.1,p0.2.2.2.2.2.2.1,p0.2.2.2.2.2.2.2.1,p0.2.2.2.2.2.2.2.2.1,p0.2.2.2.2.2.2.2.2.2.1,p0.2.2.2.2.2.2.2.2.2.2.1) i1.2.1 i1.2.2.2.2.2.2.2.2).bind fun t65 =>
 some ((t65.1,t65.2.1,t65.2.2.1,t65.2.2.2.1,t65.2.2.2.2.1,t65.2.2.2.2.2.1,t65.2.2.2.2.2.2.1,t65.2.2.2.2.2.2.2.1,t65.2.2.2.2.2.2.2.2.1,t65.2.2.2.2.2.2.2.2.2.1,t65.2.2.2.2.2.2.2.2.2.2,p0.2.2.2.2.2.2.2.2.2.2.2.1,p0.2.2.2.2.2.2.2.2.2.2.2.2.1,p0.2.2.2.2.2.2.2.2.2.2.2.2.2.1,p0.2.2.2.2.2.2.2.2.2.2.2.2.2.2),[],[]))
 (cond (i1.1 == 5)
 ((impl_LinkSet (p0.1,p0.2.1,p0.2.2.1,p0.2.2.2.1,p0.2.2.2.2.1,p0.2.2.2.2.2.1,p0.2.2.2.2.2.2.1,p0.2.2.2.2.2.2.2.1,p0.2.2.2.2.2.2.2.2.1,p0.2.2.2.2.2.2.2.2.2.1,p0.2.2.2.2.2.2.2.2.2.2.1) i1.2.1 i1.2.2.1).bind fun t79 =>
 some ((t79.1,t79.2.1,t79.2.2.1,t79.2.2.2.1,t79.2.2.2.2.1,t79.2.2.2.2.2.1,t79.2.2.2.2.2.2.1,t79.2.2.2.2.2.2.2.1,t79.2.2.2.2.2.2.2.2.1,t79.2.2.2.2.2.2.2.2.2.1,t79.2.2.2.2.2.2.2.2.2.2,p0.2.2.2.2.2.2.2.2.2.2.2.1,p0.2.2.2.2.2.2.2.2.2.2.2.2.1,p0.2.2.2.2.2.2.2.2.2.2.2.2.2.1,p0.2.2.2.2.2.2.2.2.2.2.2.2.2.2),[],[]))
 (cond (i1.1 == 6)
 ((impl_Tick (p0.1,p0.2.1,p0.2.2.1,p0.2.2.2.1,p0.2.2.2.2.1,p0.2.2.2.2.2.1,p0.2.2.2.2.2.2.1,p0.2.2.2.2.2.2.2.1,p0.2.2.2.2.2.2.2.2.1,p0.2.2.2.2.2.2.2.2.2.1,p0.2.2.2.2.2.2.2.2.2.2.1)).bind fun t89 =>
 some ((t89.1,t89.2.1,t89.2.2.1,t89.2.2.2.1,t89.2.2.2.2.1,t89.2.2.2.2.2.1,t89.2.2.2.2.2.2.1,t89.2.2.2.2.2.2.2.1,t89.2.2.2.2.2.2.2.2.1,t89.2.2.2.2.2.2.2.2.2.1,t89.2.2.2.2.2.2.2.2.2.2,p0.2.2.2.2.2.2.2.2.2.2.2.1,p0.2.2.2.2.2.2.2.2.2.2.2.2.1,p0.2.2.2.2.2.2.2.2.2.2.2.2.2.1,p0.2.2.2.2.2.2.2.2.2.2.2.2.2.2),[],[]))
 (some (p0,[],[])))))))
def F_impl_Agent_act:Fn:=⟨[.ptr cAgent true,.val true cAct false],[.val false (.one (.sl cOut)) true,.val false (.one (.sl cDone)) false],fun a=>impl_Agent_act a.1 a.2⟩
theorem m_impl_Agent_act:Meets Tryz.prog 149 F_impl_Agent_act:=mkM g_267 149 Tryz.f149 [] F_impl_Agent_act Tryz.func149 (by kernel_rfl) (by kernel_rfl) (by kernel_rfl)
def fns_149:List (FuncId × Fn):=(149,F_impl_Agent_act) :: fns_267
theorem g_149:Good Tryz.prog ⟨tis,fns_149,[],false⟩:=g_267.cons m_impl_Agent_act
def impl_DoAct (a0:Agent) (x1:Act):Option (Agent × (List Out) × List Done) :=
 (impl_copyAgent a0).bind fun t11 =>
 (impl_AgentOk a0).bind fun t13 =>
 cond (!t13)
 (some (t11,[],[]))
 ((impl_Agent_act t11 x1).bind fun t18 =>
 some t18)
def F_impl_DoAct:Fn:=⟨[.val true cAgent false,.val true cAct false],[.val true cAgent true,.val false (.one (.sl cOut)) true,.val false (.one (.sl cDone)) false],fun a=>impl_DoAct a.1 a.2⟩
theorem m_impl_DoAct:Meets Tryz.prog 45 F_impl_DoAct:=mkM g_149 45 Tryz.f45 [] F_impl_DoAct Tryz.func45 (by kernel_rfl) (by kernel_rfl) (by kernel_rfl)
def fns_45:List (FuncId × Fn):=(45,F_impl_DoAct) :: fns_149
theorem g_45:Good Tryz.prog ⟨tis,fns_45,[],false⟩:=g_149.cons m_impl_DoAct
def laws_FnMoment_l0 (t19:Bridge × List Act) (t6:Int) (b0:Int) (b1:List UInt8) (b6:Int) (b7:Int) (b8:Int) (b9:Int) (b10:Int) (b11:List UInt8) (b13:Int) (b14:Int) (b2:List Pt) (b3:List Fent) (b4:List Vrow) (b5:List Int) (b12:List Job):Option ((Int × Int × List UInt8 × Int × Int × Int × Int × Int × List UInt8 × Int × Int × List Pt × List Fent × List Vrow × List Int × List Job) ⊕ ((Int × List UInt8 × Int × Int × Int × Int × Int × List UInt8 × Int × Int × List Pt × List Fent × List Vrow × List Int × List Job) ⊕ Bool)) :=
 cond (decide (t6 < (t19.2.length:Int)))
 ((at? t19.2 t6).bind fun x34 =>
 (impl_DoAct (b0,b1,b2,b3,b4,b5,b6,b7,b8,b9,b10,b11,b12,b13,b14) x34).bind fun t36 =>
 (impl_AgentOk t36.1).bind fun t41 =>
 (cond (!t41) (some true) (some (decide ((t36.2.2.length:Int) > 1)))).bind fun t47 =>
 cond t47
 (some (.inr (.inr false)))
 (cond ((t36.2.2.length:Int) == 1)
 ((at? t19.2 t6).bind fun x53 =>
 (at? t19.2 t6).bind fun x58 =>
 (cond (x58.1 != 2) (some true) (some (decide (x53.2.1 < 0)))).bind fun t65 =>
 (cond t65 (some true) (some (decide (x53.2.1 ≥ (b12.length:Int))))).bind fun t72 =>
 (cond t72
 (some true)
 ((at? b12 x53.2.1).bind fun x77 =>
 (at? t36.2.2 0).bind fun x81 =>
 some (x77.1 != x81.1))).bind fun t85 =>
 (cond t85
 (some true)
 ((at? b12 x53.2.1).bind fun x90 =>
 some (x90.2.2.1 != 2))).bind fun t94 =>
 cond t94
 (some (.inr (.inr false)))
 ((at? b12 x53.2.1).bind fun x98 =>
 (impl_ReplyOf (b0,b1,b2,b3,b4,b5,b6,b7,b8,b9,b10) (x98.2.2.2.1,x98.2.2.2.2.1,x98.2.2.2.2.2.1,x98.2.2.2.2.2.2.1,x98.2.2.2.2.2.2.2.1)).bind fun t105 =>
 cond (x98.2.2.2.1 != 163)
 ((impl_ReplyOf (x98.2.2.2.2.2.2.2.2.1,x98.2.2.2.2.2.2.2.2.2.1,x98.2.2.2.2.2.2.2.2.2.2.1,x98.2.2.2.2.2.2.2.2.2.2.2.1,x98.2.2.2.2.2.2.2.2.2.2.2.2.1,x98.2.2.2.2.2.2.2.2.2.2.2.2.2.1,x98.2.2.2.2.2.2.2.2.2.2.2.2.2.2.1,x98.2.2.2.2.2.2.2.2.2.2.2.2.2.2.2.1,x98.2.2.2.2.2.2.2.2.2.2.2.2.2.2.2.2.1,x98.2.2.2.2.2.2.2.2.2.2.2.2.2.2.2.2.2.1,x98.2.2.2.2.2.2.2.2.2.2.2.2.2.2.2.2.2.2.1) (x98.2.2.2.1,x98.2.2.2.2.1,x98.2.2.2.2.2.1,x98.2.2.2.2.2.2.1,x98.2.2.2.2.2.2.2.1)).bind fun t118 =>
 (cond (!t118.2.2)
 (some true)
 ((at? t36.2.2 0).bind fun x155 =>
 (laws_samePdu t118.2.1 x155.2).bind fun t158 =>
 some (!t158))).bind fun t160 =>
 (cond t160
 (some true)
 ((impl_SameBridge (b0,b1,b2,b3,b4,b5,b6,b7,b8,b9,b10) (t36.1.1,t36.1.2.1,t36.1.2.2.1,t36.1.2.2.2.1,t36.1.2.2.2.2.1,t36.1.2.2.2.2.2.1,t36.1.2.2.2.2.2.2.1,t36.1.2.2.2.2.2.2.2.1,t36.1.2.2.2.2.2.2.2.2.1,t36.1.2.2.2.2.2.2.2.2.2.1,t36.1.2.2.2.2.2.2.2.2.2.2.1)).bind fun t165 =>
 some (!t165))).bind fun t167 =>
 cond t167
 (some (.inr (.inr false)))
 (some (.inl (w64 (t6 + 1),t36.1.1,t36.1.2.1,t36.1.2.2.2.2.2.2.1,t36.1.2.2.2.2.2.2.2.1,t36.1.2.2.2.2.2.2.2.2.1,t36.1.2.2.2.2.2.2.2.2.2.1,t36.1.2.2.2.2.2.2.2.2.2.2.1,t36.1.2.2.2.2.2.2.2.2.2.2.2.1,t36.1.2.2.2.2.2.2.2.2.2.2.2.2.2.1,t36.1.2.2.2.2.2.2.2.2.2.2.2.2.2.2,t36.1.2.2.1,t36.1.2.2.2.1,t36.1.2.2.2.2.1,t36.1.2.2.2.2.2.1,t36.1.2.2.2.2.2.2.2.2.2.2.2.2.1))))
 (cond (b10 != x98.2.2.2.2.2.2.2.2.2.2.2.2.2.2.2.2.2.2.1)
 ((at? t36.2.2 0).bind fun x134 =>
 (cond (x98.2.2.2.2.2.2.2.2.2.2.2.2.2.2.2.2.2.2.2.2 == 3)
 ((cond (x134.2.2.2.1 == 6) (some true) (some (x134.2.2.2.1 == 7))).bind fun t148 =>
 some t148)
 (some false)).bind fun t149 =>
 (cond (!t149)
 (some true)
 ((at? t36.2.2 0).bind fun x155_1 =>
 (laws_samePdu x134.2 x155_1.2).bind fun t158_1 =>
 some (!t158_1))).bind fun t160_1 =>
 (cond t160_1
 (some true)
 ((impl_SameBridge (b0,b1,b2,b3,b4,b5,b6,b7,b8,b9,b10) (t36.1.1,t36.1.2.1,t36.1.2.2.1,t36.1.2.2.2.1,t36.1.2.2.2.2.1,t36.1.2.2.2.2.2.1,t36.1.2.2.2.2.2.2.1,t36.1.2.2.2.2.2.2.2.1,t36.1.2.2.2.2.2.2.2.2.1,t36.1.2.2.2.2.2.2.2.2.2.1,t36.1.2.2.2.2.2.2.2.2.2.2.1)).bind fun t165_1 =>
 some (!t165_1))).bind fun t167_1 =>
 cond t167_1
 (some (.inr (.inr false)))
 (some (.inl (w64 (t6 + 1),t36.1.1,t36.1.2.1,t36.1.2.2.2.2.2.2.1,t36.1.2.2.2.2.2.2.2.1,t36.1.2.2.2.2.2.2.2.2.1,t36.1.2.2.2.2.2.2.2.2.2.1,t36.1.2.2.2.2.2.2.2.2.2.2.1,t36.1.2.2.2.2.2.2.2.2.2.2.2.1,t36.1.2.2.2.2.2.2.2.2.2.2.2.2.2.1,t36.1.2.2.2.2.2.2.2.2.2.2.2.2.2.2,t36.1.2.2.1,t36.1.2.2.2.1,t36.1.2.2.2.2.1,t36.1.2.2.2.2.2.1,t36.1.2.2.2.2.2.2.2.2.2.2.2.2.1))))
 ((cond (!t105.2.2)
 (some true)
 ((at? t36.2.2 0).bind fun x155_2 =>
 (laws_samePdu t105.2.1 x155_2.2).bind fun t158_2 =>
 some (!t158_2))).bind fun t160_2 =>
 (cond t160_2
 (some true)
 ((impl_SameBridge t105.1 (t36.1.1,t36.1.2.1,t36.1.2.2.1,t36.1.2.2.2.1,t36.1.2.2.2.2.1,t36.1.2.2.2.2.2.1,t36.1.2.2.2.2.2.2.1,t36.1.2.2.2.2.2.2.2.1,t36.1.2.2.2.2.2.2.2.2.1,t36.1.2.2.2.2.2.2.2.2.2.1,t36.1.2.2.2.2.2.2.2.2.2.2.1)).bind fun t165_2 =>
 some (!t165_2))).bind fun t167_2 =>
 cond t167_2
 (some (.inr (.inr false)))
 (some (.inl (w64 (t6 + 1),t36.1.1,t36.1.2.1,t36.1.2.2.2.2.2.2.1,t36.1.2.2.2.2.2.2.2.1,t36.1.2.2.2.2.2.2.2.2.1,t36.1.2.2.2.2.2.2.2.2.2.1,t36.1.2.2.2.2.2.2.2.2.2.2.1,t36.1.2.2.2.2.2.2.2.2.2.2.2.1,t36.1.2.2.2.2.2.2.2.2.2.2.2.2.2.1,t36.1.2.2.2.2.2.2.2.2.2.2.2.2.2.2,t36.1.2.2.1,t36.1.2.2.2.1,t36.1.2.2.2.2.1,t36.1.2.2.2.2.2.1,t36.1.2.2.2.2.2.2.2.2.2.2.2.2.1)))))))
 (some (.inl (w64 (t6 + 1),t36.1.1,t36.1.2.1,t36.1.2.2.2.2.2.2.1,t36.1.2.2.2.2.2.2.2.1,t36.1.2.2.2.2.2.2.2.2.1,t36.1.2.2.2.2.2.2.2.2.2.1,t36.1.2.2.2.2.2.2.2.2.2.2.1,t36.1.2.2.2.2.2.2.2.2.2.2.2.1,t36.1.2.2.2.2.2.2.2.2.2.2.2.2.2.1,t36.1.2.2.2.2.2.2.2.2.2.2.2.2.2.2,t36.1.2.2.1,t36.1.2.2.2.1,t36.1.2.2.2.2.1,t36.1.2.2.2.2.2.1,t36.1.2.2.2.2.2.2.2.2.2.2.2.2.1)))))
 (some (.inr (.inl (b0,b1,b6,b7,b8,b9,b10,b11,b13,b14,b2,b3,b4,b5,b12))))
def laws_FnMoment (p0:List Int):Option Bool :=
 (laws_big p0).bind fun t16 =>
 cond t16
 (some true)
 ((spec_DrawPlay p0).bind fun t19 =>
 (impl_AgentNew t19.1 [121,97,114,100]).bind fun t23 =>
 (loop (fun z=>laws_FnMoment_l0 t19 z.1 z.2.1 z.2.2.1 z.2.2.2.1 z.2.2.2.2.1 z.2.2.2.2.2.1 z.2.2.2.2.2.2.1 z.2.2.2.2.2.2.2.1 z.2.2.2.2.2.2.2.2.1 z.2.2.2.2.2.2.2.2.2.1 z.2.2.2.2.2.2.2.2.2.2.1 z.2.2.2.2.2.2.2.2.2.2.2.1 z.2.2.2.2.2.2.2.2.2.2.2.2.1 z.2.2.2.2.2.2.2.2.2.2.2.2.2.1 z.2.2.2.2.2.2.2.2.2.2.2.2.2.2.1 z.2.2.2.2.2.2.2.2.2.2.2.2.2.2.2) (0,t23.1,t23.2.1,t23.2.2.2.2.2.2.1,t23.2.2.2.2.2.2.2.1,t23.2.2.2.2.2.2.2.2.1,t23.2.2.2.2.2.2.2.2.2.1,t23.2.2.2.2.2.2.2.2.2.2.1,t23.2.2.2.2.2.2.2.2.2.2.2.1,t23.2.2.2.2.2.2.2.2.2.2.2.2.2.1,t23.2.2.2.2.2.2.2.2.2.2.2.2.2.2,t23.2.2.1,t23.2.2.2.1,t23.2.2.2.2.1,t23.2.2.2.2.2.1,t23.2.2.2.2.2.2.2.2.2.2.2.2.1)).bind (Sum.elim (fun d =>
 some true) (fun r=>some r)))
def F_laws_FnMoment:Fn:=⟨[.val false cNY false],[.val false cNB true],fun a=>laws_FnMoment a⟩
def a_laws_FnMoment:List (Nat × LoopAnn):=[(0,⟨⟨(6,false,[dI]) :: us 44 3 (us 63 2 (us 67 5 (us 74 11 (us 87 7 (us 141 8 (us 153 7 (us 162 5 []))))))),[(1051648,.box [dI,dS,.own 1000000000,.own 1000000001,.own 1000000002,.own 1000000003,dI,dI,dI,dI,dI,dS,.own 1000000004,dI,dI]),(1000000000,.root cPt true),(1000000001,.root cFent true),(1000000002,.root cVrow true),(1000000003,.root cNI true),(1000000004,.root cJob true)]⟩,
 ⟨[],[(1051648,.box [dI,dS,.own 1000000300,.own 1000000301,.own 1000000302,.own 1000000303,dI,dI,dI,dI,dI,dS,.own 1000000304,dI,dI]),(1000000300,.root cPt true),(1000000301,.root cFent true),(1000000302,.root cVrow true),(1000000303,.root cNI true),(1000000304,.root cJob true)]⟩,some ⟨[(2,false,[dB])],[]⟩⟩)]
theorem m_laws_FnMoment:Meets Tryz.prog 6 F_laws_FnMoment:=mkM g_45 6 Tryz.f6 a_laws_FnMoment F_laws_FnMoment Tryz.func6 (by kernel_rfl) (by kernel_rfl) (by kernel_rfl)
def spec_GetTlv (p0:List Int) (i1:Int):Option (Int × (List Int) × Int × Bool) :=
 (cond (decide (i1 < 0)) (some true) (some (decide (i1 ≥ (p0.length:Int))))).bind fun t17 =>
 (cond t17 (some true) (some (decide ((w64 (i1 + 1)) ≥ (p0.length:Int))))).bind fun t24 =>
 cond t24
 (some (0,([]:List Int),0,false))
 ((at? p0 (w64 (i1 + 1))).bind fun x29 =>
 cond (decide ((w64 (x29)) > 127))
 ((cond ((w64 (x29)) != 129) (some true) (some (decide ((w64 (i1 + 2)) ≥ (p0.length:Int))))).bind fun t43 =>
 (cond t43
 (some true)
 ((at? p0 (w64 (i1 + 2))).bind fun x47 =>
 some (decide (x47 < 128)))).bind fun t50 =>
 cond t50
 (some (0,([]:List Int),0,false))
 ((at? p0 (w64 (i1 + 2))).bind fun x54 =>
 (cond (decide ((w64 (x54)) > 250))
 (some true)
 (some (decide ((w64 (x54)) > (w64 ((p0.length:Int) - (w64 ((w64 (i1 + 2)) + 1)))))))).bind fun t68 =>
 cond t68
 (some (0,([]:List Int),0,false))
 ((at? p0 i1).bind fun x72 =>
 (cut p0 (w64 ((w64 (i1 + 2)) + 1)) (w64 ((w64 ((w64 (i1 + 2)) + 1)) + (w64 (x54))))).bind fun t81 =>
 (app ([]:List Int) t81).bind fun zs82 =>
 let t6:=w64 ((w64 ((w64 (i1 + 2)) + 1)) + (w64 (x54)))
 some (w64 (x72),zs82,t6,true))))
 ((cond (decide ((w64 (x29)) > 250))
 (some true)
 (some (decide ((w64 (x29)) > (w64 ((p0.length:Int) - (w64 (i1 + 2)))))))).bind fun t68_1 =>
 cond t68_1
 (some (0,([]:List Int),0,false))
 ((at? p0 i1).bind fun x72_1 =>
 (cut p0 (w64 (i1 + 2)) (w64 ((w64 (i1 + 2)) + (w64 (x29))))).bind fun t81_1 =>
 (app ([]:List Int) t81_1).bind fun zs82_1 =>
 let t6_1:=w64 ((w64 (i1 + 2)) + (w64 (x29)))
 some (w64 (x72_1),zs82_1,t6_1,true))))
def spec_l4Part (r0:Parts) (tag1:Int):Option (Parts × List Int) :=
 (spec_GetTlv r0.1 r0.2.1).bind fun t18 =>
 (cond r0.2.2 (some true) (some (!t18.2.2.2))).bind fun t30 =>
 (cond t30 (some true) (some (t18.1 != tag1))).bind fun t35 =>
 cond t35
 (some ((r0.1,r0.2.1,true),([]:List Int)))
 (some ((r0.1,t18.2.2.1,r0.2.2),t18.2.1))
def spec_GetInt_l0 (b0:List Int) (n4:Int) (i5:Int):Option ((Int × Int) ⊕ Int) :=
 cond (decide (i5 < (b0.length:Int)))
 ((at? b0 i5).bind fun x28 =>
 let n4_1:=bor .i64 (w64 (n4 * 2 ^ 8)) (w64 (x28))
 some (.inl (n4_1,w64 (i5 + 1))))
 (some (.inr n4))
def spec_GetInt_l0_1 (b0:List Int) (n4_3:Int) (i5_1:Int):Option ((Int × Int) ⊕ Int) :=
 cond (decide (i5_1 < (b0.length:Int)))
 ((at? b0 i5_1).bind fun x28_1 =>
 let n4_4:=bor .i64 (w64 (n4_3 * 2 ^ 8)) (w64 (x28_1))
 some (.inl (n4_4,w64 (i5_1 + 1))))
 (some (.inr n4_3))
def spec_GetInt (b0:List Int):Option (Int × Bool) :=
 (spec_l1In (b0.length:Int) 1 4).bind fun t8 =>
 cond (!t8)
 (some (0,false))
 ((at? b0 0).bind fun x11 =>
 cond (decide ((w64 (x11)) > 127))
 ((loop (fun z=>spec_GetInt_l0 b0 z.1 z.2) (w64 ((w64 (x11)) - 256),1)).bind fun d =>
 (spec_PutInt d).bind fun t33 =>
 cond ((t33.length:Int) != (b0.length:Int)) (some (0,false)) (some (d,true)))
 ((loop (fun z=>spec_GetInt_l0_1 b0 z.1 z.2) (w64 (x11),1)).bind fun d_1 =>
 (spec_PutInt d_1).bind fun t33_1 =>
 cond ((t33_1.length:Int) != (b0.length:Int)) (some (0,false)) (some (d_1,true))))
def spec_l4Num (r0:Parts):Option (Parts × Int) :=
 (spec_l4Part r0 2).bind fun t7 =>
 (spec_GetInt t7.2).bind fun t8 =>
 (cond t7.1.2.2 (some true) (some (!t8.2))).bind fun t19 =>
 some ((t7.1.1,t7.1.2.1,t19),t8.1)
def spec_GetOid_l2 (p0:List Int) (t5_1:Int) (t6:Int) (t7:Int) (t8:Bool):Option ((Int × Int × Int × Bool) ⊕ (Int × Int × Int × Bool)) :=
 (cond t8 (some (decide (t5_1 < (p0.length:Int)))) (some false)).bind fun t25 =>
 (cond t25 (some (decide (t7 < 4))) (some false)).bind fun t29 =>
 cond t29
 ((at? p0 t5_1).bind fun x34 =>
 let t6_1:=bor .i64 (w64 (t6 * 2 ^ 7)) (w64 (band .u8 x34 127))
 (at? p0 t5_1).bind fun x41 =>
 some (.inl (w64 (t5_1 + 1),t6_1,w64 (t7 + 1),decide (x41 > 127))))
 (some (.inr (t5_1,t6,t7,t8)))
def spec_GetOid_l0 (p0:List Int) (t5:Int) (t4:List Int):Option ((Int × List Int) ⊕ ((Int × List Int) ⊕ (Bool × List Int))) :=
 (cond (decide (t5 < (p0.length:Int))) (some (decide ((t4.length:Int) ≤ 10))) (some false)).bind fun t18 =>
 cond t18
 ((loop (fun z=>spec_GetOid_l2 p0 z.1 z.2.1 z.2.2.1 z.2.2.2) (t5,0,0,true)).bind fun d =>
 (cond d.2.2.2
 (some true)
 ((spec_l2Group d.2.1).bind fun t51 =>
 some ((t51.length:Int) != d.2.2.1))).bind fun t55 =>
 cond t55
 (some (.inr (.inr (false,([]:List Int)))))
 ((app t4 [d.2.1]).bind fun zs60 =>
 some (.inl (d.1,zs60))))
 (some (.inr (.inl (t5,t4))))
def spec_GetOid (p0:List Int):Option ((List Int) × Bool) :=
 (loop (fun z=>spec_GetOid_l0 p0 z.1 z.2) (0,([]:List Int))).bind (Sum.elim (fun d_1 =>
 (cond (d_1.1 != (p0.length:Int))
 (some true)
 ((spec_OidOk d_1.2).bind fun t67 =>
 some (!t67))).bind fun t69 =>
 cond t69 (some (([]:List Int),false)) (some (d_1.2,true))) (fun r=>some (r.2,r.1)))
def spec_GetVal (b0:List Int) (at1:Int):Option (Val × Int × Bool) :=
 (spec_GetTlv b0 at1).bind fun t16 =>
 cond (t16.1 == 2)
 ((spec_GetInt t16.2.1).bind fun t31 =>
 (cond (!t16.2.2.2) (some true) (some (!t31.2))).bind fun t53 =>
 (cond t53
 (some true)
 ((spec_ValOk (t16.1,t31.1,[],[])).bind fun t56 =>
 some (!t56))).bind fun t58 =>
 cond t58
 (some ((0,0,[],[]),0,false))
 (some ((t16.1,t31.1,[],[]),t16.2.2.1,true)))
 (cond (t16.1 == 4)
 ((cond (!t16.2.2.2) (some true) (some (!true))).bind fun t53_1 =>
 (cond t53_1
 (some true)
 ((spec_ValOk (t16.1,0,bytesOf t16.2.1,[])).bind fun t56_1 =>
 some (!t56_1))).bind fun t58_1 =>
 cond t58_1
 (some ((0,0,[],[]),0,false))
 (some ((t16.1,0,bytesOf t16.2.1,[]),t16.2.2.1,true)))
 (cond (t16.1 == 6)
 ((spec_GetOid t16.2.1).bind fun t44 =>
 (cond (!t16.2.2.2) (some true) (some (!t44.2))).bind fun t53_2 =>
 (cond t53_2
 (some true)
 ((spec_ValOk (t16.1,0,[],t44.1)).bind fun t56_2 =>
 some (!t56_2))).bind fun t58_2 =>
 cond t58_2
 (some ((0,0,[],[]),0,false))
 (some ((t16.1,0,[],t44.1),t16.2.2.1,true)))
 (let is12:=(t16.2.1.length:Int) == 0
 (cond (!t16.2.2.2) (some true) (some (!is12))).bind fun t53_3 =>
 (cond t53_3
 (some true)
 ((spec_ValOk (t16.1,0,[],[])).bind fun t56_3 =>
 some (!t56_3))).bind fun t58_3 =>
 cond t58_3
 (some ((0,0,[],[]),0,false))
 (some ((t16.1,0,[],[]),t16.2.2.1,true)))))
def spec_l4Bind (b0:List Int):Option (Bind × Bool) :=
 (spec_l4Part (b0,0,false) 6).bind fun t15 =>
 (spec_GetOid t15.2).bind fun t16 =>
 (spec_GetVal b0 t15.1.2.1).bind fun t25 =>
 (cond t15.1.2.2 (some true) (some (!t16.2))).bind fun t36 =>
 (cond t36 (some true) (some (!t25.2.2))).bind fun t40 =>
 (cond t40 (some true) (some (t25.2.1 != (b0.length:Int)))).bind fun t46 =>
 cond t46
 (some (([],0,0,[],[]),false))
 (some ((t16.1,t25.1.1,t25.1.2.1,t25.1.2.2.1,t25.1.2.2.2),true))
def spec_GetPdu_l0 (b0:List Int) (b1:Int) (b2:Bool) (b0_1:Int) (b1_1:Int) (b2_1:Int) (b3:Int) (b0_2:List Int) (b1_2:Int) (b2_2:Bool) (b4:List Bind):Option ((List Int × Int × Bool × Int × Int × Int × Int × List Int × Int × Bool × List Bind) ⊕ (List Int × Int × Bool × Int × Int × Int × Int × List Int × Int × Bool × List Bind)) :=
 (cond (!b2) (some (decide (b1_2 < (b0_2.length:Int)))) (some false)).bind fun t54 =>
 (cond t54 (some (decide ((b4.length:Int) ≤ 10))) (some false)).bind fun t60 =>
 cond t60
 ((spec_l4Part (b0_2,b1_2,b2_2) 48).bind fun t63 =>
 (spec_l4Bind t63.2).bind fun t64 =>
 (cond t63.1.2.2 (some true) (some (!t64.2))).bind fun t75 =>
 (app b4 [t64.1]).bind fun zs82 =>
 some (.inl (b0,b1,t75,b0_1,b1_1,b2_1,b3,t63.1.1,t63.1.2.1,t63.1.2.2,zs82)))
 (some (.inr (b0,b1,b2,b0_1,b1_1,b2_1,b3,b0_2,b1_2,b2_2,b4)))
def spec_GetPdu (p0:List Int):Option (Pdu × Bool) :=
 (spec_GetTlv p0 0).bind fun t15 =>
 (spec_l4Num (t15.2.1,0,false)).bind fun t26 =>
 (spec_l4Num t26.1).bind fun t29 =>
 (spec_l4Num t29.1).bind fun t32 =>
 (spec_l4Part t32.1 48).bind fun t35 =>
 (loop (fun z=>spec_GetPdu_l0 z.1 z.2.1 z.2.2.1 z.2.2.2.1 z.2.2.2.2.1 z.2.2.2.2.2.1 z.2.2.2.2.2.2.1 z.2.2.2.2.2.2.2.1 z.2.2.2.2.2.2.2.2.1 z.2.2.2.2.2.2.2.2.2.1 z.2.2.2.2.2.2.2.2.2.2) (t35.1.1,t35.1.2.1,t35.1.2.2,t15.1,t26.2,t29.2,t32.2,t35.2,0,false,[])).bind fun d =>
 (cond (!t15.2.2.2) (some true) (some (t15.2.2.1 != (p0.length:Int)))).bind fun t91 =>
 (cond t91 (some true) (some d.2.2.1)).bind fun t97 =>
 (cond t97 (some true) (some (d.2.1 != (t15.2.1.length:Int)))).bind fun t106 =>
 (cond t106
 (some true)
 (some (d.2.2.2.2.2.2.2.2.1 != (d.2.2.2.2.2.2.2.1.length:Int)))).bind fun t118 =>
 (cond t118
 (some true)
 ((spec_PduOk (d.2.2.2.1,d.2.2.2.2.1,d.2.2.2.2.2.1,d.2.2.2.2.2.2.1,d.2.2.2.2.2.2.2.2.2.2)).bind fun t121 =>
 some (!t121))).bind fun t123 =>
 cond t123
 (some ((0,0,0,0,[]),false))
 (some ((d.2.2.2.1,d.2.2.2.2.1,d.2.2.2.2.2.1,d.2.2.2.2.2.2.1,d.2.2.2.2.2.2.2.2.2.2),true))
def spec_GetMsg (p0:List UInt8) (i1:List Int):Option (Pdu × Int) :=
 (spec_GetTlv i1 0).bind fun t17 =>
 (spec_l4Num (t17.2.1,0,false)).bind fun t26 =>
 (spec_l4Part t26.1 4).bind fun t28 =>
 (cond (!t17.2.2.2) (some true) (some (t17.1 != 48))).bind fun t34 =>
 (cond t34 (some true) (some (t17.2.2.1 != (i1.length:Int)))).bind fun t40 =>
 (cond t40 (some true) (some t28.1.2.2)).bind fun t46 =>
 cond t46
 (some ((0,0,0,0,[]),1))
 (cond (t26.2 != 1)
 (some ((0,0,0,0,[]),2))
 (cond (!((bytesOf t28.2) == p0))
 (some ((0,0,0,0,[]),3))
 ((cut t17.2.1 t28.1.2.1 (t17.2.1.length:Int)).bind fun t62 =>
 (spec_GetPdu t62).bind fun t63 =>
 cond (!t63.2) (some ((0,0,0,0,[]),1)) (some (t63.1,0)))))
def spec_l11Copy (b0:Bridge):Option Bridge :=
 (app ([]:List Pt) b0.2.2.1).bind fun zs8 =>
 (spec_l8Copy b0.2.2.2.1).bind fun t12 =>
 (spec_l9Copy (b0.2.2.2.2.1,b0.2.2.2.2.2.1)).bind fun t16 =>
 some (b0.1,b0.2.1,zs8,t12,t16.1,t16.2,b0.2.2.2.2.2.2.1,b0.2.2.2.2.2.2.2.1,b0.2.2.2.2.2.2.2.2.1,b0.2.2.2.2.2.2.2.2.2.1,b0.2.2.2.2.2.2.2.2.2.2)
def spec_SameOid_l0 (a0:List Int) (b1:List Int) (i5:Int):Option (Int ⊕ (Unit ⊕ Bool)) :=
 cond (decide (i5 < (a0.length:Int)))
 ((at? a0 i5).bind fun x19 =>
 (at? b1 i5).bind fun x23 =>
 cond (x19 != x23) (some (.inr (.inr false))) (some (.inl (w64 (i5 + 1)))))
 (some (.inr (.inl ())))
def spec_SameOid (a0:List Int) (b1:List Int):Option Bool :=
 cond ((a0.length:Int) != (b1.length:Int))
 (some false)
 ((loop (fun z=>spec_SameOid_l0 a0 b1 z) 0).bind (Sum.elim (fun d =>
 some true) (fun r=>some r)))
def spec_Below (o0:List Int) (head1:List Int):Option Bool :=
 (cond (decide ((o0.length:Int) > (head1.length:Int)))
 ((cut o0 0 (head1.length:Int)).bind fun t14 =>
 (spec_SameOid t14 head1).bind fun t16 =>
 some t16)
 (some false)).bind fun t17 =>
 some t17
def spec_l18Below (o0:List Int):Option ((List Int) × Bool) :=
 (spec_Below o0 ([1,3,1]:List Int)).bind fun t6 =>
 cond (!t6)
 (some (([]:List Int),false))
 ((cut o0 3 (o0.length:Int)).bind fun t10 =>
 some (t10,true))
def spec_l18May (p0:Bridge) (i1:List Int):Option Bool :=
 (spec_l18Below i1).bind fun t9 =>
 cond (!t9.2)
 (some false)
 (cond ((t9.1.length:Int) == 2)
 ((at? t9.1 0).bind fun x18 =>
 (cond (x18 == 1)
 ((at? t9.1 1).bind fun x23 =>
 some (x23 == 1))
 (some false)).bind fun t26 =>
 some t26)
 (cond ((t9.1.length:Int) != 3)
 (some false)
 ((at? t9.1 0).bind fun x31 =>
 cond (x31 == 2)
 ((at? t9.1 1).bind fun x36 =>
 (cond (x36 == 2)
 (some true)
 ((at? t9.1 1).bind fun x41 =>
 some (x41 == 4))).bind fun t44 =>
 (cond t44
 ((at? t9.1 2).bind fun x47 =>
 (spec_l1In x47 1 (p0.2.2.1.length:Int)).bind fun t52 =>
 some t52)
 (some false)).bind fun t53 =>
 some t53)
 (cond (x31 == 3)
 ((at? t9.1 1).bind fun x57 =>
 (cond (x57 == 1)
 ((at? t9.1 2).bind fun x62 =>
 (spec_l1In x62 1 99).bind fun t64 =>
 some t64)
 (some false)).bind fun t65 =>
 (cond t65
 (some true)
 ((at? t9.1 1).bind fun x68 =>
 (cond (x68 == 2)
 (some true)
 ((at? t9.1 1).bind fun x73 =>
 some (x73 == 3))).bind fun t76 =>
 (cond t76
 ((at? t9.1 2).bind fun x81 =>
 (spec_RowAt (p0.2.2.2.2.1,p0.2.2.2.2.2.1) x81).bind fun t83 =>
 some (decide (t83 ≥ 0)))
 (some false)).bind fun t85 =>
 some t85)).bind fun t86 =>
 some t86)
 (some false)))))
def spec_l18Seen (p0:Bridge) (i1:List Int):Option Bool :=
 (spec_l18Below i1).bind fun t9 =>
 cond (!t9.2)
 (some false)
 (cond ((t9.1.length:Int) == 2)
 ((at? t9.1 0).bind fun x19 =>
 (cond (x19 == 1)
 ((at? t9.1 1).bind fun x24 =>
 (spec_l1In x24 2 5).bind fun t26 =>
 some t26)
 (some false)).bind fun t27 =>
 some t27)
 (cond ((t9.1.length:Int) == 3)
 ((at? t9.1 0).bind fun x31 =>
 (cond (x31 == 2)
 ((at? t9.1 1).bind fun x36 =>
 (cond (x36 == 1)
 (some true)
 ((at? t9.1 1).bind fun x41 =>
 some (x41 == 3))).bind fun t44 =>
 some t44)
 (some false)).bind fun t45 =>
 (cond t45
 ((at? t9.1 2).bind fun x48 =>
 (spec_l1In x48 1 (p0.2.2.1.length:Int)).bind fun t53 =>
 some t53)
 (some false)).bind fun t54 =>
 some t54)
 (cond ((t9.1.length:Int) == 4)
 ((at? t9.1 0).bind fun x58 =>
 (cond (x58 == 4)
 ((at? t9.1 1).bind fun x63 =>
 some (x63 == 1))
 (some false)).bind fun t66 =>
 (cond t66
 ((at? t9.1 2).bind fun x71 =>
 (at? t9.1 3).bind fun x74 =>
 (spec_l8At p0.2.2.2.1 x71 x74).bind fun t76 =>
 some (decide (t76 ≥ 0)))
 (some false)).bind fun t78 =>
 some t78)
 (some false))))
def spec_l18Port (b0:Bridge) (c1:Int) (p2:Int) (n3:Int):Option (Bridge × Int) :=
 cond (c1 == 2)
 ((spec_l1In n3 1 1000).bind fun t13 =>
 cond (!t13)
 (some (b0,2))
 ((ix b0.2.2.1.length p2).bind fun j20 =>
 (b0.2.2.1[j20]?).bind fun x =>
 some ((b0.1,b0.2.1,b0.2.2.1.set j20 (x.1,n3,x.2.2.1,x.2.2.2.1,x.2.2.2.2.1,x.2.2.2.2.2.1,x.2.2.2.2.2.2.1,x.2.2.2.2.2.2.2),b0.2.2.2.1,b0.2.2.2.2.1,b0.2.2.2.2.2.1,b0.2.2.2.2.2.2.1,b0.2.2.2.2.2.2.2.1,b0.2.2.2.2.2.2.2.2.1,b0.2.2.2.2.2.2.2.2.2.1,b0.2.2.2.2.2.2.2.2.2.2),0)))
 ((ix b0.2.2.2.2.2.1.length p2).bind fun j28 =>
 (b0.2.2.2.2.2.1[j28]?).bind fun x_1 =>
 some ((b0.1,b0.2.1,b0.2.2.1,b0.2.2.2.1,b0.2.2.2.2.1,b0.2.2.2.2.2.1.set j28 n3,b0.2.2.2.2.2.2.1,b0.2.2.2.2.2.2.2.1,b0.2.2.2.2.2.2.2.2.1,b0.2.2.2.2.2.2.2.2.2.1,b0.2.2.2.2.2.2.2.2.2.2),0))
def spec_l18Status (b0:Bridge) (id1:Int) (n2:Int):Option (Bridge × Int) :=
 (spec_RowAt (b0.2.2.2.2.1,b0.2.2.2.2.2.1) id1).bind fun t12 =>
 (cond (n2 == 4) (some (decide (t12 < 0))) (some false)).bind fun t19 =>
 (cond t19 (some (decide ((b0.2.2.2.2.1.length:Int) < 6))) (some false)).bind fun t26 =>
 cond t26
 ((spec_l9Row (b0.2.2.2.2.1,b0.2.2.2.2.2.1) (id1,0,0)).bind fun t31 =>
 some ((b0.1,b0.2.1,b0.2.2.1,b0.2.2.2.1,t31.1,t31.2,b0.2.2.2.2.2.2.1,b0.2.2.2.2.2.2.2.1,b0.2.2.2.2.2.2.2.2.1,b0.2.2.2.2.2.2.2.2.2.1,b0.2.2.2.2.2.2.2.2.2.2),0))
 ((cond (n2 == 6) (some (decide (t12 ≥ 0))) (some false)).bind fun t40 =>
 cond t40
 ((cutIx b0.2.2.2.2.1.length 0 t12).bind fun p =>
 (app ([]:List Vrow) ((b0.2.2.2.2.1.take p.2).drop p.1)).bind fun zs47 =>
 (cutIx b0.2.2.2.2.1.length (w64 (t12 + 1)) (b0.2.2.2.2.1.length:Int)).bind fun p_1 =>
 (app zs47 ((b0.2.2.2.2.1.take p_1.2).drop p_1.1)).bind fun zs54 =>
 some ((b0.1,b0.2.1,b0.2.2.1,b0.2.2.2.1,zs54,b0.2.2.2.2.2.1,b0.2.2.2.2.2.2.1,b0.2.2.2.2.2.2.2.1,b0.2.2.2.2.2.2.2.2.1,b0.2.2.2.2.2.2.2.2.2.1,b0.2.2.2.2.2.2.2.2.2.2),0))
 (some (b0,2)))
def spec_l18Row (b0:Bridge) (c1:Int) (id2:Int) (n3:Int):Option (Bridge × Int) :=
 cond (c1 == 1)
 ((spec_l18Status b0 id2 n3).bind fun t16 =>
 some t16)
 ((shl .i64 1 (IntKind.u64.wrap ((b0.2.2.1.length:Int)))).bind fun t24 =>
 (spec_l1In n3 0 (w64 (t24 - 1))).bind fun t26 =>
 cond (!t26)
 (some (b0,2))
 ((spec_RowAt (b0.2.2.2.2.1,b0.2.2.2.2.2.1) id2).bind fun t35 =>
 (ix b0.2.2.2.2.1.length t35).bind fun j36 =>
 (b0.2.2.2.2.1[j36]?).bind fun x37 =>
 cond (c1 == 2)
 ((spec_l9Row (b0.2.2.2.2.1,b0.2.2.2.2.2.1) (x37.1,n3,x37.2.2)).bind fun t47 =>
 some ((b0.1,b0.2.1,b0.2.2.1,b0.2.2.2.1,t47.1,t47.2,b0.2.2.2.2.2.2.1,b0.2.2.2.2.2.2.2.1,b0.2.2.2.2.2.2.2.2.1,b0.2.2.2.2.2.2.2.2.2.1,b0.2.2.2.2.2.2.2.2.2.2),0))
 ((spec_l9Row (b0.2.2.2.2.1,b0.2.2.2.2.2.1) (x37.1,x37.2.1,n3)).bind fun t47_1 =>
 some ((b0.1,b0.2.1,b0.2.2.1,b0.2.2.2.1,t47_1.1,t47_1.2,b0.2.2.2.2.2.2.1,b0.2.2.2.2.2.2.2.1,b0.2.2.2.2.2.2.2.2.1,b0.2.2.2.2.2.2.2.2.2.1,b0.2.2.2.2.2.2.2.2.2.2),0))))
def spec_l18One (p0:Bridge) (i1:Bind):Option (Bridge × Int) :=
 (spec_l11Copy p0).bind fun t9 =>
 (spec_l18May p0 i1.1).bind fun t13 =>
 cond (!t13)
 ((spec_l18Seen p0 i1.1).bind fun t18 =>
 cond t18 (some (t9,4)) (some (t9,3)))
 ((cut i1.1 3 (i1.1.length:Int)).bind fun t23 =>
 (at? t23 0).bind fun x25 =>
 cond (x25 == 1)
 (cond (i1.2.1 != 4)
 (some (t9,1))
 (let t34:=decide ((i1.2.2.2.1.length:Int) > 10)
 cond t34
 (some (t9,2))
 (some ((t9.1,i1.2.2.2.1,t9.2.2.1,t9.2.2.2.1,t9.2.2.2.2.1,t9.2.2.2.2.2.1,t9.2.2.2.2.2.2.1,t9.2.2.2.2.2.2.2.1,t9.2.2.2.2.2.2.2.2.1,t9.2.2.2.2.2.2.2.2.2.1,t9.2.2.2.2.2.2.2.2.2.2),0))))
 (cond (i1.2.1 != 2)
 (some (t9,1))
 ((at? t23 0).bind fun x52 =>
 cond (x52 == 2)
 ((at? t23 1).bind fun x57 =>
 (at? t23 2).bind fun x60 =>
 (spec_l18Port t9 x57 (w64 (x60 - 1)) i1.2.2.1).bind fun t66 =>
 some t66)
 ((at? t23 1).bind fun x71 =>
 (at? t23 2).bind fun x74 =>
 (spec_l18Row t9 x71 x74 i1.2.2.1).bind fun t79 =>
 some t79))))
def spec_l11One (n0:Int):Option Int :=
 cond (decide (n0 ≥ 1000000)) (some n0) (some (w64 (n0 + 1)))
def spec_Sends_l0 (id0:Int) (l1:List Pt) (n5:Int) (i6:Int):Option ((Int × Int) ⊕ Int) :=
 (cond (decide (i6 < (l1.length:Int))) (some (decide (i6 < 6))) (some false)).bind fun t14 =>
 cond t14
 ((spec_RoleOf id0 l1 i6).bind fun t20 =>
 cond (decide (t20 ≤ 2))
 ((shl .i64 1 (IntKind.u64.wrap (i6))).bind fun t25 =>
 some (.inl (bor .i64 n5 t25,w64 (i6 + 1))))
 (some (.inl (n5,w64 (i6 + 1)))))
 (some (.inr n5))
def spec_Sends (id0:Int) (l1:List Pt):Option Int :=
 (loop (fun z=>spec_Sends_l0 id0 l1 z.1 z.2) (0,0)).bind fun d =>
 some d
def spec_l9Bit (n0:Int) (port1:Int):Option Bool :=
 (spec_l1In port1 0 7).bind fun t6 =>
 (cond t6
 ((shr .i64 n0 (IntKind.u64.wrap (port1))).bind fun t11 =>
 some ((band .i64 t11 1) == 1))
 (some false)).bind fun t14 =>
 some t14
def spec_FlushPort_l0 (l0:List Fent) (port1:Int) (i6:Int) (out5:List Fent):Option ((Int × List Fent) ⊕ (List Fent)) :=
 cond (decide (i6 < (l0.length:Int)))
 ((at? l0 i6).bind fun x16 =>
 (cond x16.2.2.2.2
 (some true)
 ((at? l0 i6).bind fun x22 =>
 some (x22.2.2.1 != port1))).bind fun t27 =>
 cond t27
 ((at? l0 i6).bind fun x31 =>
 (app out5 [x31]).bind fun zs34 =>
 some (.inl (w64 (i6 + 1),zs34)))
 (some (.inl (w64 (i6 + 1),out5))))
 (some (.inr out5))
def spec_FlushPort (l0:List Fent) (port1:Int):Option (List Fent) :=
 (loop (fun z=>spec_FlushPort_l0 l0 port1 z.1 z.2) (0,([]:List Fent))).bind fun d =>
 some d
def spec_l11Turned_l0 (b0:Bridge) (t13:Int) (i4:Int) (b0_1:Int) (b1:List UInt8) (b6:Int) (b7:Int) (b8:Int) (b9:Int) (b10:Int) (b3:List Fent):Option ((Int × Int × List UInt8 × Int × Int × Int × Int × Int × List Fent) ⊕ (Int × List UInt8 × Int × Int × Int × Int × Int × List Fent)) :=
 cond (decide (i4 < (b0.2.2.1.length:Int)))
 ((spec_l9Bit t13 i4).bind fun t23 =>
 cond (!t23)
 ((spec_FlushPort b3 i4).bind fun t28 =>
 some (.inl (w64 (i4 + 1),b0_1,b1,b6,b7,b8,b9,b10,t28)))
 (some (.inl (w64 (i4 + 1),b0_1,b1,b6,b7,b8,b9,b10,b3))))
 (some (.inr (b0_1,b1,b6,b7,b8,b9,b10,b3)))
def spec_l11Turned (b0:Bridge):Option Bridge :=
 (spec_l11One b0.2.2.2.2.2.2.2.2.2.2).bind fun t7 =>
 (spec_Sends b0.1 b0.2.2.1).bind fun t13 =>
 (loop (fun z=>spec_l11Turned_l0 b0 t13 z.1 z.2.1 z.2.2.1 z.2.2.2.1 z.2.2.2.2.1 z.2.2.2.2.2.1 z.2.2.2.2.2.2.1 z.2.2.2.2.2.2.2.1 z.2.2.2.2.2.2.2.2) (0,b0.1,b0.2.1,b0.2.2.2.2.2.2.1,b0.2.2.2.2.2.2.2.1,b0.2.2.2.2.2.2.2.2.1,b0.2.2.2.2.2.2.2.2.2.1,t7,b0.2.2.2.1)).bind fun d =>
 some (d.1,d.2.1,b0.2.2.1,d.2.2.2.2.2.2.2,b0.2.2.2.2.1,b0.2.2.2.2.2.1,d.2.2.1,d.2.2.2.1,d.2.2.2.2.1,d.2.2.2.2.2.1,d.2.2.2.2.2.2.1)
def spec_SetAll_l2 (p0:Bridge) (i1:List Bind) (t8:Int) (t9:Int) (b0_2:Int) (b1_2:List UInt8) (b6_2:Int) (b7_2:Int) (b8_2:Int) (b9_2:Int) (b10_2:Int):Option ((Int × Int × List UInt8 × Int × Int × Int × Int × Int) ⊕ ((Int × List UInt8 × Int × Int × Int × Int × Int) ⊕ (Int × Int × Int × List UInt8 × Int × Int × Int × Int × Int × List Pt × List Fent × List Vrow × List Int))) :=
 cond (decide (t9 < t8))
 ((at? i1 t9).bind fun x36 =>
 (at? i1 t8).bind fun x41 =>
 (spec_SameOid x36.1 x41.1).bind fun t44 =>
 cond t44
 ((spec_l11Copy p0).bind fun t46 =>
 some (.inr (.inr (5,w64 (t8 + 1),t46.1,t46.2.1,t46.2.2.2.2.2.2.1,t46.2.2.2.2.2.2.2.1,t46.2.2.2.2.2.2.2.2.1,t46.2.2.2.2.2.2.2.2.2.1,t46.2.2.2.2.2.2.2.2.2.2,t46.2.2.1,t46.2.2.2.1,t46.2.2.2.2.1,t46.2.2.2.2.2.1))))
 (some (.inl (w64 (t9 + 1),b0_2,b1_2,b6_2,b7_2,b8_2,b9_2,b10_2))))
 (some (.inr (.inl (b0_2,b1_2,b6_2,b7_2,b8_2,b9_2,b10_2))))
def spec_SetAll_l0 (p0:Bridge) (i1:List Bind) (t8:Int) (b0:Int) (b1:List UInt8) (b6:Int) (b7:Int) (b8:Int) (b9:Int) (b10:Int) (b0_1:Int) (b1_1:List UInt8) (b6_1:Int) (b7_1:Int) (b8_1:Int) (b9_1:Int) (b10_1:Int) (b2:List Pt) (b3:List Fent) (b4:List Vrow) (b5:List Int) (b2_1:List Pt) (b3_1:List Fent) (b4_1:List Vrow) (b5_1:List Int):Option ((Int × Int × List UInt8 × Int × Int × Int × Int × Int × Int × List UInt8 × Int × Int × Int × Int × Int × List Pt × List Fent × List Vrow × List Int × List Pt × List Fent × List Vrow × List Int) ⊕ ((Int × List UInt8 × Int × Int × Int × Int × Int × Int × List UInt8 × Int × Int × Int × Int × Int × List Pt × List Fent × List Vrow × List Int × List Pt × List Fent × List Vrow × List Int) ⊕ (Int × Int × Int × List UInt8 × Int × Int × Int × Int × Int × List Pt × List Fent × List Vrow × List Int))) :=
 cond (decide (t8 < (i1.length:Int)))
 ((loop (fun z=>spec_SetAll_l2 p0 i1 t8 z.1 z.2.1 z.2.2.1 z.2.2.2.1 z.2.2.2.2.1 z.2.2.2.2.2.1 z.2.2.2.2.2.2.1 z.2.2.2.2.2.2.2) (0,b0,b1,b6,b7,b8,b9,b10)).bind (Sum.elim (fun d =>
 (at? i1 t8).bind fun x53 =>
 (spec_l18One (b0_1,b1_1,b2_1,b3_1,b4_1,b5_1,b6_1,b7_1,b8_1,b9_1,b10_1) x53).bind fun t55 =>
 cond (t55.2 != 0)
 ((spec_l11Copy p0).bind fun t61 =>
 some (.inr (.inr (t55.2,w64 (t8 + 1),t61.1,t61.2.1,t61.2.2.2.2.2.2.1,t61.2.2.2.2.2.2.2.1,t61.2.2.2.2.2.2.2.2.1,t61.2.2.2.2.2.2.2.2.2.1,t61.2.2.2.2.2.2.2.2.2.2,t61.2.2.1,t61.2.2.2.1,t61.2.2.2.2.1,t61.2.2.2.2.2.1))))
 (some (.inl (w64 (t8 + 1),d.1,d.2.1,d.2.2.1,d.2.2.2.1,d.2.2.2.2.1,d.2.2.2.2.2.1,d.2.2.2.2.2.2,t55.1.1,t55.1.2.1,t55.1.2.2.2.2.2.2.1,t55.1.2.2.2.2.2.2.2.1,t55.1.2.2.2.2.2.2.2.2.1,t55.1.2.2.2.2.2.2.2.2.2.1,t55.1.2.2.2.2.2.2.2.2.2.2,b2,b3,b4,b5,t55.1.2.2.1,t55.1.2.2.2.1,t55.1.2.2.2.2.1,t55.1.2.2.2.2.2.1)))) (fun r=>some (.inr (.inr r)))))
 (some (.inr (.inl (b0,b1,b6,b7,b8,b9,b10,b0_1,b1_1,b6_1,b7_1,b8_1,b9_1,b10_1,b2,b3,b4,b5,b2_1,b3_1,b4_1,b5_1))))
def spec_SetAll (p0:Bridge) (i1:List Bind):Option (Bridge × Int × Int) :=
 (spec_l11Copy p0).bind fun t13 =>
 (spec_BridgeOk p0).bind fun t15 =>
 (cond (!t15) (some (decide ((i1.length:Int) > 0))) (some false)).bind fun t21 =>
 cond t21
 (some (t13,3,1))
 ((loop (fun z=>spec_SetAll_l0 p0 i1 z.1 z.2.1 z.2.2.1 z.2.2.2.1 z.2.2.2.2.1 z.2.2.2.2.2.1 z.2.2.2.2.2.2.1 z.2.2.2.2.2.2.2.1 z.2.2.2.2.2.2.2.2.1 z.2.2.2.2.2.2.2.2.2.1 z.2.2.2.2.2.2.2.2.2.2.1 z.2.2.2.2.2.2.2.2.2.2.2.1 z.2.2.2.2.2.2.2.2.2.2.2.2.1 z.2.2.2.2.2.2.2.2.2.2.2.2.2.1 z.2.2.2.2.2.2.2.2.2.2.2.2.2.2.1 z.2.2.2.2.2.2.2.2.2.2.2.2.2.2.2.1 z.2.2.2.2.2.2.2.2.2.2.2.2.2.2.2.2.1 z.2.2.2.2.2.2.2.2.2.2.2.2.2.2.2.2.2.1 z.2.2.2.2.2.2.2.2.2.2.2.2.2.2.2.2.2.2.1 z.2.2.2.2.2.2.2.2.2.2.2.2.2.2.2.2.2.2.2.1 z.2.2.2.2.2.2.2.2.2.2.2.2.2.2.2.2.2.2.2.2.1 z.2.2.2.2.2.2.2.2.2.2.2.2.2.2.2.2.2.2.2.2.2.1 z.2.2.2.2.2.2.2.2.2.2.2.2.2.2.2.2.2.2.2.2.2.2) (0,0,[],0,0,0,0,0,t13.1,t13.2.1,t13.2.2.2.2.2.2.1,t13.2.2.2.2.2.2.2.1,t13.2.2.2.2.2.2.2.2.1,t13.2.2.2.2.2.2.2.2.2.1,t13.2.2.2.2.2.2.2.2.2.2,[],[],[],[],t13.2.2.1,t13.2.2.2.1,t13.2.2.2.2.1,t13.2.2.2.2.2.1)).bind (Sum.elim (fun d_1 =>
 cond ((i1.length:Int) == 0)
 (some ((d_1.2.2.2.2.2.2.2.1,d_1.2.2.2.2.2.2.2.2.1,d_1.2.2.2.2.2.2.2.2.2.2.2.2.2.2.2.2.2.2.1,d_1.2.2.2.2.2.2.2.2.2.2.2.2.2.2.2.2.2.2.2.1,d_1.2.2.2.2.2.2.2.2.2.2.2.2.2.2.2.2.2.2.2.2.1,d_1.2.2.2.2.2.2.2.2.2.2.2.2.2.2.2.2.2.2.2.2.2,d_1.2.2.2.2.2.2.2.2.2.1,d_1.2.2.2.2.2.2.2.2.2.2.1,d_1.2.2.2.2.2.2.2.2.2.2.2.1,d_1.2.2.2.2.2.2.2.2.2.2.2.2.1,d_1.2.2.2.2.2.2.2.2.2.2.2.2.2.1),0,0))
 ((spec_VtabOk d_1.2.2.2.2.2.2.2.2.2.2.2.2.2.2.2.2.2.2.2.2 (d_1.2.2.2.2.2.2.2.2.2.2.2.2.2.2.2.2.2.2.1.length:Int)).bind fun t75 =>
 cond (!t75)
 ((spec_l11Copy p0).bind fun t78 =>
 some (t78,5,(i1.length:Int)))
 ((spec_l11Turned (d_1.2.2.2.2.2.2.2.1,d_1.2.2.2.2.2.2.2.2.1,d_1.2.2.2.2.2.2.2.2.2.2.2.2.2.2.2.2.2.2.1,d_1.2.2.2.2.2.2.2.2.2.2.2.2.2.2.2.2.2.2.2.1,d_1.2.2.2.2.2.2.2.2.2.2.2.2.2.2.2.2.2.2.2.2.1,d_1.2.2.2.2.2.2.2.2.2.2.2.2.2.2.2.2.2.2.2.2.2,d_1.2.2.2.2.2.2.2.2.2.1,d_1.2.2.2.2.2.2.2.2.2.2.1,d_1.2.2.2.2.2.2.2.2.2.2.2.1,d_1.2.2.2.2.2.2.2.2.2.2.2.2.1,d_1.2.2.2.2.2.2.2.2.2.2.2.2.2.1)).bind fun t82 =>
 some (t82,0,0)))) (fun r_1=>some ((r_1.2.2.1,r_1.2.2.2.1,r_1.2.2.2.2.2.2.2.2.2.1,r_1.2.2.2.2.2.2.2.2.2.2.1,r_1.2.2.2.2.2.2.2.2.2.2.2.1,r_1.2.2.2.2.2.2.2.2.2.2.2.2,r_1.2.2.2.2.1,r_1.2.2.2.2.2.1,r_1.2.2.2.2.2.2.1,r_1.2.2.2.2.2.2.2.1,r_1.2.2.2.2.2.2.2.2.1),r_1.1,r_1.2.1))))
end
end Go.V.W

