/- The law FnMoment: part of the proof that for every input it returns true. No condition. -/
import Derived.Test.YtobpgfgalalicaaGreatV4
import Derived.Test.YtobpgfgalalicaaGreatProg
import Derived.Test.YtobpgfgalalicaaGreatChecked
import Derived.KernelRfl
namespace Go.V.W
open Go.Proofs
set_option linter.unusedVariables false
noncomputable section
def us:Nat → Nat → List (Nat × Bool × List SCell) → List (Nat × Bool × List SCell) | _,0,l=>l | a,n + 1,l=>(a,false,[.undef]) :: us (a + 1) n l
@[reducible] def cNI:Cs:=.one (.int .i64)
@[reducible] def cNB:Cs:=.one .bool
@[reducible] def cNY:Cs:=.one (.sl (.one (.int .u8)))
@[reducible] def cNN:Cs:=.one (.sl (.one (.int .i64)))
@[reducible] def cNS:Cs:=.one .str
@[reducible] def dI:SCell:=.dat (.int .i64)
@[reducible] def dB:SCell:=.dat .bool
@[reducible] def dS:SCell:=.dat .str
@[reducible] def cVal:Cs:=.cons (.int .i64) (.cons (.int .i64) (.cons .str cNN))
@[reducible] def cBind:Cs:=.cons (.sl cNI) (.cons (.int .i64) (.cons (.int .i64) (.cons .str cNN)))
@[reducible] def cPdu:Cs:=.cons (.int .i64) (.cons (.int .i64) (.cons (.int .i64) (.cons (.int .i64) (.one (.sl cBind)))))
@[reducible] def cVec:Cs:=.cons (.int .i64) (.cons (.int .i64) (.cons (.int .i64) (.cons (.int .i64) cNI)))
@[reducible] def cPt:Cs:=.cons .bool (.cons (.int .i64) (.cons .bool (.cons (.int .i64) (.cons (.int .i64) (.cons (.int .i64) (.cons (.int .i64) cNI))))))
@[reducible] def cFent:Cs:=.cons (.int .i64) (.cons (.int .i64) (.cons (.int .i64) (.cons (.int .i64) cNB)))
@[reducible] def cVrow:Cs:=.cons (.int .i64) (.cons (.int .i64) cNI)
@[reducible] def cVtab:Cs:=.cons (.sl cVrow) cNN
@[reducible] def cBridge:Cs:=.cons (.int .i64) (.cons .str (.cons (.sl cPt) (.cons (.sl cFent) (.cons (.sl cVrow) (.cons (.sl cNI) (.cons (.int .i64) (.cons (.int .i64) (.cons (.int .i64) (.cons (.int .i64) cNI)))))))))
@[reducible] def cL1Cur:Cs:=.cons (.sl (.one (.int .u8))) (.cons (.int .i64) cNI)
@[reducible] def cFrame:Cs:=.cons (.int .i64) (.cons (.int .i64) (.cons (.int .i64) cNY))
@[reducible] def cAct:Cs:=.cons (.int .i64) (.cons (.int .i64) (.cons .bool (.cons (.sl (.one (.int .u8))) (.cons (.int .i64) (.cons (.int .i64) (.cons (.int .i64) (.cons (.sl (.one (.int .u8))) (.cons (.int .i64) (.cons (.int .i64) (.cons (.int .i64) (.cons (.int .i64) cNI)))))))))))
@[reducible] def cJob:Cs:=.cons (.int .i64) (.cons (.sl (.one (.int .u8))) (.cons (.int .i64) (.cons (.int .i64) (.cons (.int .i64) (.cons (.int .i64) (.cons (.int .i64) (.cons (.sl cBind) (.cons (.int .i64) (.cons .str (.cons (.sl cPt) (.cons (.sl cFent) (.cons (.sl cVrow) (.cons (.sl cNI) (.cons (.int .i64) (.cons (.int .i64) (.cons (.int .i64) (.cons (.int .i64) (.cons (.int .i64) (.cons (.int .i64) cNI)))))))))))))))))))
@[reducible] def cAgent:Cs:=.cons (.int .i64) (.cons .str (.cons (.sl cPt) (.cons (.sl cFent) (.cons (.sl cVrow) (.cons (.sl cNI) (.cons (.int .i64) (.cons (.int .i64) (.cons (.int .i64) (.cons (.int .i64) (.cons (.int .i64) (.cons .str (.cons (.sl cJob) (.cons (.int .i64) cNI)))))))))))))
@[reducible] def cParts:Cs:=.cons (.sl (.one (.int .u8))) (.cons (.int .i64) cNB)
@[reducible] def cDone:Cs:=.cons (.int .i64) (.cons (.int .i64) (.cons (.int .i64) (.cons (.int .i64) (.cons (.int .i64) (.one (.sl cBind))))))
@[reducible] def cOut:Cs:=.cons (.int .i64) (.cons (.int .i64) (.cons (.int .i64) (.cons (.int .i64) cNY)))
abbrev Val:Type:=Int × Int × List UInt8 × List Int
abbrev Bind:Type:=List Int × Int × Int × List UInt8 × List Int
abbrev Pdu:Type:=Int × Int × Int × Int × List Bind
abbrev Vec:Type:=Int × Int × Int × Int × Int
abbrev Pt:Type:=Bool × Int × Bool × Int × Int × Int × Int × Int
abbrev Fent:Type:=Int × Int × Int × Int × Bool
abbrev Vrow:Type:=Int × Int × Int
abbrev Vtab:Type:=List Vrow × List Int
abbrev Bridge:Type:=Int × List UInt8 × List Pt × List Fent × List Vrow × List Int × Int × Int × Int × Int × Int
abbrev L1Cur:Type:=List Int × Int × Int
abbrev Frame:Type:=Int × Int × Int × List Int
abbrev Act:Type:=Int × Int × Bool × List Int × Int × Int × Int × List Int × Int × Int × Int × Int × Int
abbrev Job:Type:=Int × List Int × Int × Int × Int × Int × Int × List Bind × Int × List UInt8 × List Pt × List Fent × List Vrow × List Int × Int × Int × Int × Int × Int × Int × Int
abbrev Agent:Type:=Int × List UInt8 × List Pt × List Fent × List Vrow × List Int × Int × Int × Int × Int × Int × List UInt8 × List Job × Int × Int
abbrev Parts:Type:=List Int × Int × Bool
abbrev Done:Type:=Int × Int × Int × Int × Int × List Bind
abbrev Out:Type:=Int × Int × Int × Int × List Int
def tis:List (Nat × TInfo):=[(2,⟨false,.one (.int .i64),[],0⟩),
 (3,⟨false,.one (.int .i64),[],0⟩),
 (4,⟨false,.one .bool,[],0⟩),
 (5,⟨false,.one (.int .u8),[],0⟩),
 (6,⟨false,.one (.int .u8),[],0⟩),
 (9,⟨false,.one .str,[],0⟩),
 (10,⟨false,.one .str,[],0⟩),
 (11,⟨false,.one .str,[],0⟩),
 (12,⟨false,.one (.int .u64),[],0⟩),
 (21,⟨false,.one (.int .i32),[],0⟩),
 (22,⟨false,.one (.sl cBridge),[],101⟩),
 (23,⟨false,.one (.sl (.cons (.int .i64) (.cons (.int .i64) (.cons (.int .i64) cNI)))),[],261⟩),
 (24,⟨false,.one (.sl (.cons (.int .i64) (.cons .bool (.cons (.int .i64) (.cons (.int .i64) (.cons (.int .i64) (.cons (.int .i64) cNI))))))),[],266⟩),
 (25,⟨true,.cons (.sl cBridge) (.cons (.sl (.cons (.int .i64) (.cons (.int .i64) (.cons (.int .i64) cNI)))) (.one (.sl (.cons (.int .i64) (.cons .bool (.cons (.int .i64) (.cons (.int .i64) (.cons (.int .i64) (.cons (.int .i64) cNI))))))))),[(22,0),(23,1),(24,2)],0⟩),
 (26,⟨true,.cons (.sl cBridge) (.cons (.sl (.cons (.int .i64) (.cons (.int .i64) (.cons (.int .i64) cNI)))) (.one (.sl (.cons (.int .i64) (.cons .bool (.cons (.int .i64) (.cons (.int .i64) (.cons (.int .i64) (.cons (.int .i64) cNI))))))))),[(22,0),(23,1),(24,2)],0⟩),
 (27,⟨false,.one (.sl (.one (.int .u8))),[],5⟩),
 (28,⟨true,cFrame,[(3,0),(3,1),(3,2),(27,3)],0⟩),
 (29,⟨true,cFrame,[(3,0),(3,1),(3,2),(27,3)],0⟩),
 (32,⟨false,.one (.sl cNI),[],3⟩),
 (34,⟨false,.one (.sl cBridge),[],56⟩),
 (35,⟨false,.one (.sl (.cons (.int .i64) (.cons (.int .i64) (.cons (.int .i64) cNI)))),[],259⟩),
 (36,⟨false,.one (.sl (.cons (.int .i64) (.cons .bool (.cons (.int .i64) (.cons (.int .i64) (.cons (.int .i64) (.cons (.int .i64) cNI))))))),[],263⟩),
 (37,⟨true,.cons (.sl cBridge) (.cons (.sl (.cons (.int .i64) (.cons (.int .i64) (.cons (.int .i64) cNI)))) (.one (.sl (.cons (.int .i64) (.cons .bool (.cons (.int .i64) (.cons (.int .i64) (.cons (.int .i64) (.cons (.int .i64) cNI))))))))),[(34,0),(35,1),(36,2)],0⟩),
 (38,⟨true,.cons (.sl cBridge) (.cons (.sl (.cons (.int .i64) (.cons (.int .i64) (.cons (.int .i64) cNI)))) (.one (.sl (.cons (.int .i64) (.cons .bool (.cons (.int .i64) (.cons (.int .i64) (.cons (.int .i64) (.cons (.int .i64) cNI))))))))),[(34,0),(35,1),(36,2)],0⟩),
 (40,⟨true,cFrame,[(3,0),(3,1),(3,2),(27,3)],0⟩),
 (50,⟨false,.one (.sl cPt),[],183⟩),
 (51,⟨false,.one (.sl cFent),[],185⟩),
 (52,⟨false,.one (.sl cVrow),[],299⟩),
 (53,⟨true,cVtab,[(52,0),(32,1)],0⟩),
 (54,⟨true,cVtab,[(52,0),(32,1)],0⟩),
 (55,⟨true,cBridge,[(3,0),(9,1),(50,2),(51,3),(54,4),(3,6),(3,7),(3,8),(3,9),(3,10)],0⟩),
 (56,⟨true,cBridge,[(3,0),(9,1),(50,2),(51,3),(54,4),(3,6),(3,7),(3,8),(3,9),(3,10)],0⟩),
 (57,⟨false,.one (.sl cBind),[],70⟩),
 (58,⟨true,cPdu,[(3,0),(3,1),(3,2),(3,3),(57,4)],0⟩),
 (59,⟨true,cPdu,[(3,0),(3,1),(3,2),(3,3),(57,4)],0⟩),
 (67,⟨true,cVal,[(3,0),(3,1),(9,2),(32,3)],0⟩),
 (68,⟨true,cVal,[(3,0),(3,1),(9,2),(32,3)],0⟩),
 (69,⟨true,cBind,[(32,0),(68,1)],0⟩),
 (70,⟨true,cBind,[(32,0),(68,1)],0⟩),
 (75,⟨false,.one (.sl cAct),[],89⟩),
 (78,⟨false,.one (.sl cJob),[],92⟩),
 (79,⟨true,cAgent,[(56,0),(9,11),(78,12),(3,13),(3,14)],0⟩),
 (80,⟨true,cAgent,[(56,0),(9,11),(78,12),(3,13),(3,14)],0⟩),
 (82,⟨false,.one (.sl cOut),[],248⟩),
 (83,⟨false,.one (.sl cDone),[],94⟩),
 (86,⟨true,cVec,[(3,0),(3,1),(3,2),(3,3),(3,4)],0⟩),
 (87,⟨true,cVec,[(3,0),(3,1),(3,2),(3,3),(3,4)],0⟩),
 (88,⟨true,cAct,[(3,0),(3,1),(4,2),(27,3),(40,4),(87,8)],0⟩),
 (89,⟨true,cAct,[(3,0),(3,1),(4,2),(27,3),(40,4),(87,8)],0⟩),
 (91,⟨true,cJob,[(3,0),(27,1),(3,2),(59,3),(56,8),(3,19),(3,20)],0⟩),
 (92,⟨true,cJob,[(3,0),(27,1),(3,2),(59,3),(56,8),(3,19),(3,20)],0⟩),
 (93,⟨true,cDone,[(3,0),(59,1)],0⟩),
 (94,⟨true,cDone,[(3,0),(59,1)],0⟩),
 (95,⟨false,.one (.sl cPt),[],324⟩),
 (96,⟨false,.one (.sl cFent),[],326⟩),
 (97,⟨false,.one (.sl cVrow),[],384⟩),
 (98,⟨true,cVtab,[(97,0),(32,1)],0⟩),
 (99,⟨true,cVtab,[(97,0),(32,1)],0⟩),
 (100,⟨true,cBridge,[(3,0),(9,1),(95,2),(96,3),(99,4),(3,6),(3,7),(3,8),(3,9),(3,10)],0⟩),
 (101,⟨true,cBridge,[(3,0),(9,1),(95,2),(96,3),(99,4),(3,6),(3,7),(3,8),(3,9),(3,10)],0⟩),
 (102,⟨false,.one (.sl cBind),[],321⟩),
 (103,⟨true,cPdu,[(3,0),(3,1),(3,2),(3,3),(102,4)],0⟩),
 (104,⟨true,cPdu,[(3,0),(3,1),(3,2),(3,3),(102,4)],0⟩),
 (112,⟨false,.one (.sl cAct),[],220⟩),
 (147,⟨false,.one (.sl (.cons (.int .i64) (.cons (.int .i64) (.cons (.int .i64) (.cons (.int .i64) (.cons (.int .i64) cNY)))))),[],254⟩),
 (148,⟨false,.one (.sl (.cons (.int .i64) (.cons (.int .i64) (.cons (.int .i64) (.cons (.int .i64) (.cons (.int .i64) cNY)))))),[],276⟩),
 (149,⟨true,.cons (.sl cBridge) (.cons (.sl (.cons (.int .i64) (.cons (.int .i64) (.cons (.int .i64) cNI)))) (.cons (.sl (.cons (.int .i64) (.cons .bool (.cons (.int .i64) (.cons (.int .i64) (.cons (.int .i64) (.cons (.int .i64) cNI))))))) (.cons (.sl (.cons (.int .i64) (.cons (.int .i64) (.cons (.int .i64) (.cons (.int .i64) (.cons (.int .i64) cNY)))))) (.cons (.sl (.cons (.int .i64) (.cons (.int .i64) (.cons (.int .i64) (.cons (.int .i64) (.cons (.int .i64) cNY)))))) (.cons (.sl cNI) cNI))))),[(38,0),(147,3),(148,4),(32,5),(3,6)],0⟩),
 (150,⟨true,.cons (.sl cBridge) (.cons (.sl (.cons (.int .i64) (.cons (.int .i64) (.cons (.int .i64) cNI)))) (.cons (.sl (.cons (.int .i64) (.cons .bool (.cons (.int .i64) (.cons (.int .i64) (.cons (.int .i64) (.cons (.int .i64) cNI))))))) (.cons (.sl (.cons (.int .i64) (.cons (.int .i64) (.cons (.int .i64) (.cons (.int .i64) (.cons (.int .i64) cNY)))))) (.cons (.sl (.cons (.int .i64) (.cons (.int .i64) (.cons (.int .i64) (.cons (.int .i64) (.cons (.int .i64) cNY)))))) (.cons (.sl cNI) cNI))))),[(38,0),(147,3),(148,4),(32,5),(3,6)],0⟩),
 (182,⟨true,cPt,[(4,0),(3,1),(4,2),(87,3)],0⟩),
 (183,⟨true,cPt,[(4,0),(3,1),(4,2),(87,3)],0⟩),
 (184,⟨true,cFent,[(3,0),(3,1),(3,2),(3,3),(4,4)],0⟩),
 (185,⟨true,cFent,[(3,0),(3,1),(3,2),(3,3),(4,4)],0⟩),
 (218,⟨true,cVec,[(3,0),(3,1),(3,2),(3,3),(3,4)],0⟩),
 (219,⟨true,cAct,[(3,0),(3,1),(4,2),(27,3),(29,4),(218,8)],0⟩),
 (220,⟨true,cAct,[(3,0),(3,1),(4,2),(27,3),(29,4),(218,8)],0⟩),
 (227,⟨false,.one (.sl cNS),[],9⟩),
 (235,⟨true,cParts,[(27,0),(3,1),(4,2)],0⟩),
 (236,⟨true,cParts,[(27,0),(3,1),(4,2)],0⟩),
 (247,⟨true,cOut,[(3,0),(40,1)],0⟩),
 (248,⟨true,cOut,[(3,0),(40,1)],0⟩),
 (253,⟨true,.cons (.int .i64) (.cons (.int .i64) (.cons (.int .i64) (.cons (.int .i64) (.cons (.int .i64) cNY)))),[(3,0),(3,1),(40,2)],0⟩),
 (254,⟨true,.cons (.int .i64) (.cons (.int .i64) (.cons (.int .i64) (.cons (.int .i64) (.cons (.int .i64) cNY)))),[(3,0),(3,1),(40,2)],0⟩),
 (258,⟨true,.cons (.int .i64) (.cons (.int .i64) (.cons (.int .i64) cNI)),[(3,0),(3,1),(3,2),(3,3)],0⟩),
 (259,⟨true,.cons (.int .i64) (.cons (.int .i64) (.cons (.int .i64) cNI)),[(3,0),(3,1),(3,2),(3,3)],0⟩),
 (261,⟨true,.cons (.int .i64) (.cons (.int .i64) (.cons (.int .i64) cNI)),[(3,0),(3,1),(3,2),(3,3)],0⟩),
 (262,⟨true,.cons (.int .i64) (.cons .bool (.cons (.int .i64) (.cons (.int .i64) (.cons (.int .i64) (.cons (.int .i64) cNI))))),[(3,0),(4,1),(87,2)],0⟩),
 (263,⟨true,.cons (.int .i64) (.cons .bool (.cons (.int .i64) (.cons (.int .i64) (.cons (.int .i64) (.cons (.int .i64) cNI))))),[(3,0),(4,1),(87,2)],0⟩),
 (265,⟨true,.cons (.int .i64) (.cons .bool (.cons (.int .i64) (.cons (.int .i64) (.cons (.int .i64) (.cons (.int .i64) cNI))))),[(3,0),(4,1),(218,2)],0⟩),
 (266,⟨true,.cons (.int .i64) (.cons .bool (.cons (.int .i64) (.cons (.int .i64) (.cons (.int .i64) (.cons (.int .i64) cNI))))),[(3,0),(4,1),(218,2)],0⟩),
 (270,⟨true,.cons (.int .i64) (.cons (.int .i64) (.cons (.int .i64) (.cons (.int .i64) (.cons (.int .i64) cNY)))),[(3,0),(3,1),(40,2)],0⟩),
 (271,⟨true,.cons (.int .i64) (.cons (.int .i64) (.cons (.int .i64) (.cons (.int .i64) (.cons (.int .i64) cNY)))),[(3,0),(3,1),(40,2)],0⟩),
 (272,⟨false,.one (.sl (.cons (.int .i64) (.cons (.int .i64) (.cons (.int .i64) (.cons (.int .i64) (.cons (.int .i64) cNY)))))),[],271⟩),
 (275,⟨true,.cons (.int .i64) (.cons (.int .i64) (.cons (.int .i64) (.cons (.int .i64) (.cons (.int .i64) cNY)))),[(3,0),(3,1),(40,2)],0⟩),
 (276,⟨true,.cons (.int .i64) (.cons (.int .i64) (.cons (.int .i64) (.cons (.int .i64) (.cons (.int .i64) cNY)))),[(3,0),(3,1),(40,2)],0⟩),
 (281,⟨true,cL1Cur,[(27,0),(3,1),(3,2)],0⟩),
 (282,⟨true,cL1Cur,[(27,0),(3,1),(3,2)],0⟩),
 (294,⟨false,.one (.sl cNN),[],32⟩),
 (298,⟨true,cVrow,[(3,0),(3,1),(3,2)],0⟩),
 (299,⟨true,cVrow,[(3,0),(3,1),(3,2)],0⟩),
 (319,⟨true,cVal,[(3,0),(3,1),(9,2),(32,3)],0⟩),
 (320,⟨true,cBind,[(32,0),(319,1)],0⟩),
 (321,⟨true,cBind,[(32,0),(319,1)],0⟩),
 (323,⟨true,cPt,[(4,0),(3,1),(4,2),(218,3)],0⟩),
 (324,⟨true,cPt,[(4,0),(3,1),(4,2),(218,3)],0⟩),
 (326,⟨true,cFent,[(3,0),(3,1),(3,2),(3,3),(4,4)],0⟩),
 (334,⟨false,.one (.int .u64),[],0⟩),
 (343,⟨true,cParts,[(27,0),(3,1),(4,2)],0⟩),
 (344,⟨true,cParts,[(27,0),(3,1),(4,2)],0⟩),
 (384,⟨true,cVrow,[(3,0),(3,1),(3,2)],0⟩),
 (387,⟨false,.one (.int .i8),[],0⟩),
 (418,⟨false,.one (.int .u32),[],0⟩),
 (419,⟨false,.one (.int .u8),[],0⟩),
 (420,⟨false,.one (.int .u8),[],0⟩),
 (423,⟨false,.one (.int .i32),[],0⟩),
 (424,⟨false,.one (.int .i32),[],0⟩)]
theorem tisT:Tis Tryz.prog tis:=Tis.of_all (by kernel_rfl)
theorem tisE:Eqs Tryz.prog tis:=Eqs.of_all (by kernel_rfl)
theorem tisD:Deep Tryz.prog tis:=Deep.of_all (by kernel_rfl)
theorem mixed:Tryz.prog.follows .mixedOrders = true:=by kernel_rfl
def codeOf (fn:Func):Code:=match fn.body with | some c=>c | none=>.skip
theorem g_0:Good Tryz.prog ⟨tis,[],[],false⟩:=⟨tisT,tisE,(fun f F h=>by cases h),(fun f M h=>by cases h),(fun h=>by cases h)⟩
theorem mkM {l : List (FuncId × Fn)} (g : Good Tryz.prog ⟨tis, l, [], false⟩) (n : FuncId) (f : Func) (ann : List (Nat × LoopAnn)) (F : Fn) (h1 : Tryz.prog.funcs[n]? = some f) (h2 : (f.name == "runtime.NumGoroutine") = false) (h3 : f.body = some (codeOf f)) (h4 : fnDen ⟨tis, l, [], false⟩ ann f (codeOf f) F.ps F.rs = F.den) : Meets Tryz.prog n F := by
 have h:=meets_of (ann:=ann) (ps:=F.ps) (rs:=F.rs) g mixed h1 h2 h3
 rw [h4] at h
 exact h
def laws_big (code0:List Int):Option Bool :=
 let t2:=decide ((code0.length:Int) > 1048576)
 some t2
def F_laws_big:Fn:=⟨[.val false cNY false],[.val false cNB true],fun a=>laws_big a⟩
theorem m_laws_big:Meets Tryz.prog 28 F_laws_big:=mkM g_0 28 Tryz.f28 [] F_laws_big Tryz.func28 (by kernel_rfl) (by kernel_rfl) (by kernel_rfl)
def fns_28:List (FuncId × Fn):=(28,F_laws_big) :: []
theorem g_28:Good Tryz.prog ⟨tis,fns_28,[],false⟩:=g_0.cons m_laws_big
def impl_in (n0:Int) (low1:Int) (high2:Int):Option Bool :=
 (cond (decide (n0 ≥ low1)) (some (decide (n0 ≤ high2))) (some false)).bind fun t14 =>
 some t14
def F_impl_in:Fn:=⟨[.val false cNI false,.val false cNI false,.val false cNI false],[.val false cNB true],fun a=>impl_in a.1 a.2.1 a.2.2⟩
theorem m_impl_in:Meets Tryz.prog 131 F_impl_in:=mkM g_28 131 Tryz.f131 [] F_impl_in Tryz.func131 (by kernel_rfl) (by kernel_rfl) (by kernel_rfl)
def fns_131:List (FuncId × Fn):=(131,F_impl_in) :: fns_28
theorem g_131:Good Tryz.prog ⟨tis,fns_131,[],false⟩:=g_28.cons m_impl_in
def impl_OidOk_l0 (o0:List Int) (t7:Int):Option (Int ⊕ (Unit ⊕ Bool)) :=
 cond (decide (t7 < (o0.length:Int)))
 ((at? o0 t7).bind fun x9 =>
 (impl_in x9 0 100000).bind fun t12 =>
 cond (!t12) (some (.inr (.inr false))) (some (.inl (w64 (t7 + 1)))))
 (some (.inr (.inl ())))
def impl_OidOk (o0:List Int):Option Bool :=
 (loop (fun z=>impl_OidOk_l0 o0 z) 0).bind (Sum.elim (fun d =>
 (impl_in (o0.length:Int) 1 10).bind fun t17 =>
 some t17) (fun r=>some r))
def F_impl_OidOk:Fn:=⟨[.val false cNN false],[.val false cNB true],fun a=>impl_OidOk a⟩
def a_impl_OidOk:List (Nat × LoopAnn):=[(0,⟨⟨[(7,false,[dI])],[]⟩,
 ⟨[],[]⟩,some ⟨[(2,false,[dB])],[]⟩⟩)]
theorem m_impl_OidOk:Meets Tryz.prog 132 F_impl_OidOk:=mkM g_131 132 Tryz.f132 a_impl_OidOk F_impl_OidOk Tryz.func132 (by kernel_rfl) (by kernel_rfl) (by kernel_rfl)
def fns_132:List (FuncId × Fn):=(132,F_impl_OidOk) :: fns_131
theorem g_132:Good Tryz.prog ⟨tis,fns_132,[],false⟩:=g_131.cons m_impl_OidOk
def impl_SameOid_l0 (a0:List Int) (b1:List Int) (t13:Int):Option (Int ⊕ (Unit ⊕ Bool)) :=
 cond (decide (t13 < (a0.length:Int)))
 ((at? a0 t13).bind fun x18 =>
 (at? b1 t13).bind fun x22 =>
 cond (x18 != x22) (some (.inr (.inr false))) (some (.inl (w64 (t13 + 1)))))
 (some (.inr (.inl ())))
def impl_SameOid (a0:List Int) (b1:List Int):Option Bool :=
 cond ((a0.length:Int) != (b1.length:Int))
 (some false)
 ((loop (fun z=>impl_SameOid_l0 a0 b1 z) 0).bind (Sum.elim (fun d =>
 some true) (fun r=>some r)))
def F_impl_SameOid:Fn:=⟨[.val false cNN false,.val false cNN false],[.val false cNB true],fun a=>impl_SameOid a.1 a.2⟩
def a_impl_SameOid:List (Nat × LoopAnn):=[(0,⟨⟨[(13,false,[dI])],[]⟩,
 ⟨[],[]⟩,some ⟨[(4,false,[dB])],[]⟩⟩)]
theorem m_impl_SameOid:Meets Tryz.prog 36 F_impl_SameOid:=mkM g_132 36 Tryz.f36 a_impl_SameOid F_impl_SameOid Tryz.func36 (by kernel_rfl) (by kernel_rfl) (by kernel_rfl)
def fns_36:List (FuncId × Fn):=(36,F_impl_SameOid) :: fns_132
theorem g_36:Good Tryz.prog ⟨tis,fns_36,[],false⟩:=g_132.cons m_impl_SameOid
def impl_SameVal (a0:Val) (b1:Val):Option Bool :=
 (cond (a0.1 == b1.1) (some (a0.2.1 == b1.2.1)) (some false)).bind fun t16 =>
 (cond t16 (some (a0.2.2.1 == b1.2.2.1)) (some false)).bind fun t23 =>
 (cond t23
 ((impl_SameOid a0.2.2.2 b1.2.2.2).bind fun t29 =>
 some t29)
 (some false)).bind fun t30 =>
 some t30
def F_impl_SameVal:Fn:=⟨[.val true cVal false,.val true cVal false],[.val false cNB true],fun a=>impl_SameVal a.1 a.2⟩
theorem m_impl_SameVal:Meets Tryz.prog 37 F_impl_SameVal:=mkM g_36 37 Tryz.f37 [] F_impl_SameVal Tryz.func37 (by kernel_rfl) (by kernel_rfl) (by kernel_rfl)
def fns_37:List (FuncId × Fn):=(37,F_impl_SameVal) :: fns_36
theorem g_37:Good Tryz.prog ⟨tis,fns_37,[],false⟩:=g_36.cons m_impl_SameVal
def impl_isInt (n0:Int):Option Bool :=
 (impl_in n0 (-2147483648) 2147483647).bind fun t4 =>
 some t4
def F_impl_isInt:Fn:=⟨[.val false cNI false],[.val false cNB true],fun a=>impl_isInt a⟩
theorem m_impl_isInt:Meets Tryz.prog 134 F_impl_isInt:=mkM g_37 134 Tryz.f134 [] F_impl_isInt Tryz.func134 (by kernel_rfl) (by kernel_rfl) (by kernel_rfl)
def fns_134:List (FuncId × Fn):=(134,F_impl_isInt) :: fns_37
theorem g_134:Good Tryz.prog ⟨tis,fns_134,[],false⟩:=g_37.cons m_impl_isInt
def impl_ValOk (v0:Val):Option Bool :=
 cond (v0.1 == 2)
 ((impl_isInt v0.2.1).bind fun t17 =>
 (cond t17
 ((impl_SameVal v0 (v0.1,v0.2.1,[],[])).bind fun t43 =>
 some t43)
 (some false)).bind fun t44 =>
 some t44)
 (cond (v0.1 == 4)
 (let ok4:=decide ((v0.2.2.1.length:Int) ≤ 20)
 (cond ok4
 ((impl_SameVal v0 (v0.1,0,v0.2.2.1,[])).bind fun t43_1 =>
 some t43_1)
 (some false)).bind fun t44_1 =>
 some t44_1)
 (cond (v0.1 == 6)
 ((impl_OidOk v0.2.2.2).bind fun t34 =>
 (cond t34
 ((impl_SameVal v0 (v0.1,0,[],v0.2.2.2)).bind fun t43_2 =>
 some t43_2)
 (some false)).bind fun t44_2 =>
 some t44_2)
 (cond (v0.1 == 5)
 (cond (v0.1 == 5)
 (((impl_SameVal v0 (v0.1,0,[],[])).bind fun t43_3 =>
 some t43_3).bind fun t44_3 =>
 some t44_3)
 (some false))
 (cond (v0.1 == 128)
 (cond (v0.1 == 128)
 (((impl_SameVal v0 (v0.1,0,[],[])).bind fun t43_4 =>
 some t43_4).bind fun t44_4 =>
 some t44_4)
 (some false))
 (cond (v0.1 == 130)
 (((impl_SameVal v0 (v0.1,0,[],[])).bind fun t43_5 =>
 some t43_5).bind fun t44_5 =>
 some t44_5)
 (some false))))))
def F_impl_ValOk:Fn:=⟨[.val true cVal false],[.val false cNB true],fun a=>impl_ValOk a⟩
theorem m_impl_ValOk:Meets Tryz.prog 133 F_impl_ValOk:=mkM g_134 133 Tryz.f133 [] F_impl_ValOk Tryz.func133 (by kernel_rfl) (by kernel_rfl) (by kernel_rfl)
def fns_133:List (FuncId × Fn):=(133,F_impl_ValOk) :: fns_134
theorem g_133:Good Tryz.prog ⟨tis,fns_133,[],false⟩:=g_134.cons m_impl_ValOk
def impl_PduOk_l1 (p0:Pdu) (t35:Int):Option (Int ⊕ (Unit ⊕ Bool)) :=
 cond (decide (t35 < (p0.2.2.2.2.length:Int)))
 ((at? p0.2.2.2.2 t35).bind fun x38 =>
 (cond (decide (t35 ≥ 10))
 (some true)
 ((impl_OidOk x38.1).bind fun t45 =>
 some (!t45))).bind fun t47 =>
 (cond t47
 (some true)
 ((impl_ValOk x38.2).bind fun t51 =>
 some (!t51))).bind fun t53 =>
 cond t53 (some (.inr (.inr false))) (some (.inl (w64 (t35 + 1)))))
 (some (.inr (.inl ())))
def impl_PduOk_l1_1 (p0:Pdu) (t35_1:Int):Option (Int ⊕ (Unit ⊕ Bool)) :=
 cond (decide (t35_1 < (p0.2.2.2.2.length:Int)))
 ((at? p0.2.2.2.2 t35_1).bind fun x38_1 =>
 (cond (decide (t35_1 ≥ 10))
 (some true)
 ((impl_OidOk x38_1.1).bind fun t45_1 =>
 some (!t45_1))).bind fun t47_1 =>
 (cond t47_1
 (some true)
 ((impl_ValOk x38_1.2).bind fun t51_1 =>
 some (!t51_1))).bind fun t53_1 =>
 cond t53_1 (some (.inr (.inr false))) (some (.inl (w64 (t35_1 + 1)))))
 (some (.inr (.inl ())))
def impl_PduOk_l1_2 (p0:Pdu) (t35_2:Int):Option (Int ⊕ (Unit ⊕ Bool)) :=
 cond (decide (t35_2 < (p0.2.2.2.2.length:Int)))
 ((at? p0.2.2.2.2 t35_2).bind fun x38_2 =>
 (cond (decide (t35_2 ≥ 10))
 (some true)
 ((impl_OidOk x38_2.1).bind fun t45_2 =>
 some (!t45_2))).bind fun t47_2 =>
 (cond t47_2
 (some true)
 ((impl_ValOk x38_2.2).bind fun t51_2 =>
 some (!t51_2))).bind fun t53_2 =>
 cond t53_2 (some (.inr (.inr false))) (some (.inl (w64 (t35_2 + 1)))))
 (some (.inr (.inl ())))
def impl_PduOk_l1_3 (p0:Pdu) (t35_3:Int):Option (Int ⊕ (Unit ⊕ Bool)) :=
 cond (decide (t35_3 < (p0.2.2.2.2.length:Int)))
 ((at? p0.2.2.2.2 t35_3).bind fun x38_3 =>
 (cond (decide (t35_3 ≥ 10))
 (some true)
 ((impl_OidOk x38_3.1).bind fun t45_3 =>
 some (!t45_3))).bind fun t47_3 =>
 (cond t47_3
 (some true)
 ((impl_ValOk x38_3.2).bind fun t51_3 =>
 some (!t51_3))).bind fun t53_3 =>
 cond t53_3 (some (.inr (.inr false))) (some (.inl (w64 (t35_3 + 1)))))
 (some (.inr (.inl ())))
def impl_PduOk_l1_4 (p0:Pdu) (t35_4:Int):Option (Int ⊕ (Unit ⊕ Bool)) :=
 cond (decide (t35_4 < (p0.2.2.2.2.length:Int)))
 ((at? p0.2.2.2.2 t35_4).bind fun x38_4 =>
 (cond (decide (t35_4 ≥ 10))
 (some true)
 ((impl_OidOk x38_4.1).bind fun t45_4 =>
 some (!t45_4))).bind fun t47_4 =>
 (cond t47_4
 (some true)
 ((impl_ValOk x38_4.2).bind fun t51_4 =>
 some (!t51_4))).bind fun t53_4 =>
 cond t53_4 (some (.inr (.inr false))) (some (.inl (w64 (t35_4 + 1)))))
 (some (.inr (.inl ())))
def impl_PduOk_l1_5 (p0:Pdu) (t35_5:Int):Option (Int ⊕ (Unit ⊕ Bool)) :=
 cond (decide (t35_5 < (p0.2.2.2.2.length:Int)))
 ((at? p0.2.2.2.2 t35_5).bind fun x38_5 =>
 (cond (decide (t35_5 ≥ 10))
 (some true)
 ((impl_OidOk x38_5.1).bind fun t45_5 =>
 some (!t45_5))).bind fun t47_5 =>
 (cond t47_5
 (some true)
 ((impl_ValOk x38_5.2).bind fun t51_5 =>
 some (!t51_5))).bind fun t53_5 =>
 cond t53_5 (some (.inr (.inr false))) (some (.inl (w64 (t35_5 + 1)))))
 (some (.inr (.inl ())))
def impl_PduOk_l1_6 (p0:Pdu) (t35_6:Int):Option (Int ⊕ (Unit ⊕ Bool)) :=
 cond (decide (t35_6 < (p0.2.2.2.2.length:Int)))
 ((at? p0.2.2.2.2 t35_6).bind fun x38_6 =>
 (cond (decide (t35_6 ≥ 10))
 (some true)
 ((impl_OidOk x38_6.1).bind fun t45_6 =>
 some (!t45_6))).bind fun t47_6 =>
 (cond t47_6
 (some true)
 ((impl_ValOk x38_6.2).bind fun t51_6 =>
 some (!t51_6))).bind fun t53_6 =>
 cond t53_6 (some (.inr (.inr false))) (some (.inl (w64 (t35_6 + 1)))))
 (some (.inr (.inl ())))
def impl_PduOk_l1_7 (p0:Pdu) (t35_7:Int):Option (Int ⊕ (Unit ⊕ Bool)) :=
 cond (decide (t35_7 < (p0.2.2.2.2.length:Int)))
 ((at? p0.2.2.2.2 t35_7).bind fun x38_7 =>
 (cond (decide (t35_7 ≥ 10))
 (some true)
 ((impl_OidOk x38_7.1).bind fun t45_7 =>
 some (!t45_7))).bind fun t47_7 =>
 (cond t47_7
 (some true)
 ((impl_ValOk x38_7.2).bind fun t51_7 =>
 some (!t51_7))).bind fun t53_7 =>
 cond t53_7 (some (.inr (.inr false))) (some (.inl (w64 (t35_7 + 1)))))
 (some (.inr (.inl ())))
def impl_PduOk_l1_8 (p0:Pdu) (t35_8:Int):Option (Int ⊕ (Unit ⊕ Bool)) :=
 cond (decide (t35_8 < (p0.2.2.2.2.length:Int)))
 ((at? p0.2.2.2.2 t35_8).bind fun x38_8 =>
 (cond (decide (t35_8 ≥ 10))
 (some true)
 ((impl_OidOk x38_8.1).bind fun t45_8 =>
 some (!t45_8))).bind fun t47_8 =>
 (cond t47_8
 (some true)
 ((impl_ValOk x38_8.2).bind fun t51_8 =>
 some (!t51_8))).bind fun t53_8 =>
 cond t53_8 (some (.inr (.inr false))) (some (.inl (w64 (t35_8 + 1)))))
 (some (.inr (.inl ())))
def impl_PduOk (p0:Pdu):Option Bool :=
 cond (p0.1 == 160)
 (cond (p0.1 == 160)
 ((cond (p0.2.2.1 != 0) (some true) (some (p0.2.2.2.1 != 0))).bind fun t18 =>
 cond t18
 (some false)
 ((loop (fun z=>impl_PduOk_l1 p0 z) 0).bind (Sum.elim (fun d =>
 (impl_isInt p0.2.1).bind fun t57 =>
 some t57) (fun r=>some r))))
 (cond (p0.1 == 162)
 (cond (p0.1 == 162)
 ((impl_in p0.2.2.1 0 1000).bind fun t24 =>
 (cond (!t24)
 (some true)
 ((impl_in p0.2.2.2.1 0 1000).bind fun t29 =>
 some (!t29))).bind fun t31 =>
 cond t31
 (some false)
 ((loop (fun z=>impl_PduOk_l1_1 p0 z) 0).bind (Sum.elim (fun d_1 =>
 (impl_isInt p0.2.1).bind fun t57_1 =>
 some t57_1) (fun r_1=>some r_1))))
 (some false))
 (cond (p0.1 == 165)
 ((impl_in p0.2.2.1 0 1000).bind fun t24_1 =>
 (cond (!t24_1)
 (some true)
 ((impl_in p0.2.2.2.1 0 1000).bind fun t29_1 =>
 some (!t29_1))).bind fun t31_1 =>
 cond t31_1
 (some false)
 ((loop (fun z=>impl_PduOk_l1_2 p0 z) 0).bind (Sum.elim (fun d_2 =>
 (impl_isInt p0.2.1).bind fun t57_2 =>
 some t57_2) (fun r_2=>some r_2))))
 (some false))))
 (cond (p0.1 == 161)
 (cond (p0.1 == 161)
 ((cond (p0.2.2.1 != 0) (some true) (some (p0.2.2.2.1 != 0))).bind fun t18_1 =>
 cond t18_1
 (some false)
 ((loop (fun z=>impl_PduOk_l1_3 p0 z) 0).bind (Sum.elim (fun d_3 =>
 (impl_isInt p0.2.1).bind fun t57_3 =>
 some t57_3) (fun r_3=>some r_3))))
 (cond (p0.1 == 162)
 (cond (p0.1 == 162)
 ((impl_in p0.2.2.1 0 1000).bind fun t24_2 =>
 (cond (!t24_2)
 (some true)
 ((impl_in p0.2.2.2.1 0 1000).bind fun t29_2 =>
 some (!t29_2))).bind fun t31_2 =>
 cond t31_2
 (some false)
 ((loop (fun z=>impl_PduOk_l1_4 p0 z) 0).bind (Sum.elim (fun d_4 =>
 (impl_isInt p0.2.1).bind fun t57_4 =>
 some t57_4) (fun r_4=>some r_4))))
 (some false))
 (cond (p0.1 == 165)
 ((impl_in p0.2.2.1 0 1000).bind fun t24_3 =>
 (cond (!t24_3)
 (some true)
 ((impl_in p0.2.2.2.1 0 1000).bind fun t29_3 =>
 some (!t29_3))).bind fun t31_3 =>
 cond t31_3
 (some false)
 ((loop (fun z=>impl_PduOk_l1_5 p0 z) 0).bind (Sum.elim (fun d_5 =>
 (impl_isInt p0.2.1).bind fun t57_5 =>
 some t57_5) (fun r_5=>some r_5))))
 (some false))))
 (cond (p0.1 == 163)
 ((cond (p0.2.2.1 != 0) (some true) (some (p0.2.2.2.1 != 0))).bind fun t18_2 =>
 cond t18_2
 (some false)
 ((loop (fun z=>impl_PduOk_l1_6 p0 z) 0).bind (Sum.elim (fun d_6 =>
 (impl_isInt p0.2.1).bind fun t57_6 =>
 some t57_6) (fun r_6=>some r_6))))
 (cond (p0.1 == 162)
 (cond (p0.1 == 162)
 ((impl_in p0.2.2.1 0 1000).bind fun t24_4 =>
 (cond (!t24_4)
 (some true)
 ((impl_in p0.2.2.2.1 0 1000).bind fun t29_4 =>
 some (!t29_4))).bind fun t31_4 =>
 cond t31_4
 (some false)
 ((loop (fun z=>impl_PduOk_l1_7 p0 z) 0).bind (Sum.elim (fun d_7 =>
 (impl_isInt p0.2.1).bind fun t57_7 =>
 some t57_7) (fun r_7=>some r_7))))
 (some false))
 (cond (p0.1 == 165)
 ((impl_in p0.2.2.1 0 1000).bind fun t24_5 =>
 (cond (!t24_5)
 (some true)
 ((impl_in p0.2.2.2.1 0 1000).bind fun t29_5 =>
 some (!t29_5))).bind fun t31_5 =>
 cond t31_5
 (some false)
 ((loop (fun z=>impl_PduOk_l1_8 p0 z) 0).bind (Sum.elim (fun d_8 =>
 (impl_isInt p0.2.1).bind fun t57_8 =>
 some t57_8) (fun r_8=>some r_8))))
 (some false)))))
def F_impl_PduOk:Fn:=⟨[.val true cPdu false],[.val false cNB true],fun a=>impl_PduOk a⟩
def a_impl_PduOk:List (Nat × LoopAnn):=[(1,⟨⟨(35,false,[dI]) :: us 43 4 (us 49 4 []),[]⟩,
 ⟨[],[]⟩,some ⟨[(2,false,[dB])],[]⟩⟩)]
theorem m_impl_PduOk:Meets Tryz.prog 34 F_impl_PduOk:=mkM g_133 34 Tryz.f34 a_impl_PduOk F_impl_PduOk Tryz.func34 (by kernel_rfl) (by kernel_rfl) (by kernel_rfl)
def fns_34:List (FuncId × Fn):=(34,F_impl_PduOk) :: fns_133
theorem g_34:Good Tryz.prog ⟨tis,fns_34,[],false⟩:=g_133.cons m_impl_PduOk
def impl_tlv (tag0:Int) (body1:List Int):Option ((List Int) × Bool) :=
 (impl_in tag0 0 255).bind fun t8 =>
 (cond (!t8) (some true) (some (decide ((body1.length:Int) > 250)))).bind fun t14 =>
 cond t14
 (some ([],false))
 (cond (decide ((body1.length:Int) ≥ 128))
 ((app [IntKind.u8.wrap (tag0)] ([129]:List Int)).bind fun zs23 =>
 (app zs23 [IntKind.u8.wrap ((body1.length:Int))]).bind fun zs29 =>
 (app zs29 body1).bind fun zs31 =>
 some (zs31,true))
 ((app [IntKind.u8.wrap (tag0)] [IntKind.u8.wrap ((body1.length:Int))]).bind fun zs29_1 =>
 (app zs29_1 body1).bind fun zs31_1 =>
 some (zs31_1,true)))
def F_impl_tlv:Fn:=⟨[.val false cNI false,.val false cNY false],[.val false cNY true,.val false cNB true],fun a=>impl_tlv a.1 a.2⟩
theorem m_impl_tlv:Meets Tryz.prog 245 F_impl_tlv:=mkM g_34 245 Tryz.f245 [] F_impl_tlv Tryz.func245 (by kernel_rfl) (by kernel_rfl) (by kernel_rfl)
def fns_245:List (FuncId × Fn):=(245,F_impl_tlv) :: fns_34
theorem g_245:Good Tryz.prog ⟨tis,fns_245,[],false⟩:=g_34.cons m_impl_tlv
def impl_copyBytes (b0:List Int):Option (List Int) :=
 (app [] b0).bind fun zs4 =>
 some zs4
def F_impl_copyBytes:Fn:=⟨[.val false cNY false],[.val false cNY true],fun a=>impl_copyBytes a⟩
theorem m_impl_copyBytes:Meets Tryz.prog 190 F_impl_copyBytes:=mkM g_245 190 Tryz.f190 [] F_impl_copyBytes Tryz.func190 (by kernel_rfl) (by kernel_rfl) (by kernel_rfl)
def fns_190:List (FuncId × Fn):=(190,F_impl_copyBytes) :: fns_245
theorem g_190:Good Tryz.prog ⟨tis,fns_190,[],false⟩:=g_245.cons m_impl_copyBytes
def impl_PutTlv (b0:List Int) (tag1:Int) (body2:List Int):Option (List Int) :=
 (impl_tlv tag1 body2).bind fun t12 =>
 (impl_copyBytes b0).bind fun t16 =>
 (app t16 t12.1).bind fun zs18 =>
 some zs18
def F_impl_PutTlv:Fn:=⟨[.val false cNY false,.val false cNI false,.val false cNY false],[.val false cNY true],fun a=>impl_PutTlv a.1 a.2.1 a.2.2⟩
theorem m_impl_PutTlv:Meets Tryz.prog 247 F_impl_PutTlv:=mkM g_190 247 Tryz.f247 [] F_impl_PutTlv Tryz.func247 (by kernel_rfl) (by kernel_rfl) (by kernel_rfl)
def fns_247:List (FuncId × Fn):=(247,F_impl_PutTlv) :: fns_190
theorem g_247:Good Tryz.prog ⟨tis,fns_247,[],false⟩:=g_190.cons m_impl_PutTlv
def impl_PutOid_l2 (x14:Int) (k6:Int):Option (Int ⊕ Int) :=
 (shr .i64 x14 (w64 (7 * k6))).bind fun t19 =>
 cond (decide (t19 > 127)) (some (.inl (w64 (k6 + 1)))) (some (.inr k6))
def impl_PutOid_l4 (x14:Int) (k6_2:Int) (out3_1:List Int):Option ((Int × List Int) ⊕ (List Int)) :=
 cond (decide (k6_2 > 0))
 ((shr .i64 x14 (w64 (7 * k6_2))).bind fun t31 =>
 (app out3_1 [IntKind.u8.wrap (w64 ((band .i64 t31 127) + 128))]).bind fun zs36 =>
 some (.inl (w64 (k6_2 - 1),zs36)))
 (some (.inr out3_1))
def impl_PutOid_l0 (o0:List Int) (t12:Int) (out3:List Int):Option ((Int × List Int) ⊕ (List Int)) :=
 cond (decide (t12 < (o0.length:Int)))
 ((at? o0 t12).bind fun x14 =>
 (loop (fun z=>impl_PutOid_l2 x14 z) 0).bind fun d =>
 (loop (fun z=>impl_PutOid_l4 x14 z.1 z.2) (d,out3)).bind fun d_1 =>
 (app d_1 [IntKind.u8.wrap (band .i64 x14 127)]).bind fun zs42 =>
 some (.inl (w64 (t12 + 1),zs42)))
 (some (.inr out3))
def impl_PutOid (o0:List Int):Option (List Int) :=
 (impl_OidOk o0).bind fun t8 =>
 cond (!t8)
 (some [])
 ((loop (fun z=>impl_PutOid_l0 o0 z.1 z.2) (0,[])).bind fun d_2 =>
 some d_2)
def F_impl_PutOid:Fn:=⟨[.val false cNN false],[.val false cNY true],fun a=>impl_PutOid a⟩
def a_impl_PutOid:List (Nat × LoopAnn):=[(0,⟨⟨[(3,false,[.own 1000000000]),(12,false,[dI])],[(1000000000,.root (.one (.int .u8)) true)]⟩,
 ⟨[(3,false,[.own 1000000300])],[(1000000300,.root (.one (.int .u8)) true)]⟩,none⟩),
 (2,⟨⟨[(6,false,[dI])],[]⟩,
 ⟨[(6,false,[dI])],[]⟩,none⟩),
 (4,⟨⟨[(3,false,[.own 1000004000]),(6,false,[dI])],[(1000004000,.root (.one (.int .u8)) true)]⟩,
 ⟨[(3,false,[.own 1000004300])],[(1000004300,.root (.one (.int .u8)) true)]⟩,none⟩)]
theorem m_impl_PutOid:Meets Tryz.prog 248 F_impl_PutOid:=mkM g_247 248 Tryz.f248 a_impl_PutOid F_impl_PutOid Tryz.func248 (by kernel_rfl) (by kernel_rfl) (by kernel_rfl)
def fns_248:List (FuncId × Fn):=(248,F_impl_PutOid) :: fns_247
theorem g_248:Good Tryz.prog ⟨tis,fns_248,[],false⟩:=g_247.cons m_impl_PutOid
def impl_PutInt_l0 (n0_1:Int) (k3:Int):Option (Int ⊕ Int) :=
 (cond (decide (k3 < 4))
 ((shl .i64 (-1) (w64 ((w64 (8 * k3)) - 1))).bind fun t16 =>
 (shl .i64 1 (w64 ((w64 (8 * k3)) - 1))).bind fun t20 =>
 (impl_in n0_1 t16 (w64 (t20 - 1))).bind fun t22 =>
 some (!t22))
 (some false)).bind fun t24 =>
 cond t24 (some (.inl (w64 (k3 + 1)))) (some (.inr k3))
def impl_PutInt_l2 (n0_1:Int) (i5:Int) (out4:List Int):Option ((Int × List Int) ⊕ (List Int)) :=
 cond (decide (i5 ≥ 0))
 ((shr .i64 n0_1 (w64 (8 * i5))).bind fun t37 =>
 (app out4 [IntKind.u8.wrap (t37)]).bind fun zs40 =>
 some (.inl (w64 (i5 - 1),zs40)))
 (some (.inr out4))
def impl_PutInt (n0:Int):Option (List Int) :=
 let n0_1:=max2 (-2147483648) (min2 n0 2147483647)
 (loop (fun z=>impl_PutInt_l0 n0_1 z) 1).bind fun d =>
 (loop (fun z=>impl_PutInt_l2 n0_1 z.1 z.2) (w64 (d - 1),[])).bind fun d_1 =>
 some d_1
def F_impl_PutInt:Fn:=⟨[.val false cNI false],[.val false cNY true],fun a=>impl_PutInt a⟩
def a_impl_PutInt:List (Nat × LoopAnn):=[(0,⟨⟨(3,false,[dI]) :: us 12 12 [],[]⟩,
 ⟨[(3,false,[dI])],[]⟩,none⟩),
 (2,⟨⟨[(4,false,[.own 1000002000]),(5,false,[dI])],[(1000002000,.root (.one (.int .u8)) true)]⟩,
 ⟨[(4,false,[.own 1000002300])],[(1000002300,.root (.one (.int .u8)) true)]⟩,none⟩)]
theorem m_impl_PutInt:Meets Tryz.prog 355 F_impl_PutInt:=mkM g_248 355 Tryz.f355 a_impl_PutInt F_impl_PutInt Tryz.func355 (by kernel_rfl) (by kernel_rfl) (by kernel_rfl)
def fns_355:List (FuncId × Fn):=(355,F_impl_PutInt) :: fns_248
theorem g_355:Good Tryz.prog ⟨tis,fns_355,[],false⟩:=g_248.cons m_impl_PutInt
def impl_PutVal (b0:List Int) (v1:Val):Option (List Int) :=
 (impl_ValOk v1).bind fun t7 =>
 cond (!t7)
 ((impl_copyBytes b0).bind fun t10 =>
 some t10)
 (cond (v1.1 == 2)
 ((impl_PutInt v1.2.1).bind fun t17 =>
 (impl_PutTlv b0 v1.1 t17).bind fun t32 =>
 some t32)
 (cond (v1.1 == 4)
 ((impl_PutTlv b0 v1.1 (intsOf v1.2.2.1)).bind fun t32_1 =>
 some t32_1)
 (cond (v1.1 == 6)
 ((impl_PutOid v1.2.2.2).bind fun t27 =>
 (impl_PutTlv b0 v1.1 t27).bind fun t32_2 =>
 some t32_2)
 ((impl_PutTlv b0 v1.1 []).bind fun t32_3 =>
 some t32_3))))
def F_impl_PutVal:Fn:=⟨[.val false cNY false,.val true cVal false],[.val false cNY true],fun a=>impl_PutVal a.1 a.2⟩
theorem m_impl_PutVal:Meets Tryz.prog 246 F_impl_PutVal:=mkM g_355 246 Tryz.f246 [] F_impl_PutVal Tryz.func246 (by kernel_rfl) (by kernel_rfl) (by kernel_rfl)
def fns_246:List (FuncId × Fn):=(246,F_impl_PutVal) :: fns_355
theorem g_246:Good Tryz.prog ⟨tis,fns_246,[],false⟩:=g_355.cons m_impl_PutVal
def impl_addNum (out0:List Int) (tag1:Int) (n2:Int):Option (List Int) :=
 (impl_PutInt n2).bind fun t10 =>
 (impl_PutTlv out0 tag1 t10).bind fun t11 =>
 some t11
def F_impl_addNum:Fn:=⟨[.val false cNY false,.val false cNI false,.val false cNI false],[.val false cNY true],fun a=>impl_addNum a.1 a.2.1 a.2.2⟩
theorem m_impl_addNum:Meets Tryz.prog 249 F_impl_addNum:=mkM g_246 249 Tryz.f249 [] F_impl_addNum Tryz.func249 (by kernel_rfl) (by kernel_rfl) (by kernel_rfl)
def fns_249:List (FuncId × Fn):=(249,F_impl_addNum) :: fns_246
theorem g_249:Good Tryz.prog ⟨tis,fns_249,[],false⟩:=g_246.cons m_impl_addNum
def impl_PutPdu_l0 (p0:Pdu) (t18:Int) (t3:List Int):Option ((Int × List Int) ⊕ ((List Int) ⊕ (List Int))) :=
 cond (decide (t18 < (p0.2.2.2.2.length:Int)))
 ((at? p0.2.2.2.2 t18).bind fun x20 =>
 (impl_PutOid x20.1).bind fun t25 =>
 (impl_PutTlv [] 6 t25).bind fun t26 =>
 (impl_PutVal t26 x20.2).bind fun t29 =>
 (impl_tlv 48 t29).bind fun t30 =>
 cond (!t30.2)
 (some (.inr (.inr [])))
 ((app t3 t30.1).bind fun zs37 =>
 some (.inl (w64 (t18 + 1),zs37))))
 (some (.inr (.inl t3)))
def impl_PutPdu (p0:Pdu):Option (List Int) :=
 (impl_PduOk p0).bind fun t13 =>
 cond (!t13)
 (some [])
 ((loop (fun z=>impl_PutPdu_l0 p0 z.1 z.2) (0,[])).bind (Sum.elim (fun d =>
 (impl_tlv 48 d).bind fun t41 =>
 cond (!t41.2)
 (some [])
 ((impl_addNum [] 2 p0.2.1).bind fun t51 =>
 (impl_addNum t51 2 p0.2.2.1).bind fun t54 =>
 (impl_addNum t54 2 p0.2.2.2.1).bind fun t57 =>
 (app t57 t41.1).bind fun zs59 =>
 (impl_tlv p0.1 zs59).bind fun t60 =>
 cond (!t60.2) (some []) (some t60.1))) (fun r=>some r)))
def F_impl_PutPdu:Fn:=⟨[.val true cPdu false],[.val false cNY true],fun a=>impl_PutPdu a⟩
def a_impl_PutPdu:List (Nat × LoopAnn):=[(0,⟨⟨[(3,false,[.own 1000000000]),(18,false,[dI])],[(1000000000,.root (.one (.int .u8)) true)]⟩,
 ⟨[(3,false,[.own 1000000300])],[(1000000300,.root (.one (.int .u8)) true)]⟩,some ⟨[(2,false,[.own 1000000600])],[(1000000600,.root (.one (.int .u8)) true)]⟩⟩)]
theorem m_impl_PutPdu:Meets Tryz.prog 135 F_impl_PutPdu:=mkM g_249 135 Tryz.f135 a_impl_PutPdu F_impl_PutPdu Tryz.func135 (by kernel_rfl) (by kernel_rfl) (by kernel_rfl)
def fns_135:List (FuncId × Fn):=(135,F_impl_PutPdu) :: fns_249
theorem g_135:Good Tryz.prog ⟨tis,fns_135,[],false⟩:=g_249.cons m_impl_PutPdu
def impl_Fits (p0:Pdu):Option Bool :=
 (impl_PutPdu p0).bind fun t4 =>
 (impl_in (t4.length:Int) 1 120).bind fun t6 =>
 some t6
def F_impl_Fits:Fn:=⟨[.val true cPdu false],[.val false cNB true],fun a=>impl_Fits a⟩
theorem m_impl_Fits:Meets Tryz.prog 35 F_impl_Fits:=mkM g_135 35 Tryz.f35 [] F_impl_Fits Tryz.func35 (by kernel_rfl) (by kernel_rfl) (by kernel_rfl)
def fns_35:List (FuncId × Fn):=(35,F_impl_Fits) :: fns_135
theorem g_35:Good Tryz.prog ⟨tis,fns_35,[],false⟩:=g_135.cons m_impl_Fits
def impl_isCount (n0:Int):Option Bool :=
 (impl_in n0 0 1000000).bind fun t4 =>
 some t4
def F_impl_isCount:Fn:=⟨[.val false cNI false],[.val false cNB true],fun a=>impl_isCount a⟩
theorem m_impl_isCount:Meets Tryz.prog 150 F_impl_isCount:=mkM g_35 150 Tryz.f150 [] F_impl_isCount Tryz.func150 (by kernel_rfl) (by kernel_rfl) (by kernel_rfl)
def fns_150:List (FuncId × Fn):=(150,F_impl_isCount) :: fns_35
theorem g_150:Good Tryz.prog ⟨tis,fns_150,[],false⟩:=g_35.cons m_impl_isCount
def impl_VecOk (v0:Vec):Option Bool :=
 (impl_in v0.1 1 99).bind fun t5 =>
 (cond t5
 ((impl_in v0.2.1 0 100000).bind fun t9 =>
 some t9)
 (some false)).bind fun t10 =>
 (cond t10
 ((impl_in v0.2.2.1 0 10).bind fun t14 =>
 some t14)
 (some false)).bind fun t15 =>
 (cond t15
 ((impl_in v0.2.2.2.1 1 99).bind fun t19 =>
 some t19)
 (some false)).bind fun t20 =>
 (cond t20
 ((impl_in v0.2.2.2.2 0 7).bind fun t24 =>
 some t24)
 (some false)).bind fun t25 =>
 some t25
def F_impl_VecOk:Fn:=⟨[.val true cVec false],[.val false cNB true],fun a=>impl_VecOk a⟩
theorem m_impl_VecOk:Meets Tryz.prog 317 F_impl_VecOk:=mkM g_150 317 Tryz.f317 [] F_impl_VecOk Tryz.func317 (by kernel_rfl) (by kernel_rfl) (by kernel_rfl)
def fns_317:List (FuncId × Fn):=(317,F_impl_VecOk) :: fns_150
theorem g_317:Good Tryz.prog ⟨tis,fns_317,[],false⟩:=g_150.cons m_impl_VecOk
def impl_PtOk (p0:Pt):Option Bool :=
 (impl_in p0.2.1 1 1000).bind fun t5 =>
 (cond (!t5)
 (some true)
 ((cond p0.2.2.1 (some (!p0.1)) (some false)).bind fun t14 =>
 some t14)).bind fun t15 =>
 cond t15
 (some false)
 (cond p0.2.2.1
 ((impl_VecOk p0.2.2.2).bind fun t20 =>
 some t20)
 (let t2:=p0.2.2.2.1 == 0 && (p0.2.2.2.2.1 == 0 && (p0.2.2.2.2.2.1 == 0 && (p0.2.2.2.2.2.2.1 == 0 && (p0.2.2.2.2.2.2.2 == 0))))
 some t2))
def F_impl_PtOk:Fn:=⟨[.val true cPt false],[.val false cNB true],fun a=>impl_PtOk a⟩
theorem m_impl_PtOk:Meets Tryz.prog 231 F_impl_PtOk:=mkM g_317 231 Tryz.f231 [] F_impl_PtOk Tryz.func231 (by kernel_rfl) (by kernel_rfl) (by kernel_rfl)
def fns_231:List (FuncId × Fn):=(231,F_impl_PtOk) :: fns_317
theorem g_231:Good Tryz.prog ⟨tis,fns_231,[],false⟩:=g_317.cons m_impl_PtOk
def impl_fentOk (e0:Fent):Option Bool :=
 (impl_in e0.1 1 99).bind fun t5 =>
 (cond t5
 ((impl_in e0.2.1 1 9999).bind fun t9 =>
 some t9)
 (some false)).bind fun t10 =>
 (cond t10
 ((impl_in e0.2.2.1 0 7).bind fun t14 =>
 some t14)
 (some false)).bind fun t15 =>
 (cond t15
 ((impl_in e0.2.2.2.1 0 4).bind fun t19 =>
 some t19)
 (some false)).bind fun t20 =>
 (cond t20
 ((cond (!e0.2.2.2.2) (some true) (some (e0.2.2.2.1 == 0))).bind fun t29 =>
 some t29)
 (some false)).bind fun t30 =>
 some t30
def F_impl_fentOk:Fn:=⟨[.val true cFent false],[.val false cNB true],fun a=>impl_fentOk a⟩
theorem m_impl_fentOk:Meets Tryz.prog 340 F_impl_fentOk:=mkM g_231 340 Tryz.f340 [] F_impl_fentOk Tryz.func340 (by kernel_rfl) (by kernel_rfl) (by kernel_rfl)
def fns_340:List (FuncId × Fn):=(340,F_impl_fentOk) :: fns_231
theorem g_340:Good Tryz.prog ⟨tis,fns_340,[],false⟩:=g_231.cons m_impl_fentOk
def impl_behind (e0:Fent) (tag1:Int) (mac2:Int):Option Bool :=
 (cond (decide (e0.1 > tag1))
 (some true)
 ((cond (e0.1 == tag1) (some (decide (e0.2.1 > mac2))) (some false)).bind fun t21 =>
 some t21)).bind fun t22 =>
 some t22
def F_impl_behind:Fn:=⟨[.val true cFent false,.val false cNI false,.val false cNI false],[.val false cNB true],fun a=>impl_behind a.1 a.2.1 a.2.2⟩
theorem m_impl_behind:Meets Tryz.prog 341 F_impl_behind:=mkM g_340 341 Tryz.f341 [] F_impl_behind Tryz.func341 (by kernel_rfl) (by kernel_rfl) (by kernel_rfl)
def fns_341:List (FuncId × Fn):=(341,F_impl_behind) :: fns_340
theorem g_341:Good Tryz.prog ⟨tis,fns_341,[],false⟩:=g_340.cons m_impl_behind
def impl_FdbOk_l0 (l0:List Fent) (t7:Int):Option (Int ⊕ (Unit ⊕ Bool)) :=
 cond (decide (t7 < (l0.length:Int)))
 ((at? l0 t7).bind fun x10 =>
 (impl_fentOk x10).bind fun t13 =>
 (cond (!t13)
 (some true)
 ((cond (decide (t7 > 0))
 ((at? l0 (w64 (t7 - 1))).bind fun x23 =>
 (at? l0 (w64 (t7 - 1))).bind fun x29 =>
 (impl_behind x10 x23.1 x29.2.1).bind fun t32 =>
 some (!t32))
 (some false)).bind fun t34 =>
 some t34)).bind fun t35 =>
 cond t35 (some (.inr (.inr false))) (some (.inl (w64 (t7 + 1)))))
 (some (.inr (.inl ())))
def impl_FdbOk (l0:List Fent):Option Bool :=
 (loop (fun z=>impl_FdbOk_l0 l0 z) 0).bind (Sum.elim (fun d =>
 let t2:=decide ((l0.length:Int) ≤ 12)
 some t2) (fun r=>some r))
def F_impl_FdbOk:Fn:=⟨[.val false (.one (.sl cFent)) false],[.val false cNB true],fun a=>impl_FdbOk a⟩
def a_impl_FdbOk:List (Nat × LoopAnn):=[(0,⟨⟨(7,false,[dI]) :: us 16 19 [],[]⟩,
 ⟨[],[]⟩,some ⟨[(2,false,[dB])],[]⟩⟩)]
theorem m_impl_FdbOk:Meets Tryz.prog 232 F_impl_FdbOk:=mkM g_341 232 Tryz.f232 a_impl_FdbOk F_impl_FdbOk Tryz.func232 (by kernel_rfl) (by kernel_rfl) (by kernel_rfl)
def fns_232:List (FuncId × Fn):=(232,F_impl_FdbOk) :: fns_341
theorem g_232:Good Tryz.prog ⟨tis,fns_232,[],false⟩:=g_341.cons m_impl_FdbOk
def impl_allPorts (ports0:Int):Option Int :=
 (shl .i64 1 ports0).bind fun t4 =>
 some (w64 (t4 - 1))
def F_impl_allPorts:Fn:=⟨[.val false cNI false],[.val false cNI true],fun a=>impl_allPorts a⟩
theorem m_impl_allPorts:Meets Tryz.prog 342 F_impl_allPorts:=mkM g_232 342 Tryz.f342 [] F_impl_allPorts Tryz.func342 (by kernel_rfl) (by kernel_rfl) (by kernel_rfl)
def fns_342:List (FuncId × Fn):=(342,F_impl_allPorts) :: fns_232
theorem g_342:Good Tryz.prog ⟨tis,fns_342,[],false⟩:=g_232.cons m_impl_allPorts
def impl_RowAt_l0 (v0:Vtab) (id1:Int) (t10:Int):Option (Int ⊕ (Unit ⊕ Int)) :=
 cond (decide (t10 < (v0.1.length:Int)))
 ((at? v0.1 t10).bind fun x13 =>
 cond (x13.1 == id1) (some (.inr (.inr t10))) (some (.inl (w64 (t10 + 1)))))
 (some (.inr (.inl ())))
def impl_RowAt (v0:Vtab) (id1:Int):Option Int :=
 (loop (fun z=>impl_RowAt_l0 v0 id1 z) 0).bind (Sum.elim (fun d =>
 some (-1)) (fun r=>some r))
def F_impl_RowAt:Fn:=⟨[.val true cVtab false,.val false cNI false],[.val false cNI true],fun a=>impl_RowAt a.1 a.2⟩
def a_impl_RowAt:List (Nat × LoopAnn):=[(0,⟨⟨[(10,false,[dI])],[]⟩,
 ⟨[],[]⟩,some ⟨[(4,false,[dI])],[]⟩⟩)]
theorem m_impl_RowAt:Meets Tryz.prog 343 F_impl_RowAt:=mkM g_342 343 Tryz.f343 a_impl_RowAt F_impl_RowAt Tryz.func343 (by kernel_rfl) (by kernel_rfl) (by kernel_rfl)
def fns_343:List (FuncId × Fn):=(343,F_impl_RowAt) :: fns_342
theorem g_343:Good Tryz.prog ⟨tis,fns_343,[],false⟩:=g_342.cons m_impl_RowAt
def impl_VtabOk_l0 (p0:Vtab) (i1:Int) (t28:Int):Option (Int ⊕ (Unit ⊕ Bool)) :=
 cond (decide (t28 < (p0.1.length:Int)))
 ((at? p0.1 t28).bind fun x31 =>
 (impl_in x31.1 1 99).bind fun t35 =>
 (cond (!t35)
 (some true)
 ((cond (decide (t28 > 0))
 ((at? p0.1 (w64 (t28 - 1))).bind fun x45 =>
 some (decide (x45.1 ≥ x31.1)))
 (some false)).bind fun t51 =>
 some t51)).bind fun t52 =>
 (cond t52
 (some true)
 ((impl_allPorts i1).bind fun t57 =>
 (impl_in x31.2.1 0 t57).bind fun t58 =>
 some (!t58))).bind fun t60 =>
 (cond t60 (some true) (some ((bclr .i64 x31.2.2 x31.2.1) != 0))).bind fun t68 =>
 cond t68 (some (.inr (.inr false))) (some (.inl (w64 (t28 + 1)))))
 (some (.inr (.inl ())))
def impl_VtabOk_l2 (p0:Vtab) (t73:Int):Option (Int ⊕ (Unit ⊕ Bool)) :=
 cond (decide (t73 < (p0.2.length:Int)))
 ((at? p0.2 t73).bind fun x75 =>
 (impl_RowAt p0 x75).bind fun t79 =>
 cond (decide (t79 < 0)) (some (.inr (.inr false))) (some (.inl (w64 (t73 + 1)))))
 (some (.inr (.inl ())))
def impl_VtabOk (p0:Vtab) (i1:Int):Option Bool :=
 (impl_in i1 1 6).bind fun t10 =>
 (cond (!t10) (some true) (some ((p0.2.length:Int) != i1))).bind fun t18 =>
 (cond t18 (some true) (some (decide ((p0.1.length:Int) > 6)))).bind fun t24 =>
 cond t24
 (some false)
 ((loop (fun z=>impl_VtabOk_l0 p0 i1 z) 0).bind (Sum.elim (fun d =>
 (loop (fun z=>impl_VtabOk_l2 p0 z) 0).bind (Sum.elim (fun d_1 =>
 some true) (fun r=>some r))) (fun r_1=>some r_1)))
def F_impl_VtabOk:Fn:=⟨[.val true cVtab false,.val false cNI false],[.val false cNB true],fun a=>impl_VtabOk a.1 a.2⟩
def a_impl_VtabOk:List (Nat × LoopAnn):=[(0,⟨⟨(28,false,[dI]) :: us 38 14 (us 54 6 (us 62 6 [])),[]⟩,
 ⟨[],[]⟩,some ⟨[(4,false,[dB])],[]⟩⟩),
 (2,⟨⟨[(73,false,[dI])],[]⟩,
 ⟨[],[]⟩,some ⟨[(4,false,[dB])],[]⟩⟩)]
theorem m_impl_VtabOk:Meets Tryz.prog 233 F_impl_VtabOk:=mkM g_343 233 Tryz.f233 a_impl_VtabOk F_impl_VtabOk Tryz.func233 (by kernel_rfl) (by kernel_rfl) (by kernel_rfl)
def fns_233:List (FuncId × Fn):=(233,F_impl_VtabOk) :: fns_343
theorem g_233:Good Tryz.prog ⟨tis,fns_233,[],false⟩:=g_343.cons m_impl_VtabOk
def impl_BridgeOk_l0 (p0:Bridge) (t8:Int):Option (Int ⊕ (Unit ⊕ Bool)) :=
 cond (decide (t8 < (p0.2.2.1.length:Int)))
 ((at? p0.2.2.1 t8).bind fun x10 =>
 (impl_PtOk x10).bind fun t13 =>
 cond (!t13) (some (.inr (.inr false))) (some (.inl (w64 (t8 + 1)))))
 (some (.inr (.inl ())))
def impl_BridgeOk (p0:Bridge):Option Bool :=
 (loop (fun z=>impl_BridgeOk_l0 p0 z) 0).bind (Sum.elim (fun d =>
 (impl_in p0.1 1 99).bind fun t18 =>
 (cond (!t18) (some true) (some (decide ((p0.2.1.length:Int) > 10)))).bind fun t25 =>
 (cond t25
 (some true)
 ((impl_in (p0.2.2.1.length:Int) 1 6).bind fun t30 =>
 some (!t30))).bind fun t32 =>
 (cond t32
 (some true)
 ((impl_FdbOk p0.2.2.2.1).bind fun t36 =>
 some (!t36))).bind fun t38 =>
 (cond t38
 (some true)
 ((impl_VtabOk (p0.2.2.2.2.1,p0.2.2.2.2.2.1) (p0.2.2.1.length:Int)).bind fun t45 =>
 some (!t45))).bind fun t47 =>
 cond t47
 (some false)
 ((impl_isCount p0.2.2.2.2.2.2.1).bind fun t50 =>
 (cond t50
 ((impl_isCount p0.2.2.2.2.2.2.2.1).bind fun t54 =>
 some t54)
 (some false)).bind fun t55 =>
 (cond t55
 ((impl_isCount p0.2.2.2.2.2.2.2.2.1).bind fun t59 =>
 some t59)
 (some false)).bind fun t60 =>
 (cond t60
 ((impl_isCount p0.2.2.2.2.2.2.2.2.2.1).bind fun t64 =>
 some t64)
 (some false)).bind fun t65 =>
 (cond t65
 ((impl_isCount p0.2.2.2.2.2.2.2.2.2.2).bind fun t69 =>
 some t69)
 (some false)).bind fun t70 =>
 some t70)) (fun r=>some r))
def F_impl_BridgeOk:Fn:=⟨[.val true cBridge false],[.val false cNB true],fun a=>impl_BridgeOk a⟩
def a_impl_BridgeOk:List (Nat × LoopAnn):=[(0,⟨⟨[(8,false,[dI])],[]⟩,
 ⟨[],[]⟩,some ⟨[(2,false,[dB])],[]⟩⟩)]
theorem m_impl_BridgeOk:Meets Tryz.prog 118 F_impl_BridgeOk:=mkM g_233 118 Tryz.f118 a_impl_BridgeOk F_impl_BridgeOk Tryz.func118 (by kernel_rfl) (by kernel_rfl) (by kernel_rfl)
def fns_118:List (FuncId × Fn):=(118,F_impl_BridgeOk) :: fns_233
theorem g_118:Good Tryz.prog ⟨tis,fns_118,[],false⟩:=g_233.cons m_impl_BridgeOk
def impl_thing (v0:Val) (name1:List Int):Option Bind :=
 (app ([1,3,1]:List Int) name1).bind fun zs7 =>
 some (zs7,v0.1,v0.2.1,v0.2.2.1,v0.2.2.2)
def F_impl_thing:Fn:=⟨[.val true cVal false,.val false cNN false],[.val true cBind false],fun a=>impl_thing a.1 a.2⟩
theorem m_impl_thing:Meets Tryz.prog 250 F_impl_thing:=mkM g_118 250 Tryz.f250 [] F_impl_thing Tryz.func250 (by kernel_rfl) (by kernel_rfl) (by kernel_rfl)
def fns_250:List (FuncId × Fn):=(250,F_impl_thing) :: fns_118
theorem g_250:Good Tryz.prog ⟨tis,fns_250,[],false⟩:=g_118.cons m_impl_thing
def impl_number (n0:Int):Option Val :=
 some (2,n0,[],[])
def F_impl_number:Fn:=⟨[.val false cNI false],[.val true cVal true],fun a=>impl_number a⟩
theorem m_impl_number:Meets Tryz.prog 251 F_impl_number:=mkM g_250 251 Tryz.f251 [] F_impl_number Tryz.func251 (by kernel_rfl) (by kernel_rfl) (by kernel_rfl)
def fns_251:List (FuncId × Fn):=(251,F_impl_number) :: fns_250
theorem g_251:Good Tryz.prog ⟨tis,fns_251,[],false⟩:=g_250.cons m_impl_number
def impl_bit (is0:Bool):Option Int :=
 cond is0 (some 1) (some 0)
def F_impl_bit:Fn:=⟨[.val false cNB false],[.val false cNI true],fun a=>impl_bit a⟩
theorem m_impl_bit:Meets Tryz.prog 356 F_impl_bit:=mkM g_251 356 Tryz.f356 [] F_impl_bit Tryz.func356 (by kernel_rfl) (by kernel_rfl) (by kernel_rfl)
def fns_356:List (FuncId × Fn):=(356,F_impl_bit) :: fns_251
theorem g_356:Good Tryz.prog ⟨tis,fns_356,[],false⟩:=g_251.cons m_impl_bit
def impl_LessVec (a0:Vec) (b1:Vec):Option Bool :=
 cond (a0.1 != b1.1)
 (some (decide (a0.1 < b1.1)))
 (cond (a0.2.1 != b1.2.1)
 (some (decide (a0.2.1 < b1.2.1)))
 (cond (a0.2.2.2.1 != b1.2.2.2.1)
 (let t4:=decide (a0.2.2.2.1 < b1.2.2.2.1)
 some t4)
 (let t4_1:=decide (a0.2.2.2.2 < b1.2.2.2.2)
 some t4_1)))
def F_impl_LessVec:Fn:=⟨[.val true cVec false,.val true cVec false],[.val false cNB true],fun a=>impl_LessVec a.1 a.2⟩
theorem m_impl_LessVec:Meets Tryz.prog 398 F_impl_LessVec:=mkM g_356 398 Tryz.f398 [] F_impl_LessVec Tryz.func398 (by kernel_rfl) (by kernel_rfl) (by kernel_rfl)
def fns_398:List (FuncId × Fn):=(398,F_impl_LessVec) :: fns_356
theorem g_398:Good Tryz.prog ⟨tis,fns_398,[],false⟩:=g_356.cons m_impl_LessVec
def impl_StepVec (v0:Vec) (cost1:Int):Option (Vec × Bool) :=
 (impl_VecOk v0).bind fun t8 =>
 (cond (!t8)
 (some true)
 ((impl_in cost1 1 1000).bind fun t12 =>
 some (!t12))).bind fun t14 =>
 cond t14
 (some (v0,false))
 ((impl_VecOk (v0.1,w64 (v0.2.1 + cost1),w64 (v0.2.2.1 + 1),v0.2.2.2.1,v0.2.2.2.2)).bind fun t27 =>
 cond (!t27)
 (some (v0,false))
 (some ((v0.1,w64 (v0.2.1 + cost1),w64 (v0.2.2.1 + 1),v0.2.2.2.1,v0.2.2.2.2),true)))
def F_impl_StepVec:Fn:=⟨[.val true cVec false,.val false cNI false],[.val true cVec true,.val false cNB true],fun a=>impl_StepVec a.1 a.2⟩
theorem m_impl_StepVec:Meets Tryz.prog 413 F_impl_StepVec:=mkM g_398 413 Tryz.f413 [] F_impl_StepVec Tryz.func413 (by kernel_rfl) (by kernel_rfl) (by kernel_rfl)
def fns_413:List (FuncId × Fn):=(413,F_impl_StepVec) :: fns_398
theorem g_413:Good Tryz.prog ⟨tis,fns_413,[],false⟩:=g_398.cons m_impl_StepVec
def impl_BestVec_l0 (p0:Int) (i1:List Pt) (t7:Int) (t18:Int) (b0:Int) (b1:Int) (b2:Int) (b3:Int) (b4:Int) (b0_1:Int) (b1_1:Int) (b2_1:Int) (b3_1:Int) (b4_1:Int):Option ((Int × Int × Int × Int × Int × Int × Int × Int × Int × Int × Int × Int) ⊕ (Int × Int × Int × Int × Int × Int × Int × Int × Int × Int × Int)) :=
 cond (decide (t18 < (i1.length:Int)))
 ((at? i1 t18).bind fun x21 =>
 (cond (!x21.1) (some true) (some (!x21.2.2.1))).bind fun t30 =>
 cond t30
 (some (.inl (t7,w64 (t18 + 1),b0,b1,b2,b3,b4,b0_1,b1_1,b2_1,b3_1,b4_1)))
 ((impl_StepVec x21.2.2.2 x21.2.1).bind fun t36 =>
 (cond t36.2 (some (decide (t36.1.1 < p0))) (some false)).bind fun t45 =>
 (cond t45
 ((cond (decide (t7 < 0))
 (some true)
 ((impl_LessVec t36.1 (b0_1,b1_1,b2_1,b3_1,b4_1)).bind fun t52 =>
 some t52)).bind fun t53 =>
 some t53)
 (some false)).bind fun t54 =>
 cond t54
 (some (.inl (t18,w64 (t18 + 1),t36.1.1,t36.1.2.1,t36.1.2.2.1,p0,0,t36.1.1,t36.1.2.1,t36.1.2.2.1,t36.1.2.2.2.1,t36.1.2.2.2.2)))
 (some (.inl (t7,w64 (t18 + 1),b0,b1,b2,b3,b4,b0_1,b1_1,b2_1,b3_1,b4_1)))))
 (some (.inr (t7,b0,b1,b2,b3,b4,b0_1,b1_1,b2_1,b3_1,b4_1)))
def impl_BestVec (p0:Int) (i1:List Pt):Option (Vec × Int) :=
 (loop (fun z=>impl_BestVec_l0 p0 i1 z.1 z.2.1 z.2.2.1 z.2.2.2.1 z.2.2.2.2.1 z.2.2.2.2.2.1 z.2.2.2.2.2.2.1 z.2.2.2.2.2.2.2.1 z.2.2.2.2.2.2.2.2.1 z.2.2.2.2.2.2.2.2.2.1 z.2.2.2.2.2.2.2.2.2.2.1 z.2.2.2.2.2.2.2.2.2.2.2) ((-1),0,p0,0,0,p0,0,0,0,0,0,0)).bind fun d =>
 some ((d.2.1,d.2.2.1,d.2.2.2.1,d.2.2.2.2.1,d.2.2.2.2.2.1),d.1)
def F_impl_BestVec:Fn:=⟨[.val false cNI false,.val false (.one (.sl cPt)) false],[.val true cVec true,.val false cNI true],fun a=>impl_BestVec a.1 a.2⟩
def a_impl_BestVec:List (Nat × LoopAnn):=[(0,⟨⟨(7,false,[dI]) :: (18,false,[dI]) :: us 27 3 (us 41 4 (us 47 7 [])),[(266240,.box [dI,dI,dI,dI,dI]),(525312,.box [dI,dI,dI,dI,dI])]⟩,
 ⟨[(7,false,[dI])],[(266240,.box [dI,dI,dI,dI,dI]),(525312,.box [dI,dI,dI,dI,dI])]⟩,none⟩)]
theorem m_impl_BestVec:Meets Tryz.prog 397 F_impl_BestVec:=mkM g_413 397 Tryz.f397 a_impl_BestVec F_impl_BestVec Tryz.func397 (by kernel_rfl) (by kernel_rfl) (by kernel_rfl)
def fns_397:List (FuncId × Fn):=(397,F_impl_BestVec) :: fns_413
theorem g_397:Good Tryz.prog ⟨tis,fns_397,[],false⟩:=g_413.cons m_impl_BestVec
def impl_SayVec (id0:Int) (l1:List Pt) (port2:Int):Option Vec :=
 (impl_BestVec id0 l1).bind fun t12 =>
 some (t12.1.1,t12.1.2.1,t12.1.2.2.1,t12.1.2.2.2.1,port2)
def F_impl_SayVec:Fn:=⟨[.val false cNI false,.val false (.one (.sl cPt)) false,.val false cNI false],[.val true cVec true],fun a=>impl_SayVec a.1 a.2.1 a.2.2⟩
theorem m_impl_SayVec:Meets Tryz.prog 399 F_impl_SayVec:=mkM g_397 399 Tryz.f399 [] F_impl_SayVec Tryz.func399 (by kernel_rfl) (by kernel_rfl) (by kernel_rfl)
def fns_399:List (FuncId × Fn):=(399,F_impl_SayVec) :: fns_397
theorem g_399:Good Tryz.prog ⟨tis,fns_399,[],false⟩:=g_397.cons m_impl_SayVec
def impl_RoleOf (id0:Int) (l1:List Pt) (port2:Int):Option Int :=
 (impl_in port2 0 (w64 ((l1.length:Int) - 1))).bind fun t13 =>
 (cond (!t13)
 (some true)
 ((at? l1 port2).bind fun x18 =>
 some (!x18.1))).bind fun t22 =>
 cond t22
 (some 4)
 ((impl_BestVec id0 l1).bind fun t26 =>
 cond (t26.2 == port2)
 (some 1)
 ((at? l1 port2).bind fun x36 =>
 (cond (!x36.2.2.1)
 (some true)
 ((impl_SayVec id0 l1 port2).bind fun t44 =>
 (at? l1 port2).bind fun x47 =>
 (impl_LessVec t44 x47.2.2.2).bind fun t50 =>
 some t50)).bind fun t51 =>
 cond t51 (some 2) (some 3)))
def F_impl_RoleOf:Fn:=⟨[.val false cNI false,.val false (.one (.sl cPt)) false,.val false cNI false],[.val false cNI true],fun a=>impl_RoleOf a.1 a.2.1 a.2.2⟩
theorem m_impl_RoleOf:Meets Tryz.prog 357 F_impl_RoleOf:=mkM g_399 357 Tryz.f357 [] F_impl_RoleOf Tryz.func357 (by kernel_rfl) (by kernel_rfl) (by kernel_rfl)
def fns_357:List (FuncId × Fn):=(357,F_impl_RoleOf) :: fns_399
theorem g_357:Good Tryz.prog ⟨tis,fns_357,[],false⟩:=g_399.cons m_impl_RoleOf
def impl_portThing (b0:Bridge) (c1:Int) (p2:Int):Option Int :=
 cond (c1 == 1)
 ((at? b0.2.2.1 p2).bind fun x13 =>
 (impl_bit x13.1).bind fun t16 =>
 some t16)
 (cond (c1 == 2)
 ((at? b0.2.2.1 p2).bind fun x22 =>
 some x22.2.1)
 (cond (c1 == 3)
 ((impl_RoleOf b0.1 b0.2.2.1 p2).bind fun t32 =>
 some t32)
 ((at? b0.2.2.2.2.2.1 p2).bind fun x37 =>
 some x37)))
def F_impl_portThing:Fn:=⟨[.val true cBridge false,.val false cNI false,.val false cNI false],[.val false cNI true],fun a=>impl_portThing a.1 a.2.1 a.2.2⟩
theorem m_impl_portThing:Meets Tryz.prog 252 F_impl_portThing:=mkM g_357 252 Tryz.f252 [] F_impl_portThing Tryz.func252 (by kernel_rfl) (by kernel_rfl) (by kernel_rfl)
def fns_252:List (FuncId × Fn):=(252,F_impl_portThing) :: fns_357
theorem g_252:Good Tryz.prog ⟨tis,fns_252,[],false⟩:=g_357.cons m_impl_portThing
def impl_MibList_l0 (p0:Bridge) (t32:Int) (t3:List Bind):Option ((Int × List Bind) ⊕ (List Bind)) :=
 cond (decide (t32 < ([p0.2.2.2.2.2.2.1,p0.2.2.2.2.2.2.2.1,p0.2.2.2.2.2.2.2.2.1,p0.2.2.2.2.2.2.2.2.2.1].length:Int)))
 ((ix [p0.2.2.2.2.2.2.1,p0.2.2.2.2.2.2.2.1,p0.2.2.2.2.2.2.2.2.1,p0.2.2.2.2.2.2.2.2.2.1].length t32).bind fun j35 =>
 ([p0.2.2.2.2.2.2.1,p0.2.2.2.2.2.2.2.1,p0.2.2.2.2.2.2.2.2.1,p0.2.2.2.2.2.2.2.2.2.1][j35]?).bind fun x36 =>
 (impl_number x36).bind fun t39 =>
 (impl_thing t39 [1,w64 (t32 + 2)]).bind fun t43 =>
 (app t3 [t43]).bind fun zs45 =>
 some (.inl (w64 (t32 + 1),zs45)))
 (some (.inr t3))
def impl_MibList_l4 (p0:Bridge) (t6:Int) (t54:Int) (t3_3:List Bind):Option ((Int × List Bind) ⊕ (List Bind)) :=
 cond (decide (t54 < (p0.2.2.1.length:Int)))
 ((impl_portThing p0 t6 t54).bind fun t61 =>
 (impl_number t61).bind fun t62 =>
 (impl_thing t62 [2,t6,w64 (t54 + 1)]).bind fun t67 =>
 (app t3_3 [t67]).bind fun zs69 =>
 some (.inl (w64 (t54 + 1),zs69)))
 (some (.inr t3_3))
def impl_MibList_l2 (p0:Bridge) (t6:Int) (t3_2:List Bind):Option ((Int × List Bind) ⊕ (List Bind)) :=
 cond (decide (t6 ≤ 4))
 ((loop (fun z=>impl_MibList_l4 p0 t6 z.1 z.2) (0,t3_2)).bind fun d_1 =>
 some (.inl (w64 (t6 + 1),d_1)))
 (some (.inr t3_2))
def impl_MibList_l8 (p0:Bridge) (t8:Int) (t79:Int) (t3_7:List Bind):Option ((Int × List Bind) ⊕ (List Bind)) :=
 cond (decide (t79 < (p0.2.2.2.2.1.length:Int)))
 ((at? p0.2.2.2.2.1 t79).bind fun x81 =>
 (ix [1,x81.2.1,x81.2.2].length (w64 (t8 - 1))).bind fun j91 =>
 ([1,x81.2.1,x81.2.2][j91]?).bind fun x92 =>
 (impl_number x92).bind fun t93 =>
 (impl_thing t93 [3,t8,x81.1]).bind fun t98 =>
 (app t3_7 [t98]).bind fun zs100 =>
 some (.inl (w64 (t79 + 1),zs100)))
 (some (.inr t3_7))
def impl_MibList_l6 (p0:Bridge) (t8:Int) (t3_6:List Bind):Option ((Int × List Bind) ⊕ (List Bind)) :=
 cond (decide (t8 ≤ 3))
 ((loop (fun z=>impl_MibList_l8 p0 t8 z.1 z.2) (0,t3_6)).bind fun d_3 =>
 some (.inl (w64 (t8 + 1),d_3)))
 (some (.inr t3_6))
def impl_MibList_l10 (p0:Bridge) (t105:Int) (t3_10:List Bind):Option ((Int × List Bind) ⊕ (List Bind)) :=
 cond (decide (t105 < (p0.2.2.2.1.length:Int)))
 ((at? p0.2.2.2.1 t105).bind fun x107 =>
 (impl_number (w64 (x107.2.2.1 + 1))).bind fun t113 =>
 (impl_thing t113 [4,1,x107.1,x107.2.1]).bind fun t119 =>
 (app t3_10 [t119]).bind fun zs121 =>
 some (.inl (w64 (t105 + 1),zs121)))
 (some (.inr t3_10))
def impl_MibList (p0:Bridge):Option (List Bind) :=
 (impl_BridgeOk p0).bind fun t14 =>
 cond (!t14)
 (some [])
 ((impl_thing (4,0,p0.2.1,[]) ([1,1]:List Int)).bind fun t20 =>
 (loop (fun z=>impl_MibList_l0 p0 z.1 z.2) (0,[t20])).bind fun d =>
 (loop (fun z=>impl_MibList_l2 p0 z.1 z.2) (1,d)).bind fun d_2 =>
 (loop (fun z=>impl_MibList_l6 p0 z.1 z.2) (1,d_2)).bind fun d_4 =>
 (loop (fun z=>impl_MibList_l10 p0 z.1 z.2) (0,d_4)).bind fun d_5 =>
 some d_5)
def F_impl_MibList:Fn:=⟨[.val true cBridge false],[.val false (.one (.sl cBind)) false],fun a=>impl_MibList a⟩
def a_impl_MibList:List (Nat × LoopAnn):=[(0,⟨⟨[(3,false,[.own 1000000000]),(32,false,[dI])],[(1000000000,.root cBind false)]⟩,
 ⟨[(3,false,[.own 1000000300])],[(1000000300,.root cBind false)]⟩,none⟩),
 (2,⟨⟨[(3,false,[.own 1000002000]),(6,false,[dI])],[(1000002000,.root cBind false)]⟩,
 ⟨[(3,false,[.own 1000002300])],[(1000002300,.root cBind false)]⟩,none⟩),
 (4,⟨⟨[(3,false,[.own 1000004000]),(54,false,[dI])],[(1000004000,.root cBind false)]⟩,
 ⟨[(3,false,[.own 1000004300])],[(1000004300,.root cBind false)]⟩,none⟩),
 (6,⟨⟨[(3,false,[.own 1000006000]),(8,false,[dI])],[(1000006000,.root cBind false)]⟩,
 ⟨[(3,false,[.own 1000006300])],[(1000006300,.root cBind false)]⟩,none⟩),
 (8,⟨⟨[(3,false,[.own 1000008000]),(79,false,[dI])],[(1000008000,.root cBind false)]⟩,
 ⟨[(3,false,[.own 1000008300])],[(1000008300,.root cBind false)]⟩,none⟩),
 (10,⟨⟨[(3,false,[.own 1000010000]),(105,false,[dI])],[(1000010000,.root cBind false)]⟩,
 ⟨[(3,false,[.own 1000010300])],[(1000010300,.root cBind false)]⟩,none⟩)]
theorem m_impl_MibList:Meets Tryz.prog 136 F_impl_MibList:=mkM g_252 136 Tryz.f136 a_impl_MibList F_impl_MibList Tryz.func136 (by kernel_rfl) (by kernel_rfl) (by kernel_rfl)
def fns_136:List (FuncId × Fn):=(136,F_impl_MibList) :: fns_252
theorem g_136:Good Tryz.prog ⟨tis,fns_136,[],false⟩:=g_252.cons m_impl_MibList
def impl_MibGet_l0 (o1:List Int) (t8:List Bind) (t10:Int) (b0_1:Int) (b1:Int) (b2:List UInt8) (b3:List Int):Option ((Int × Int × Int × List UInt8 × List Int) ⊕ ((Int × Int × List UInt8 × List Int) ⊕ (Int × Int × List UInt8 × List Int))) :=
 cond (decide (t10 < (t8.length:Int)))
 ((at? t8 t10).bind fun x12 =>
 (impl_SameOid x12.1 o1).bind fun t17 =>
 cond t17
 (some (.inr (.inr x12.2)))
 (some (.inl (w64 (t10 + 1),b0_1,b1,b2,b3))))
 (some (.inr (.inl (b0_1,b1,b2,b3))))
def impl_MibGet (b0:Bridge) (o1:List Int):Option Val :=
 (impl_MibList b0).bind fun t8 =>
 (loop (fun z=>impl_MibGet_l0 o1 t8 z.1 z.2.1 z.2.2.1 z.2.2.2.1 z.2.2.2.2) (0,0,0,[],[])).bind (Sum.elim (fun d =>
 some (128,0,[],[])) (fun r=>some r))
def F_impl_MibGet:Fn:=⟨[.val true cBridge false,.val false cNN false],[.val true cVal false],fun a=>impl_MibGet a.1 a.2⟩
def a_impl_MibGet:List (Nat × LoopAnn):=[(0,⟨⟨[(10,false,[dI])],[(2048,.box [dI,dI,dS,.own 1000000000]),(1000000000,.root cNI true)]⟩,
 ⟨[],[(2048,.box [dI,dI,dS,.own 1000000300]),(1000000300,.root cNI true)]⟩,some ⟨[],[(2048,.box [dI,dI,dS,.dat (.sl cNI)])]⟩⟩)]
theorem m_impl_MibGet:Meets Tryz.prog 38 F_impl_MibGet:=mkM g_136 38 Tryz.f38 a_impl_MibGet F_impl_MibGet Tryz.func38 (by kernel_rfl) (by kernel_rfl) (by kernel_rfl)
def fns_38:List (FuncId × Fn):=(38,F_impl_MibGet) :: fns_136
theorem g_38:Good Tryz.prog ⟨tis,fns_38,[],false⟩:=g_136.cons m_impl_MibGet
def impl_copyInts (l0:List Int):Option (List Int) :=
 (app [] l0).bind fun zs4 =>
 some zs4
def F_impl_copyInts:Fn:=⟨[.val false cNN false],[.val false cNN true],fun a=>impl_copyInts a⟩
theorem m_impl_copyInts:Meets Tryz.prog 119 F_impl_copyInts:=mkM g_38 119 Tryz.f119 [] F_impl_copyInts Tryz.func119 (by kernel_rfl) (by kernel_rfl) (by kernel_rfl)
def fns_119:List (FuncId × Fn):=(119,F_impl_copyInts) :: fns_38
theorem g_119:Good Tryz.prog ⟨tis,fns_119,[],false⟩:=g_38.cons m_impl_copyInts
def impl_LessOid_l0 (a0:List Int) (b1:List Int) (i5:Int):Option (Int ⊕ (Unit ⊕ Bool)) :=
 (cond (decide (i5 < (a0.length:Int))) (some (decide (i5 < (b1.length:Int)))) (some false)).bind fun t15 =>
 cond t15
 ((at? a0 i5).bind fun x20 =>
 (at? b1 i5).bind fun x24 =>
 cond (x20 != x24)
 ((at? a0 i5).bind fun x29 =>
 (at? b1 i5).bind fun x33 =>
 some (.inr (.inr (decide (x29 < x33)))))
 (some (.inl (w64 (i5 + 1)))))
 (some (.inr (.inl ())))
def impl_LessOid (a0:List Int) (b1:List Int):Option Bool :=
 (loop (fun z=>impl_LessOid_l0 a0 b1 z) 0).bind (Sum.elim (fun d =>
 let t4:=decide ((a0.length:Int) < (b1.length:Int))
 some t4) (fun r=>some r))
def F_impl_LessOid:Fn:=⟨[.val false cNN false,.val false cNN false],[.val false cNB true],fun a=>impl_LessOid a.1 a.2⟩
def a_impl_LessOid:List (Nat × LoopAnn):=[(0,⟨⟨(5,false,[dI]) :: us 11 4 [],[]⟩,
 ⟨[],[]⟩,some ⟨[(4,false,[dB])],[]⟩⟩)]
theorem m_impl_LessOid:Meets Tryz.prog 137 F_impl_LessOid:=mkM g_119 137 Tryz.f137 a_impl_LessOid F_impl_LessOid Tryz.func137 (by kernel_rfl) (by kernel_rfl) (by kernel_rfl)
def fns_137:List (FuncId × Fn):=(137,F_impl_LessOid) :: fns_119
theorem g_137:Good Tryz.prog ⟨tis,fns_137,[],false⟩:=g_119.cons m_impl_LessOid
def impl_MibNext_l0 (o1:List Int) (t8:List Bind) (t10:Int) (b1:Int) (b2:Int) (b3:List UInt8) (b0_1:List Int) (b4:List Int):Option ((Int × Int × Int × List UInt8 × List Int × List Int) ⊕ ((Int × Int × List UInt8 × List Int × List Int) ⊕ (List Int × Int × Int × List UInt8 × List Int))) :=
 cond (decide (t10 < (t8.length:Int)))
 ((at? t8 t10).bind fun x12 =>
 (impl_LessOid o1 x12.1).bind fun t17 =>
 cond t17
 (some (.inr (.inr x12)))
 (some (.inl (w64 (t10 + 1),b1,b2,b3,b0_1,b4))))
 (some (.inr (.inl (b1,b2,b3,b0_1,b4))))
def impl_MibNext (b0:Bridge) (o1:List Int):Option Bind :=
 (impl_MibList b0).bind fun t8 =>
 (loop (fun z=>impl_MibNext_l0 o1 t8 z.1 z.2.1 z.2.2.1 z.2.2.2.1 z.2.2.2.2.1 z.2.2.2.2.2) (0,0,0,[],[],[])).bind (Sum.elim (fun d =>
 (impl_copyInts o1).bind fun t21 =>
 some (t21,130,0,[],[])) (fun r=>some r))
def F_impl_MibNext:Fn:=⟨[.val true cBridge false,.val false cNN false],[.val true cBind false],fun a=>impl_MibNext a.1 a.2⟩
def a_impl_MibNext:List (Nat × LoopAnn):=[(0,⟨⟨[(10,false,[dI])],[(2048,.box [.own 1000000000,dI,dI,dS,.own 1000000001]),(1000000000,.root cNI true),(1000000001,.root cNI true)]⟩,
 ⟨[],[(2048,.box [.own 1000000300,dI,dI,dS,.own 1000000301]),(1000000300,.root cNI true),(1000000301,.root cNI true)]⟩,some ⟨[],[(2048,.box [.dat (.sl cNI),dI,dI,dS,.dat (.sl cNI)])]⟩⟩)]
theorem m_impl_MibNext:Meets Tryz.prog 39 F_impl_MibNext:=mkM g_137 39 Tryz.f39 a_impl_MibNext F_impl_MibNext Tryz.func39 (by kernel_rfl) (by kernel_rfl) (by kernel_rfl)
def fns_39:List (FuncId × Fn):=(39,F_impl_MibNext) :: fns_137
theorem g_39:Good Tryz.prog ⟨tis,fns_39,[],false⟩:=g_137.cons m_impl_MibNext
def impl_copyFdb (l0:List Fent):Option (List Fent) :=
 (app [] l0).bind fun zs4 =>
 some zs4
def F_impl_copyFdb:Fn:=⟨[.val false (.one (.sl cFent)) false],[.val false (.one (.sl cFent)) true],fun a=>impl_copyFdb a⟩
theorem m_impl_copyFdb:Meets Tryz.prog 229 F_impl_copyFdb:=mkM g_39 229 Tryz.f229 [] F_impl_copyFdb Tryz.func229 (by kernel_rfl) (by kernel_rfl) (by kernel_rfl)
def fns_229:List (FuncId × Fn):=(229,F_impl_copyFdb) :: fns_39
theorem g_229:Good Tryz.prog ⟨tis,fns_229,[],false⟩:=g_39.cons m_impl_copyFdb
def impl_copyVtab (v0:Vtab):Option Vtab :=
 (app [] v0.1).bind fun zs5 =>
 (impl_copyInts v0.2).bind fun t8 =>
 some (zs5,t8)
def F_impl_copyVtab:Fn:=⟨[.val true cVtab false],[.val true cVtab true],fun a=>impl_copyVtab a⟩
theorem m_impl_copyVtab:Meets Tryz.prog 230 F_impl_copyVtab:=mkM g_229 230 Tryz.f230 [] F_impl_copyVtab Tryz.func230 (by kernel_rfl) (by kernel_rfl) (by kernel_rfl)
def fns_230:List (FuncId × Fn):=(230,F_impl_copyVtab) :: fns_229
theorem g_230:Good Tryz.prog ⟨tis,fns_230,[],false⟩:=g_229.cons m_impl_copyVtab
def impl_copyBridge (b0:Bridge):Option Bridge :=
 (app [] b0.2.2.1).bind fun zs5 =>
 (impl_copyFdb b0.2.2.2.1).bind fun t9 =>
 (impl_copyVtab (b0.2.2.2.2.1,b0.2.2.2.2.2.1)).bind fun t12 =>
 some (b0.1,b0.2.1,zs5,t9,t12.1,t12.2,b0.2.2.2.2.2.2.1,b0.2.2.2.2.2.2.2.1,b0.2.2.2.2.2.2.2.2.1,b0.2.2.2.2.2.2.2.2.2.1,b0.2.2.2.2.2.2.2.2.2.2)
def F_impl_copyBridge:Fn:=⟨[.val true cBridge false],[.val true cBridge true],fun a=>impl_copyBridge a⟩
theorem m_impl_copyBridge:Meets Tryz.prog 117 F_impl_copyBridge:=mkM g_230 117 Tryz.f117 [] F_impl_copyBridge Tryz.func117 (by kernel_rfl) (by kernel_rfl) (by kernel_rfl)
def fns_117:List (FuncId × Fn):=(117,F_impl_copyBridge) :: fns_230
theorem g_117:Good Tryz.prog ⟨tis,fns_117,[],false⟩:=g_230.cons m_impl_copyBridge
def impl_bulk_l0 (p0:Bridge) (t24:List Bind) (t26:Int) (t5:List Bind):Option ((Int × List Bind) ⊕ (List Bind)) :=
 cond (decide (t26 < (t24.length:Int)))
 ((at? t24 t26).bind fun x28 =>
 (impl_MibNext p0 x28.1).bind fun t34 =>
 (app t5 [t34]).bind fun zs36 =>
 some (.inl (w64 (t26 + 1),zs36)))
 (some (.inr t5))
def impl_bulk_l2 (t41:List Bind) (t43:Int) (t9:List (List Int)):Option ((Int × List (List Int)) ⊕ (List (List Int))) :=
 cond (decide (t43 < (t41.length:Int)))
 ((at? t41 t43).bind fun x45 =>
 (app t9 [x45.1]).bind fun zs51 =>
 some (.inl (w64 (t43 + 1),zs51)))
 (some (.inr t9))
def impl_bulk_l6 (p0:Bridge) (l:List (List Int)) (t71:Int) (t5_3:List Bind) (l_1:List (List Int)):Option ((Int × List Bind × List (List Int)) ⊕ (List Bind × List (List Int))) :=
 cond (decide (t71 < (l.length:Int)))
 (cond (decide ((t5_3.length:Int) ≥ 10))
 (some (.inr (t5_3,l_1)))
 ((ix l_1.length t71).bind fun j80 =>
 (l_1[j80]?).bind fun x81 =>
 (impl_MibNext p0 x81).bind fun t82 =>
 (ix l_1.length t71).bind fun j87 =>
 (l_1[j87]?).bind fun x =>
 (app t5_3 [t82]).bind fun zs91 =>
 some (.inl (w64 (t71 + 1),zs91,l_1.set j87 t82.1))))
 (some (.inr (t5_3,l_1)))
def impl_bulk_l4 (p0:Bridge) (i1:Pdu) (t12:Int) (t5_2:List Bind) (l:List (List Int)):Option ((Int × List Bind × List (List Int)) ⊕ (List Bind × List (List Int))) :=
 (cond (decide (t12 < i1.2.2.2.1)) (some (decide ((l.length:Int) > 0))) (some false)).bind fun t61 =>
 (cond t61 (some (decide ((t5_2.length:Int) < 10))) (some false)).bind fun t66 =>
 cond t66
 ((loop (fun z=>impl_bulk_l6 p0 l z.1 z.2.1 z.2.2) (0,t5_2,l)).bind fun d_2 =>
 some (.inl (w64 (t12 + 1),d_2.1,d_2.2)))
 (some (.inr (t5_2,l)))
def impl_bulk (p0:Bridge) (i1:Pdu):Option (List Bind) :=
 let t6:=min2 i1.2.2.1 (i1.2.2.2.2.length:Int)
 (cut i1.2.2.2.2 0 t6).bind fun t24 =>
 (loop (fun z=>impl_bulk_l0 p0 t24 z.1 z.2) (0,[])).bind fun d =>
 (cut i1.2.2.2.2 t6 (i1.2.2.2.2.length:Int)).bind fun t41 =>
 (loop (fun z=>impl_bulk_l2 t41 z.1 z.2) (0,[])).bind fun d_1 =>
 (loop (fun z=>impl_bulk_l4 p0 i1 z.1 z.2.1 z.2.2) (0,d,d_1)).bind fun d_3 =>
 some d_3.1
def F_impl_bulk:Fn:=⟨[.val true cBridge false,.val true cPdu false],[.val false (.one (.sl cBind)) false],fun a=>impl_bulk a.1 a.2⟩
def a_impl_bulk:List (Nat × LoopAnn):=[(0,⟨⟨[(5,false,[.own 1000000000]),(26,false,[dI])],[(1000000000,.root cBind false)]⟩,
 ⟨[(5,false,[.own 1000000300])],[(1000000300,.root cBind false)]⟩,none⟩),
 (2,⟨⟨[(9,false,[.own 1000002000]),(43,false,[dI])],[(1000002000,.root cNN false)]⟩,
 ⟨[(9,false,[.own 1000002300])],[(1000002300,.root cNN false)]⟩,none⟩),
 (4,⟨⟨(5,false,[.own 1000004000]) :: (12,false,[dI]) :: us 58 3 (us 63 3 []),[(1000004000,.root cBind false),(1000002300,.keep cNN false)]⟩,
 ⟨[(5,false,[.own 1000004300])],[(1000004300,.root cBind false),(1000002300,.keep cNN false)]⟩,none⟩),
 (6,⟨⟨[(5,false,[.own 1000006000]),(71,false,[dI])],[(1000006000,.root cBind false),(1000002300,.keep cNN false)]⟩,
 ⟨[(5,false,[.own 1000006300])],[(1000006300,.root cBind false),(1000002300,.keep cNN false)]⟩,none⟩)]
theorem m_impl_bulk:Meets Tryz.prog 120 F_impl_bulk:=mkM g_117 120 Tryz.f120 a_impl_bulk F_impl_bulk Tryz.func120 (by kernel_rfl) (by kernel_rfl) (by kernel_rfl)
def fns_120:List (FuncId × Fn):=(120,F_impl_bulk) :: fns_117
theorem g_120:Good Tryz.prog ⟨tis,fns_120,[],false⟩:=g_117.cons m_impl_bulk
def impl_numbered (o0:List Int) (low1:Int) (high2:Int) (head3:List Int):Option Bool :=
 cond ((o0.length:Int) == (w64 ((head3.length:Int) + 4)))
 ((cut o0 0 (w64 ((o0.length:Int) - 1))).bind fun t20 =>
 (app ([1,3,1]:List Int) head3).bind fun zs23 =>
 (impl_SameOid t20 zs23).bind fun t24 =>
 (cond t24
 ((at? o0 (w64 ((o0.length:Int) - 1))).bind fun x31 =>
 (impl_in x31 low1 high2).bind fun t35 =>
 some t35)
 (some false)).bind fun t36 =>
 some t36)
 ((some false).bind fun t36_1 =>
 some t36_1)
def F_impl_numbered:Fn:=⟨[.val false cNN false,.val false cNI false,.val false cNI false,.val false cNN false],[.val false cNB true],fun a=>impl_numbered a.1 a.2.1 a.2.2.1 a.2.2.2⟩
theorem m_impl_numbered:Meets Tryz.prog 389 F_impl_numbered:=mkM g_120 389 Tryz.f389 [] F_impl_numbered Tryz.func389 (by kernel_rfl) (by kernel_rfl) (by kernel_rfl)
def fns_389:List (FuncId × Fn):=(389,F_impl_numbered) :: fns_120
theorem g_389:Good Tryz.prog ⟨tis,fns_389,[],false⟩:=g_120.cons m_impl_numbered
def impl_canSet (b0:Bridge) (o1:List Int):Option Bool :=
 (impl_numbered o1 1 1 ([1]:List Int)).bind fun t11 =>
 (cond t11
 (some true)
 ((impl_numbered o1 1 (b0.2.2.1.length:Int) ([2,2]:List Int)).bind fun t16 =>
 some t16)).bind fun t17 =>
 (cond t17
 (some true)
 ((impl_numbered o1 1 (b0.2.2.1.length:Int) ([2,4]:List Int)).bind fun t22 =>
 some t22)).bind fun t23 =>
 (cond t23
 (some true)
 ((impl_numbered o1 1 99 ([3,1]:List Int)).bind fun t27 =>
 some t27)).bind fun t28 =>
 cond t28
 (some true)
 ((impl_numbered o1 1 99 ([3,2]:List Int)).bind fun t31 =>
 (cond t31
 (some true)
 ((impl_numbered o1 1 99 ([3,3]:List Int)).bind fun t35 =>
 some t35)).bind fun t36 =>
 (cond t36
 ((at? o1 5).bind fun x41 =>
 (impl_RowAt (b0.2.2.2.2.1,b0.2.2.2.2.2.1) x41).bind fun t43 =>
 some (decide (t43 ≥ 0)))
 (some false)).bind fun t45 =>
 some t45)
def F_impl_canSet:Fn:=⟨[.val true cBridge false,.val false cNN false],[.val false cNB true],fun a=>impl_canSet a.1 a.2⟩
theorem m_impl_canSet:Meets Tryz.prog 344 F_impl_canSet:=mkM g_389 344 Tryz.f344 [] F_impl_canSet Tryz.func344 (by kernel_rfl) (by kernel_rfl) (by kernel_rfl)
def fns_344:List (FuncId × Fn):=(344,F_impl_canSet) :: fns_389
theorem g_344:Good Tryz.prog ⟨tis,fns_344,[],false⟩:=g_389.cons m_impl_canSet
def impl_withRow_l0 (v0:Vtab) (r1:Vrow) (k7:Int):Option (Int ⊕ Int) :=
 (cond (decide (k7 < (v0.1.length:Int)))
 ((at? v0.1 k7).bind fun x31 =>
 some (decide (x31.1 ≤ r1.1)))
 (some false)).bind fun t37 =>
 cond t37 (some (.inl (w64 (k7 + 1)))) (some (.inr k7))
def impl_withRow (v0:Vtab) (r1:Vrow):Option Vtab :=
 (impl_copyVtab v0).bind fun t9 =>
 (impl_RowAt v0 r1.1).bind fun t13 =>
 cond (decide (t13 ≥ 0))
 ((ix t9.1.length t13).bind fun j20 =>
 (t9.1[j20]?).bind fun x =>
 some (t9.1.set j20 r1,t9.2))
 ((loop (fun z=>impl_withRow_l0 v0 r1 z) 0).bind fun d =>
 (cut v0.1 0 d).bind fun t43 =>
 (app [] t43).bind fun zs44 =>
 (app zs44 [r1]).bind fun zs47 =>
 (cut v0.1 d (v0.1.length:Int)).bind fun t51 =>
 (app zs47 t51).bind fun zs52 =>
 some (zs52,t9.2))
def F_impl_withRow:Fn:=⟨[.val true cVtab false,.val true cVrow false],[.val true cVtab true],fun a=>impl_withRow a.1 a.2⟩
def a_impl_withRow:List (Nat × LoopAnn):=[(0,⟨⟨(7,false,[dI]) :: us 28 9 [],[]⟩,
 ⟨[(7,false,[dI])],[]⟩,none⟩)]
theorem m_impl_withRow:Meets Tryz.prog 409 F_impl_withRow:=mkM g_344 409 Tryz.f409 a_impl_withRow F_impl_withRow Tryz.func409 (by kernel_rfl) (by kernel_rfl) (by kernel_rfl)
def fns_409:List (FuncId × Fn):=(409,F_impl_withRow) :: fns_344
theorem g_409:Good Tryz.prog ⟨tis,fns_409,[],false⟩:=g_344.cons m_impl_withRow
def impl_withoutRow (v0:Vtab) (id1:Int):Option Vtab :=
 (impl_copyVtab v0).bind fun t8 =>
 (impl_RowAt v0 id1).bind fun t11 =>
 cond (decide (t11 ≥ 0))
 ((cut v0.1 0 t11).bind fun t17 =>
 (app [] t17).bind fun zs18 =>
 (cut v0.1 (w64 (t11 + 1)) (v0.1.length:Int)).bind fun t23 =>
 (app zs18 t23).bind fun zs24 =>
 some (zs24,t8.2))
 (some t8)
def F_impl_withoutRow:Fn:=⟨[.val true cVtab false,.val false cNI false],[.val true cVtab true],fun a=>impl_withoutRow a.1 a.2⟩
theorem m_impl_withoutRow:Meets Tryz.prog 410 F_impl_withoutRow:=mkM g_409 410 Tryz.f410 [] F_impl_withoutRow Tryz.func410 (by kernel_rfl) (by kernel_rfl) (by kernel_rfl)
def fns_410:List (FuncId × Fn):=(410,F_impl_withoutRow) :: fns_409
theorem g_410:Good Tryz.prog ⟨tis,fns_410,[],false⟩:=g_409.cons m_impl_withoutRow
def impl_Bridge_setRow (p0:Bridge) (i1:Int) (a2:Int) (a3:Int):Option (Bridge × Int) :=
 (impl_RowAt (p0.2.2.2.2.1,p0.2.2.2.2.2.1) a2).bind fun t15 =>
 cond (i1 == 1)
 ((cond (a3 == 4) (some (decide (t15 < 0))) (some false)).bind fun t24 =>
 (cond t24 (some (decide ((p0.2.2.2.2.1.length:Int) < 6))) (some false)).bind fun t33 =>
 cond t33
 ((impl_withRow (p0.2.2.2.2.1,p0.2.2.2.2.2.1) (a2,0,0)).bind fun t41 =>
 some ((p0.1,p0.2.1,p0.2.2.1,p0.2.2.2.1,t41.1,t41.2,p0.2.2.2.2.2.2.1,p0.2.2.2.2.2.2.2.1,p0.2.2.2.2.2.2.2.2.1,p0.2.2.2.2.2.2.2.2.2.1,p0.2.2.2.2.2.2.2.2.2.2),0))
 ((cond (a3 == 6) (some (decide (t15 ≥ 0))) (some false)).bind fun t50 =>
 cond t50
 ((impl_withoutRow (p0.2.2.2.2.1,p0.2.2.2.2.2.1) a2).bind fun t57 =>
 some ((p0.1,p0.2.1,p0.2.2.1,p0.2.2.2.1,t57.1,t57.2,p0.2.2.2.2.2.2.1,p0.2.2.2.2.2.2.2.1,p0.2.2.2.2.2.2.2.2.1,p0.2.2.2.2.2.2.2.2.2.1,p0.2.2.2.2.2.2.2.2.2.2),0))
 (some (p0,2))))
 ((impl_allPorts (p0.2.2.1.length:Int)).bind fun t66 =>
 (impl_in a3 0 t66).bind fun t67 =>
 cond (!t67)
 (some (p0,2))
 (cond (i1 == 2)
 ((ix p0.2.2.2.2.1.length t15).bind fun j78 =>
 (p0.2.2.2.2.1[j78]?).bind fun x =>
 some ((p0.1,p0.2.1,p0.2.2.1,p0.2.2.2.1,p0.2.2.2.2.1.set j78 (x.1,a3,x.2.2),p0.2.2.2.2.2.1,p0.2.2.2.2.2.2.1,p0.2.2.2.2.2.2.2.1,p0.2.2.2.2.2.2.2.2.1,p0.2.2.2.2.2.2.2.2.2.1,p0.2.2.2.2.2.2.2.2.2.2),0))
 ((ix p0.2.2.2.2.1.length t15).bind fun j87 =>
 (p0.2.2.2.2.1[j87]?).bind fun x_1 =>
 some ((p0.1,p0.2.1,p0.2.2.1,p0.2.2.2.1,p0.2.2.2.2.1.set j87 (x_1.1,x_1.2.1,a3),p0.2.2.2.2.2.1,p0.2.2.2.2.2.2.1,p0.2.2.2.2.2.2.2.1,p0.2.2.2.2.2.2.2.2.1,p0.2.2.2.2.2.2.2.2.2.1,p0.2.2.2.2.2.2.2.2.2.2),0))))
def F_impl_Bridge_setRow:Fn:=⟨[.ptr cBridge true,.val false cNI false,.val false cNI false,.val false cNI false],[.val false cNI true],fun a=>impl_Bridge_setRow a.1 a.2.1 a.2.2.1 a.2.2.2⟩
theorem m_impl_Bridge_setRow:Meets Tryz.prog 390 F_impl_Bridge_setRow:=mkM g_410 390 Tryz.f390 [] F_impl_Bridge_setRow Tryz.func390 (by kernel_rfl) (by kernel_rfl) (by kernel_rfl)
def fns_390:List (FuncId × Fn):=(390,F_impl_Bridge_setRow) :: fns_410
theorem g_390:Good Tryz.prog ⟨tis,fns_390,[],false⟩:=g_410.cons m_impl_Bridge_setRow
def impl_Bridge_setThing (p0:Bridge) (i1:List Int) (a2:Val):Option (Bridge × Int) :=
 (at? i1 3).bind fun x9 =>
 (cond (x9 == 1) (some (a2.1 != 4)) (some false)).bind fun t17 =>
 (cond t17
 (some true)
 ((cond (!(x9 == 1)) (some (a2.1 != 2)) (some false)).bind fun t25 =>
 some t25)).bind fun t26 =>
 cond t26
 (some (p0,1))
 (cond (x9 == 1)
 (cond (decide ((a2.2.2.1.length:Int) > 10))
 (some (p0,2))
 (some ((p0.1,a2.2.2.1,p0.2.2.1,p0.2.2.2.1,p0.2.2.2.2.1,p0.2.2.2.2.2.1,p0.2.2.2.2.2.2.1,p0.2.2.2.2.2.2.2.1,p0.2.2.2.2.2.2.2.2.1,p0.2.2.2.2.2.2.2.2.2.1,p0.2.2.2.2.2.2.2.2.2.2),0)))
 ((at? i1 3).bind fun x52 =>
 cond (x52 == 3)
 ((at? i1 4).bind fun x57 =>
 (at? i1 5).bind fun x60 =>
 (impl_Bridge_setRow p0 x57 x60 a2.2.1).bind fun t64 =>
 some t64)
 ((at? i1 4).bind fun x67 =>
 cond (x67 == 2)
 ((impl_in a2.2.1 1 1000).bind fun t72 =>
 cond (!t72)
 (some (p0,2))
 ((at? i1 5).bind fun x79 =>
 (ix p0.2.2.1.length (w64 (x79 - 1))).bind fun j84 =>
 (p0.2.2.1[j84]?).bind fun x =>
 some ((p0.1,p0.2.1,p0.2.2.1.set j84 (x.1,a2.2.1,x.2.2.1,x.2.2.2.1,x.2.2.2.2.1,x.2.2.2.2.2.1,x.2.2.2.2.2.2.1,x.2.2.2.2.2.2.2),p0.2.2.2.1,p0.2.2.2.2.1,p0.2.2.2.2.2.1,p0.2.2.2.2.2.2.1,p0.2.2.2.2.2.2.2.1,p0.2.2.2.2.2.2.2.2.1,p0.2.2.2.2.2.2.2.2.2.1,p0.2.2.2.2.2.2.2.2.2.2),0)))
 ((at? i1 5).bind fun x33 =>
 (ix p0.2.2.2.2.2.1.length (w64 (x33 - 1))).bind fun j38 =>
 (p0.2.2.2.2.2.1[j38]?).bind fun x_1 =>
 some ((p0.1,p0.2.1,p0.2.2.1,p0.2.2.2.1,p0.2.2.2.2.1,p0.2.2.2.2.2.1.set j38 a2.2.1,p0.2.2.2.2.2.2.1,p0.2.2.2.2.2.2.2.1,p0.2.2.2.2.2.2.2.2.1,p0.2.2.2.2.2.2.2.2.2.1,p0.2.2.2.2.2.2.2.2.2.2),0)))))
def F_impl_Bridge_setThing:Fn:=⟨[.ptr cBridge true,.val false cNN false,.val true cVal false],[.val false cNI true],fun a=>impl_Bridge_setThing a.1 a.2.1 a.2.2⟩
theorem m_impl_Bridge_setThing:Meets Tryz.prog 345 F_impl_Bridge_setThing:=mkM g_390 345 Tryz.f345 [] F_impl_Bridge_setThing Tryz.func345 (by kernel_rfl) (by kernel_rfl) (by kernel_rfl)
def fns_345:List (FuncId × Fn):=(345,F_impl_Bridge_setThing) :: fns_390
theorem g_345:Good Tryz.prog ⟨tis,fns_345,[],false⟩:=g_390.cons m_impl_Bridge_setThing
def impl_entAt_l0 (l0:List Fent) (tag1:Int) (mac2:Int) (t11:Int):Option (Int ⊕ (Unit ⊕ Int)) :=
 cond (decide (t11 < (l0.length:Int)))
 ((at? l0 t11).bind fun x14 =>
 (cond (x14.1 == tag1) (some (x14.2.1 == mac2)) (some false)).bind fun t25 =>
 cond t25 (some (.inr (.inr t11))) (some (.inl (w64 (t11 + 1)))))
 (some (.inr (.inl ())))
def impl_entAt (l0:List Fent) (tag1:Int) (mac2:Int):Option Int :=
 (loop (fun z=>impl_entAt_l0 l0 tag1 mac2 z) 0).bind (Sum.elim (fun d =>
 some (-1)) (fun r=>some r))
def F_impl_entAt:Fn:=⟨[.val false (.one (.sl cFent)) false,.val false cNI false,.val false cNI false],[.val false cNI true],fun a=>impl_entAt a.1 a.2.1 a.2.2⟩
def a_impl_entAt:List (Nat × LoopAnn):=[(0,⟨⟨(11,false,[dI]) :: us 21 4 [],[]⟩,
 ⟨[],[]⟩,some ⟨[(6,false,[dI])],[]⟩⟩)]
theorem m_impl_entAt:Meets Tryz.prog 383 F_impl_entAt:=mkM g_345 383 Tryz.f383 a_impl_entAt F_impl_entAt Tryz.func383 (by kernel_rfl) (by kernel_rfl) (by kernel_rfl)
def fns_383:List (FuncId × Fn):=(383,F_impl_entAt) :: fns_345
theorem g_383:Good Tryz.prog ⟨tis,fns_383,[],false⟩:=g_345.cons m_impl_entAt
def impl_canRead (b0:Bridge) (o1:List Int):Option Bool :=
 (impl_numbered o1 2 5 ([1]:List Int)).bind fun t11 =>
 (cond t11
 (some true)
 ((impl_numbered o1 1 (b0.2.2.1.length:Int) ([2,1]:List Int)).bind fun t16 =>
 some t16)).bind fun t17 =>
 (cond t17
 (some true)
 ((impl_numbered o1 1 (b0.2.2.1.length:Int) ([2,3]:List Int)).bind fun t22 =>
 some t22)).bind fun t23 =>
 cond t23
 (some true)
 ((cond ((o1.length:Int) == 7)
 ((cut o1 0 5).bind fun t29 =>
 (impl_SameOid t29 ([1,3,1,4,1]:List Int)).bind fun t31 =>
 some t31)
 (some false)).bind fun t32 =>
 (cond t32
 ((at? o1 5).bind fun x37 =>
 (at? o1 6).bind fun x40 =>
 (impl_entAt b0.2.2.2.1 x37 x40).bind fun t42 =>
 some (decide (t42 ≥ 0)))
 (some false)).bind fun t44 =>
 some t44)
def F_impl_canRead:Fn:=⟨[.val true cBridge false,.val false cNN false],[.val false cNB true],fun a=>impl_canRead a.1 a.2⟩
theorem m_impl_canRead:Meets Tryz.prog 346 F_impl_canRead:=mkM g_383 346 Tryz.f346 [] F_impl_canRead Tryz.func346 (by kernel_rfl) (by kernel_rfl) (by kernel_rfl)
def fns_346:List (FuncId × Fn):=(346,F_impl_canRead) :: fns_383
theorem g_346:Good Tryz.prog ⟨tis,fns_346,[],false⟩:=g_383.cons m_impl_canRead
def impl_Bridge_set (b0:Bridge) (x1:Bind):Option (Bridge × Int) :=
 (impl_canSet b0 x1.1).bind fun t11 =>
 cond t11
 ((impl_Bridge_setThing b0 x1.1 x1.2).bind fun t17 =>
 some t17)
 ((impl_canRead b0 x1.1).bind fun t24 =>
 cond t24 (some (b0,4)) (some (b0,3)))
def F_impl_Bridge_set:Fn:=⟨[.ptr cBridge true,.val true cBind false],[.val false cNI true],fun a=>impl_Bridge_set a.1 a.2⟩
theorem m_impl_Bridge_set:Meets Tryz.prog 234 F_impl_Bridge_set:=mkM g_346 234 Tryz.f234 [] F_impl_Bridge_set Tryz.func234 (by kernel_rfl) (by kernel_rfl) (by kernel_rfl)
def fns_234:List (FuncId × Fn):=(234,F_impl_Bridge_set) :: fns_346
theorem g_234:Good Tryz.prog ⟨tis,fns_234,[],false⟩:=g_346.cons m_impl_Bridge_set
def impl_more (n0:Int):Option Int :=
 let t2:=min2 (w64 (n0 + 1)) 1000000
 some t2
def F_impl_more:Fn:=⟨[.val false cNI false],[.val false cNI true],fun a=>impl_more a⟩
theorem m_impl_more:Meets Tryz.prog 189 F_impl_more:=mkM g_234 189 Tryz.f189 [] F_impl_more Tryz.func189 (by kernel_rfl) (by kernel_rfl) (by kernel_rfl)
def fns_189:List (FuncId × Fn):=(189,F_impl_more) :: fns_234
theorem g_189:Good Tryz.prog ⟨tis,fns_189,[],false⟩:=g_234.cons m_impl_more
def impl_hasPort (bits0:Int) (port1:Int):Option Bool :=
 (impl_in port1 0 62).bind fun t6 =>
 (cond t6
 ((shr .i64 bits0 port1).bind fun t10 =>
 some ((band .i64 t10 1) == 1))
 (some false)).bind fun t13 =>
 some t13
def F_impl_hasPort:Fn:=⟨[.val false cNI false,.val false cNI false],[.val false cNB true],fun a=>impl_hasPort a.1 a.2⟩
theorem m_impl_hasPort:Meets Tryz.prog 319 F_impl_hasPort:=mkM g_189 319 Tryz.f319 [] F_impl_hasPort Tryz.func319 (by kernel_rfl) (by kernel_rfl) (by kernel_rfl)
def fns_319:List (FuncId × Fn):=(319,F_impl_hasPort) :: fns_189
theorem g_319:Good Tryz.prog ⟨tis,fns_319,[],false⟩:=g_189.cons m_impl_hasPort
def impl_Sends_l0 (id0:Int) (l1:List Pt) (bits5:Int) (port6:Int):Option ((Int × Int) ⊕ Int) :=
 (cond (decide (port6 < (l1.length:Int))) (some (decide (port6 < 6))) (some false)).bind fun t15 =>
 cond t15
 ((impl_RoleOf id0 l1 port6).bind fun t21 =>
 (cond (t21 == 1) (some true) (some (t21 == 2))).bind fun t27 =>
 cond t27
 ((shl .i64 1 port6).bind fun t30 =>
 some (.inl (bor .i64 bits5 t30,w64 (port6 + 1))))
 (some (.inl (bits5,w64 (port6 + 1)))))
 (some (.inr bits5))
def impl_Sends (id0:Int) (l1:List Pt):Option Int :=
 (loop (fun z=>impl_Sends_l0 id0 l1 z.1 z.2) (0,0)).bind fun d =>
 some d
def F_impl_Sends:Fn:=⟨[.val false cNI false,.val false (.one (.sl cPt)) false],[.val false cNI true],fun a=>impl_Sends a.1 a.2⟩
def a_impl_Sends:List (Nat × LoopAnn):=[(0,⟨⟨[(5,false,[dI]),(6,false,[dI]),(13,false,[.undef]),(14,false,[.undef]),(25,false,[.undef]),(26,false,[.undef])],[]⟩,
 ⟨[(5,false,[dI])],[]⟩,none⟩)]
theorem m_impl_Sends:Meets Tryz.prog 320 F_impl_Sends:=mkM g_319 320 Tryz.f320 a_impl_Sends F_impl_Sends Tryz.func320 (by kernel_rfl) (by kernel_rfl) (by kernel_rfl)
def fns_320:List (FuncId × Fn):=(320,F_impl_Sends) :: fns_319
theorem g_320:Good Tryz.prog ⟨tis,fns_320,[],false⟩:=g_319.cons m_impl_Sends
def impl_FlushPort_l0 (l0:List Fent) (port1:Int) (t10:Int) (out5:List Fent):Option ((Int × List Fent) ⊕ (List Fent)) :=
 cond (decide (t10 < (l0.length:Int)))
 ((at? l0 t10).bind fun x12 =>
 (cond x12.2.2.2.2 (some true) (some (x12.2.2.1 != port1))).bind fun t21 =>
 cond t21
 ((app out5 [x12]).bind fun zs25 =>
 some (.inl (w64 (t10 + 1),zs25)))
 (some (.inl (w64 (t10 + 1),out5))))
 (some (.inr out5))
def impl_FlushPort (l0:List Fent) (port1:Int):Option (List Fent) :=
 (loop (fun z=>impl_FlushPort_l0 l0 port1 z.1 z.2) (0,[])).bind fun d =>
 some d
def F_impl_FlushPort:Fn:=⟨[.val false (.one (.sl cFent)) false,.val false cNI false],[.val false (.one (.sl cFent)) true],fun a=>impl_FlushPort a.1 a.2⟩
def a_impl_FlushPort:List (Nat × LoopAnn):=[(0,⟨⟨(5,false,[.own 1000000000]) :: (10,false,[dI]) :: us 17 4 [],[(1000000000,.root cFent true)]⟩,
 ⟨[(5,false,[.own 1000000300])],[(1000000300,.root cFent true)]⟩,none⟩)]
theorem m_impl_FlushPort:Meets Tryz.prog 347 F_impl_FlushPort:=mkM g_320 347 Tryz.f347 a_impl_FlushPort F_impl_FlushPort Tryz.func347 (by kernel_rfl) (by kernel_rfl) (by kernel_rfl)
def fns_347:List (FuncId × Fn):=(347,F_impl_FlushPort) :: fns_320
theorem g_347:Good Tryz.prog ⟨tis,fns_347,[],false⟩:=g_320.cons m_impl_FlushPort
def impl_Bridge_turn_l0 (b0:Bridge) (t20:Int) (t26:Int) (b0_1:Int) (b1:List UInt8) (b6:Int) (b7:Int) (b8:Int) (b9:Int) (b10:Int) (b3:List Fent):Option ((Int × Int × List UInt8 × Int × Int × Int × Int × Int × List Fent) ⊕ (Int × List UInt8 × Int × Int × Int × Int × Int × List Fent)) :=
 cond (decide (t26 < (b0.2.2.1.length:Int)))
 ((impl_hasPort t20 t26).bind fun t31 =>
 cond (!t31)
 ((impl_FlushPort b3 t26).bind fun t39 =>
 some (.inl (w64 (t26 + 1),b0_1,b1,b6,b7,b8,b9,b10,t39)))
 (some (.inl (w64 (t26 + 1),b0_1,b1,b6,b7,b8,b9,b10,b3))))
 (some (.inr (b0_1,b1,b6,b7,b8,b9,b10,b3)))
def impl_Bridge_turn (b0:Bridge):Option Bridge :=
 (impl_more b0.2.2.2.2.2.2.2.2.2.2).bind fun t9 =>
 (impl_Sends b0.1 b0.2.2.1).bind fun t20 =>
 (loop (fun z=>impl_Bridge_turn_l0 b0 t20 z.1 z.2.1 z.2.2.1 z.2.2.2.1 z.2.2.2.2.1 z.2.2.2.2.2.1 z.2.2.2.2.2.2.1 z.2.2.2.2.2.2.2.1 z.2.2.2.2.2.2.2.2) (0,b0.1,b0.2.1,b0.2.2.2.2.2.2.1,b0.2.2.2.2.2.2.2.1,b0.2.2.2.2.2.2.2.2.1,b0.2.2.2.2.2.2.2.2.2.1,t9,b0.2.2.2.1)).bind fun d =>
 some (d.1,d.2.1,b0.2.2.1,d.2.2.2.2.2.2.2,b0.2.2.2.2.1,b0.2.2.2.2.2.1,d.2.2.1,d.2.2.2.1,d.2.2.2.2.1,d.2.2.2.2.2.1,d.2.2.2.2.2.2.1)
def F_impl_Bridge_turn:Fn:=⟨[.ptr cBridge true],[],fun a=>impl_Bridge_turn a⟩
def a_impl_Bridge_turn:List (Nat × LoopAnn):=[(0,⟨⟨[(26,false,[dI])],[(1,.box [dI,dS,.same 4,.own 1000000000,.same 6,.same 7,dI,dI,dI,dI,dI]),(1000000000,.root cFent true)]⟩,
 ⟨[],[(1,.box [dI,dS,.same 4,.own 1000000300,.same 6,.same 7,dI,dI,dI,dI,dI]),(1000000300,.root cFent true)]⟩,none⟩)]
theorem m_impl_Bridge_turn:Meets Tryz.prog 235 F_impl_Bridge_turn:=mkM g_347 235 Tryz.f235 a_impl_Bridge_turn F_impl_Bridge_turn Tryz.func235 (by kernel_rfl) (by kernel_rfl) (by kernel_rfl)
def fns_235:List (FuncId × Fn):=(235,F_impl_Bridge_turn) :: fns_347
theorem g_235:Good Tryz.prog ⟨tis,fns_235,[],false⟩:=g_347.cons m_impl_Bridge_turn
def impl_SetAll_l2 (p0:Bridge) (t25:Int) (x28:Bind) (t32:List Bind) (t34:Int) (b0_2:Int) (b1_2:List UInt8) (b6_2:Int) (b7_2:Int) (b8_2:Int) (b9_2:Int) (b10_2:Int):Option ((Int × Int × List UInt8 × Int × Int × Int × Int × Int) ⊕ ((Int × List UInt8 × Int × Int × Int × Int × Int) ⊕ (Int × Int × Int × List UInt8 × Int × Int × Int × Int × Int × List Pt × List Fent × List Vrow × List Int))) :=
 cond (decide (t34 < (t32.length:Int)))
 ((at? t32 t34).bind fun x36 =>
 (impl_SameOid x28.1 x36.1).bind fun t42 =>
 cond t42
 ((impl_copyBridge p0).bind fun t44 =>
 some (.inr (.inr (5,w64 (t25 + 1),t44.1,t44.2.1,t44.2.2.2.2.2.2.1,t44.2.2.2.2.2.2.2.1,t44.2.2.2.2.2.2.2.2.1,t44.2.2.2.2.2.2.2.2.2.1,t44.2.2.2.2.2.2.2.2.2.2,t44.2.2.1,t44.2.2.2.1,t44.2.2.2.2.1,t44.2.2.2.2.2.1))))
 (some (.inl (w64 (t34 + 1),b0_2,b1_2,b6_2,b7_2,b8_2,b9_2,b10_2))))
 (some (.inr (.inl (b0_2,b1_2,b6_2,b7_2,b8_2,b9_2,b10_2))))
def impl_SetAll_l0 (p0:Bridge) (i1:List Bind) (t25:Int) (b0:Int) (b1:List UInt8) (b6:Int) (b7:Int) (b8:Int) (b9:Int) (b10:Int) (b0_1:Int) (b1_1:List UInt8) (b6_1:Int) (b7_1:Int) (b8_1:Int) (b9_1:Int) (b10_1:Int) (b2:List Pt) (b3:List Fent) (b4:List Vrow) (b5:List Int) (b2_1:List Pt) (b3_1:List Fent) (b4_1:List Vrow) (b5_1:List Int):Option ((Int × Int × List UInt8 × Int × Int × Int × Int × Int × Int × List UInt8 × Int × Int × Int × Int × Int × List Pt × List Fent × List Vrow × List Int × List Pt × List Fent × List Vrow × List Int) ⊕ ((Int × List UInt8 × Int × Int × Int × Int × Int × Int × List UInt8 × Int × Int × Int × Int × Int × List Pt × List Fent × List Vrow × List Int × List Pt × List Fent × List Vrow × List Int) ⊕ (Int × Int × Int × List UInt8 × Int × Int × Int × Int × Int × List Pt × List Fent × List Vrow × List Int))) :=
 cond (decide (t25 < (i1.length:Int)))
 ((at? i1 t25).bind fun x28 =>
 (cut i1 0 t25).bind fun t32 =>
 (loop (fun z=>impl_SetAll_l2 p0 t25 x28 t32 z.1 z.2.1 z.2.2.1 z.2.2.2.1 z.2.2.2.2.1 z.2.2.2.2.2.1 z.2.2.2.2.2.2.1 z.2.2.2.2.2.2.2) (0,b0,b1,b6,b7,b8,b9,b10)).bind (Sum.elim (fun d =>
 (impl_Bridge_set (b0_1,b1_1,b2_1,b3_1,b4_1,b5_1,b6_1,b7_1,b8_1,b9_1,b10_1) x28).bind fun t49 =>
 cond (t49.2 != 0)
 ((impl_copyBridge p0).bind fun t53 =>
 some (.inr (.inr (t49.2,w64 (t25 + 1),t53.1,t53.2.1,t53.2.2.2.2.2.2.1,t53.2.2.2.2.2.2.2.1,t53.2.2.2.2.2.2.2.2.1,t53.2.2.2.2.2.2.2.2.2.1,t53.2.2.2.2.2.2.2.2.2.2,t53.2.2.1,t53.2.2.2.1,t53.2.2.2.2.1,t53.2.2.2.2.2.1))))
 (some (.inl (w64 (t25 + 1),d.1,d.2.1,d.2.2.1,d.2.2.2.1,d.2.2.2.2.1,d.2.2.2.2.2.1,d.2.2.2.2.2.2,t49.1.1,t49.1.2.1,t49.1.2.2.2.2.2.2.1,t49.1.2.2.2.2.2.2.2.1,t49.1.2.2.2.2.2.2.2.2.1,t49.1.2.2.2.2.2.2.2.2.2.1,t49.1.2.2.2.2.2.2.2.2.2.2,b2,b3,b4,b5,t49.1.2.2.1,t49.1.2.2.2.1,t49.1.2.2.2.2.1,t49.1.2.2.2.2.2.1)))) (fun r=>some (.inr (.inr r)))))
 (some (.inr (.inl (b0,b1,b6,b7,b8,b9,b10,b0_1,b1_1,b6_1,b7_1,b8_1,b9_1,b10_1,b2,b3,b4,b5,b2_1,b3_1,b4_1,b5_1))))
def impl_SetAll (p0:Bridge) (i1:List Bind):Option (Bridge × Int × Int) :=
 (impl_copyBridge p0).bind fun t14 =>
 cond ((i1.length:Int) == 0)
 (some (t14,0,0))
 ((impl_BridgeOk p0).bind fun t20 =>
 cond (!t20)
 (some (t14,3,1))
 ((loop (fun z=>impl_SetAll_l0 p0 i1 z.1 z.2.1 z.2.2.1 z.2.2.2.1 z.2.2.2.2.1 z.2.2.2.2.2.1 z.2.2.2.2.2.2.1 z.2.2.2.2.2.2.2.1 z.2.2.2.2.2.2.2.2.1 z.2.2.2.2.2.2.2.2.2.1 z.2.2.2.2.2.2.2.2.2.2.1 z.2.2.2.2.2.2.2.2.2.2.2.1 z.2.2.2.2.2.2.2.2.2.2.2.2.1 z.2.2.2.2.2.2.2.2.2.2.2.2.2.1 z.2.2.2.2.2.2.2.2.2.2.2.2.2.2.1 z.2.2.2.2.2.2.2.2.2.2.2.2.2.2.2.1 z.2.2.2.2.2.2.2.2.2.2.2.2.2.2.2.2.1 z.2.2.2.2.2.2.2.2.2.2.2.2.2.2.2.2.2.1 z.2.2.2.2.2.2.2.2.2.2.2.2.2.2.2.2.2.2.1 z.2.2.2.2.2.2.2.2.2.2.2.2.2.2.2.2.2.2.2.1 z.2.2.2.2.2.2.2.2.2.2.2.2.2.2.2.2.2.2.2.2.1 z.2.2.2.2.2.2.2.2.2.2.2.2.2.2.2.2.2.2.2.2.2.1 z.2.2.2.2.2.2.2.2.2.2.2.2.2.2.2.2.2.2.2.2.2.2) (0,0,[],0,0,0,0,0,t14.1,t14.2.1,t14.2.2.2.2.2.2.1,t14.2.2.2.2.2.2.2.1,t14.2.2.2.2.2.2.2.2.1,t14.2.2.2.2.2.2.2.2.2.1,t14.2.2.2.2.2.2.2.2.2.2,[],[],[],[],t14.2.2.1,t14.2.2.2.1,t14.2.2.2.2.1,t14.2.2.2.2.2.1)).bind (Sum.elim (fun d_1 =>
 (impl_VtabOk d_1.2.2.2.2.2.2.2.2.2.2.2.2.2.2.2.2.2.2.2.2 (d_1.2.2.2.2.2.2.2.2.2.2.2.2.2.2.2.2.2.2.1.length:Int)).bind fun t63 =>
 cond (!t63)
 ((impl_copyBridge p0).bind fun t66 =>
 some (t66,5,(i1.length:Int)))
 ((impl_Bridge_turn (d_1.2.2.2.2.2.2.2.1,d_1.2.2.2.2.2.2.2.2.1,d_1.2.2.2.2.2.2.2.2.2.2.2.2.2.2.2.2.2.2.1,d_1.2.2.2.2.2.2.2.2.2.2.2.2.2.2.2.2.2.2.2.1,d_1.2.2.2.2.2.2.2.2.2.2.2.2.2.2.2.2.2.2.2.2.1,d_1.2.2.2.2.2.2.2.2.2.2.2.2.2.2.2.2.2.2.2.2.2,d_1.2.2.2.2.2.2.2.2.2.1,d_1.2.2.2.2.2.2.2.2.2.2.1,d_1.2.2.2.2.2.2.2.2.2.2.2.1,d_1.2.2.2.2.2.2.2.2.2.2.2.2.1,d_1.2.2.2.2.2.2.2.2.2.2.2.2.2.1)).bind fun t69 =>
 some (t69,0,0))) (fun r_1=>some ((r_1.2.2.1,r_1.2.2.2.1,r_1.2.2.2.2.2.2.2.2.2.1,r_1.2.2.2.2.2.2.2.2.2.2.1,r_1.2.2.2.2.2.2.2.2.2.2.2.1,r_1.2.2.2.2.2.2.2.2.2.2.2.2,r_1.2.2.2.2.1,r_1.2.2.2.2.2.1,r_1.2.2.2.2.2.2.1,r_1.2.2.2.2.2.2.2.1,r_1.2.2.2.2.2.2.2.2.1),r_1.1,r_1.2.1)))))
def F_impl_SetAll:Fn:=⟨[.val true cBridge false,.val false (.one (.sl cBind)) false],[.val true cBridge true,.val false cNI true,.val false cNI true],fun a=>impl_SetAll a.1 a.2⟩
def a_impl_SetAll:List (Nat × LoopAnn):=[(0,⟨⟨[(25,false,[dI])],[(2048,.box [dI,dS,.own 1000000000,.own 1000000001,.own 1000000002,.own 1000000003,dI,dI,dI,dI,dI]),(265216,.box [dI,dS,.own 1000000004,.own 1000000005,.own 1000000006,.own 1000000007,dI,dI,dI,dI,dI]),(1000000000,.root cPt true),(1000000001,.root cFent true),(1000000002,.root cVrow true),(1000000003,.root cNI true),(1000000004,.root cPt true),(1000000005,.root cFent true),(1000000006,.root cVrow true),(1000000007,.root cNI true)]⟩,
 ⟨[],[(2048,.box [dI,dS,.own 1000000300,.own 1000000301,.own 1000000302,.own 1000000303,dI,dI,dI,dI,dI]),(265216,.box [dI,dS,.own 1000000304,.own 1000000305,.own 1000000306,.own 1000000307,dI,dI,dI,dI,dI]),(1000000300,.root cPt true),(1000000301,.root cFent true),(1000000302,.root cVrow true),(1000000303,.root cNI true),(1000000304,.root cPt true),(1000000305,.root cFent true),(1000000306,.root cVrow true),(1000000307,.root cNI true)]⟩,some ⟨[(5,false,[dI]),(6,false,[dI])],[(2048,.box [dI,dS,.own 1000000600,.own 1000000601,.own 1000000602,.own 1000000603,dI,dI,dI,dI,dI]),(1000000600,.root cPt true),(1000000601,.root cFent true),(1000000602,.root cVrow true),(1000000603,.root cNI true)]⟩⟩),
 (2,⟨⟨[(34,false,[dI])],[(2048,.box [dI,dS,.same 1000000000,.same 1000000001,.same 1000000002,.same 1000000003,dI,dI,dI,dI,dI])]⟩,
 ⟨[],[(2048,.box [dI,dS,.same 1000000000,.same 1000000001,.same 1000000002,.same 1000000003,dI,dI,dI,dI,dI])]⟩,some ⟨[(5,false,[dI]),(6,false,[dI])],[(2048,.box [dI,dS,.own 1000002600,.own 1000002601,.own 1000002602,.own 1000002603,dI,dI,dI,dI,dI]),(1000002600,.root cPt true),(1000002601,.root cFent true),(1000002602,.root cVrow true),(1000002603,.root cNI true)]⟩⟩)]
theorem m_impl_SetAll:Meets Tryz.prog 121 F_impl_SetAll:=mkM g_235 121 Tryz.f121 a_impl_SetAll F_impl_SetAll Tryz.func121 (by kernel_rfl) (by kernel_rfl) (by kernel_rfl)
def fns_121:List (FuncId × Fn):=(121,F_impl_SetAll) :: fns_235
theorem g_121:Good Tryz.prog ⟨tis,fns_121,[],false⟩:=g_235.cons m_impl_SetAll
def impl_copyVal (v0:Val):Option Val :=
 (impl_copyInts v0.2.2.2).bind fun t5 =>
 some (v0.1,v0.2.1,v0.2.2.1,t5)
def F_impl_copyVal:Fn:=⟨[.val true cVal false],[.val true cVal true],fun a=>impl_copyVal a⟩
theorem m_impl_copyVal:Meets Tryz.prog 236 F_impl_copyVal:=mkM g_121 236 Tryz.f236 [] F_impl_copyVal Tryz.func236 (by kernel_rfl) (by kernel_rfl) (by kernel_rfl)
def fns_236:List (FuncId × Fn):=(236,F_impl_copyVal) :: fns_121
theorem g_236:Good Tryz.prog ⟨tis,fns_236,[],false⟩:=g_121.cons m_impl_copyVal
def impl_copyBinds_l0 (l0:List Bind) (t8:Int) (out3:List Bind):Option ((Int × List Bind) ⊕ (List Bind)) :=
 cond (decide (t8 < (l0.length:Int)))
 ((at? l0 t8).bind fun x10 =>
 (impl_copyInts x10.1).bind fun t15 =>
 (impl_copyVal x10.2).bind fun t18 =>
 (app out3 [(t15,t18.1,t18.2.1,t18.2.2.1,t18.2.2.2)]).bind fun zs21 =>
 some (.inl (w64 (t8 + 1),zs21)))
 (some (.inr out3))
def impl_copyBinds (l0:List Bind):Option (List Bind) :=
 (loop (fun z=>impl_copyBinds_l0 l0 z.1 z.2) (0,[])).bind fun d =>
 some d
def F_impl_copyBinds:Fn:=⟨[.val false (.one (.sl cBind)) false],[.val false (.one (.sl cBind)) true],fun a=>impl_copyBinds a⟩
def a_impl_copyBinds:List (Nat × LoopAnn):=[(0,⟨⟨[(3,false,[.own 1000000000]),(8,false,[dI])],[(1000000000,.root cBind true)]⟩,
 ⟨[(3,false,[.own 1000000300])],[(1000000300,.root cBind true)]⟩,none⟩)]
theorem m_impl_copyBinds:Meets Tryz.prog 122 F_impl_copyBinds:=mkM g_236 122 Tryz.f122 a_impl_copyBinds F_impl_copyBinds Tryz.func122 (by kernel_rfl) (by kernel_rfl) (by kernel_rfl)
def fns_122:List (FuncId × Fn):=(122,F_impl_copyBinds) :: fns_236
theorem g_122:Good Tryz.prog ⟨tis,fns_122,[],false⟩:=g_236.cons m_impl_copyBinds
def impl_ReplyOf_l1 (p0:Bridge) (i1:Pdu) (t54:Int) (b0:Int) (b1:Int) (b2:Int) (b3:Int) (b4:List Bind):Option ((Int × Int × Int × Int × Int × List Bind) ⊕ (Int × Int × Int × Int × List Bind)) :=
 cond (decide (t54 < (i1.2.2.2.2.length:Int)))
 ((at? i1.2.2.2.2 t54).bind fun x56 =>
 (impl_copyInts x56.1).bind fun t62 =>
 (impl_MibGet p0 x56.1).bind fun t66 =>
 (app b4 [(t62,t66.1,t66.2.1,t66.2.2.1,t66.2.2.2)]).bind fun zs69 =>
 some (.inl (w64 (t54 + 1),b0,b1,b2,b3,zs69)))
 (some (.inr (b0,b1,b2,b3,b4)))
def impl_ReplyOf_l5 (i1:Pdu) (b0_2:Int) (b1_2:List UInt8) (b6:Int) (b7:Int) (b8:Int) (b9:Int) (b10:Int) (b0_3:Int) (b1_3:Int) (b2_2:Int) (b3_2:Int) (b0_4:Int) (b1_4:List UInt8) (b6_1:Int) (b7_1:Int) (b8_1:Int) (b9_1:Int) (b10_1:Int) (b0_5:Int) (b1_5:Int) (b2_3:Int) (b3_3:Int) (b4_2:List Bind) (b2_4:List Pt) (b3_4:List Fent) (b4_3:List Vrow) (b5:List Int) (b4_4:List Bind) (b2_5:List Pt) (b3_5:List Fent) (b4_5:List Vrow) (b5_1:List Int):Option ((Int × List UInt8 × Int × Int × Int × Int × Int × Int × Int × Int × Int × Int × List UInt8 × Int × Int × Int × Int × Int × Int × Int × Int × Int × List Bind × List Pt × List Fent × List Vrow × List Int × List Bind × List Pt × List Fent × List Vrow × List Int) ⊕ ((Int × List UInt8 × Int × Int × Int × Int × Int × Int × Int × Int × Int × Int × List UInt8 × Int × Int × Int × Int × Int × Int × Int × Int × Int × List Bind × List Pt × List Fent × List Vrow × List Int × List Bind × List Pt × List Fent × List Vrow × List Int) ⊕ (Bool × Int × List UInt8 × Int × Int × Int × Int × Int × Int × Int × Int × Int × List Bind × List Pt × List Fent × List Vrow × List Int))) :=
 (cond (i1.1 == 165) (some (decide ((b4_2.length:Int) > 0))) (some false)).bind fun t109 =>
 cond t109
 ((cut b4_2 0 (w64 ((b4_2.length:Int) - 1))).bind fun t116 =>
 (impl_Fits (b0_5,b1_5,b2_3,b3_3,t116)).bind fun t119 =>
 cond t119
 (some (.inr (.inr (true,b0_4,b1_4,b6_1,b7_1,b8_1,b9_1,b10_1,b0_5,b1_5,b2_3,b3_3,t116,b2_5,b3_5,b4_5,b5_1))))
 (some (.inl (b0_2,b1_2,b6,b7,b8,b9,b10,b0_3,b1_3,b2_2,b3_2,b0_4,b1_4,b6_1,b7_1,b8_1,b9_1,b10_1,b0_5,b1_5,b2_3,b3_3,t116,b2_4,b3_4,b4_3,b5,b4_4,b2_5,b3_5,b4_5,b5_1))))
 (some (.inr (.inl (b0_2,b1_2,b6,b7,b8,b9,b10,b0_3,b1_3,b2_2,b3_2,b0_4,b1_4,b6_1,b7_1,b8_1,b9_1,b10_1,b0_5,b1_5,b2_3,b3_3,b4_2,b2_4,b3_4,b4_3,b5,b4_4,b2_5,b3_5,b4_5,b5_1))))
def impl_ReplyOf_l3 (p0:Bridge) (i1:Pdu) (t77:Int) (b0_10:Int) (b1_10:Int) (b2_10:Int) (b3_10:Int) (b4_10:List Bind):Option ((Int × Int × Int × Int × Int × List Bind) ⊕ (Int × Int × Int × Int × List Bind)) :=
 cond (decide (t77 < (i1.2.2.2.2.length:Int)))
 ((at? i1.2.2.2.2 t77).bind fun x79 =>
 (impl_MibNext p0 x79.1).bind fun t86 =>
 (app b4_10 [t86]).bind fun zs88 =>
 some (.inl (w64 (t77 + 1),b0_10,b1_10,b2_10,b3_10,zs88)))
 (some (.inr (b0_10,b1_10,b2_10,b3_10,b4_10)))
def impl_ReplyOf_l5_1 (i1:Pdu) (b0_12:Int) (b1_12:List UInt8) (b6_4:Int) (b7_4:Int) (b8_4:Int) (b9_4:Int) (b10_4:Int) (b0_13:Int) (b1_13:Int) (b2_12:Int) (b3_12:Int) (b0_14:Int) (b1_14:List UInt8) (b6_5:Int) (b7_5:Int) (b8_5:Int) (b9_5:Int) (b10_5:Int) (b0_15:Int) (b1_15:Int) (b2_13:Int) (b3_13:Int) (b4_12:List Bind) (b2_14:List Pt) (b3_14:List Fent) (b4_13:List Vrow) (b5_4:List Int) (b4_14:List Bind) (b2_15:List Pt) (b3_15:List Fent) (b4_15:List Vrow) (b5_5:List Int):Option ((Int × List UInt8 × Int × Int × Int × Int × Int × Int × Int × Int × Int × Int × List UInt8 × Int × Int × Int × Int × Int × Int × Int × Int × Int × List Bind × List Pt × List Fent × List Vrow × List Int × List Bind × List Pt × List Fent × List Vrow × List Int) ⊕ ((Int × List UInt8 × Int × Int × Int × Int × Int × Int × Int × Int × Int × Int × List UInt8 × Int × Int × Int × Int × Int × Int × Int × Int × Int × List Bind × List Pt × List Fent × List Vrow × List Int × List Bind × List Pt × List Fent × List Vrow × List Int) ⊕ (Bool × Int × List UInt8 × Int × Int × Int × Int × Int × Int × Int × Int × Int × List Bind × List Pt × List Fent × List Vrow × List Int))) :=
 (cond (i1.1 == 165) (some (decide ((b4_12.length:Int) > 0))) (some false)).bind fun t109_1 =>
 cond t109_1
 ((cut b4_12 0 (w64 ((b4_12.length:Int) - 1))).bind fun t116_1 =>
 (impl_Fits (b0_15,b1_15,b2_13,b3_13,t116_1)).bind fun t119_1 =>
 cond t119_1
 (some (.inr (.inr (true,b0_14,b1_14,b6_5,b7_5,b8_5,b9_5,b10_5,b0_15,b1_15,b2_13,b3_13,t116_1,b2_15,b3_15,b4_15,b5_5))))
 (some (.inl (b0_12,b1_12,b6_4,b7_4,b8_4,b9_4,b10_4,b0_13,b1_13,b2_12,b3_12,b0_14,b1_14,b6_5,b7_5,b8_5,b9_5,b10_5,b0_15,b1_15,b2_13,b3_13,t116_1,b2_14,b3_14,b4_13,b5_4,b4_14,b2_15,b3_15,b4_15,b5_5))))
 (some (.inr (.inl (b0_12,b1_12,b6_4,b7_4,b8_4,b9_4,b10_4,b0_13,b1_13,b2_12,b3_12,b0_14,b1_14,b6_5,b7_5,b8_5,b9_5,b10_5,b0_15,b1_15,b2_13,b3_13,b4_12,b2_14,b3_14,b4_13,b5_4,b4_14,b2_15,b3_15,b4_15,b5_5))))
def impl_ReplyOf_l5_2 (i1:Pdu) (b0_20:Int) (b1_20:List UInt8) (b6_8:Int) (b7_8:Int) (b8_8:Int) (b9_8:Int) (b10_8:Int) (b0_21:Int) (b1_21:Int) (b2_20:Int) (b3_20:Int) (b0_22:Int) (b1_22:List UInt8) (b6_9:Int) (b7_9:Int) (b8_9:Int) (b9_9:Int) (b10_9:Int) (b0_23:Int) (b1_23:Int) (b2_21:Int) (b3_21:Int) (b4_20:List Bind) (b2_22:List Pt) (b3_22:List Fent) (b4_21:List Vrow) (b5_8:List Int) (b4_22:List Bind) (b2_23:List Pt) (b3_23:List Fent) (b4_23:List Vrow) (b5_9:List Int):Option ((Int × List UInt8 × Int × Int × Int × Int × Int × Int × Int × Int × Int × Int × List UInt8 × Int × Int × Int × Int × Int × Int × Int × Int × Int × List Bind × List Pt × List Fent × List Vrow × List Int × List Bind × List Pt × List Fent × List Vrow × List Int) ⊕ ((Int × List UInt8 × Int × Int × Int × Int × Int × Int × Int × Int × Int × Int × List UInt8 × Int × Int × Int × Int × Int × Int × Int × Int × Int × List Bind × List Pt × List Fent × List Vrow × List Int × List Bind × List Pt × List Fent × List Vrow × List Int) ⊕ (Bool × Int × List UInt8 × Int × Int × Int × Int × Int × Int × Int × Int × Int × List Bind × List Pt × List Fent × List Vrow × List Int))) :=
 (cond (i1.1 == 165) (some (decide ((b4_20.length:Int) > 0))) (some false)).bind fun t109_2 =>
 cond t109_2
 ((cut b4_20 0 (w64 ((b4_20.length:Int) - 1))).bind fun t116_2 =>
 (impl_Fits (b0_23,b1_23,b2_21,b3_21,t116_2)).bind fun t119_2 =>
 cond t119_2
 (some (.inr (.inr (true,b0_22,b1_22,b6_9,b7_9,b8_9,b9_9,b10_9,b0_23,b1_23,b2_21,b3_21,t116_2,b2_23,b3_23,b4_23,b5_9))))
 (some (.inl (b0_20,b1_20,b6_8,b7_8,b8_8,b9_8,b10_8,b0_21,b1_21,b2_20,b3_20,b0_22,b1_22,b6_9,b7_9,b8_9,b9_9,b10_9,b0_23,b1_23,b2_21,b3_21,t116_2,b2_22,b3_22,b4_21,b5_8,b4_22,b2_23,b3_23,b4_23,b5_9))))
 (some (.inr (.inl (b0_20,b1_20,b6_8,b7_8,b8_8,b9_8,b10_8,b0_21,b1_21,b2_20,b3_20,b0_22,b1_22,b6_9,b7_9,b8_9,b9_9,b10_9,b0_23,b1_23,b2_21,b3_21,b4_20,b2_22,b3_22,b4_21,b5_8,b4_22,b2_23,b3_23,b4_23,b5_9))))
def impl_ReplyOf_l5_3 (i1:Pdu) (b0_28:Int) (b1_28:List UInt8) (b6_12:Int) (b7_12:Int) (b8_12:Int) (b9_12:Int) (b10_12:Int) (b0_29:Int) (b1_29:Int) (b2_28:Int) (b3_28:Int) (b0_30:Int) (b1_30:List UInt8) (b6_13:Int) (b7_13:Int) (b8_13:Int) (b9_13:Int) (b10_13:Int) (b0_31:Int) (b1_31:Int) (b2_29:Int) (b3_29:Int) (b4_28:List Bind) (b2_30:List Pt) (b3_30:List Fent) (b4_29:List Vrow) (b5_12:List Int) (b4_30:List Bind) (b2_31:List Pt) (b3_31:List Fent) (b4_31:List Vrow) (b5_13:List Int):Option ((Int × List UInt8 × Int × Int × Int × Int × Int × Int × Int × Int × Int × Int × List UInt8 × Int × Int × Int × Int × Int × Int × Int × Int × Int × List Bind × List Pt × List Fent × List Vrow × List Int × List Bind × List Pt × List Fent × List Vrow × List Int) ⊕ ((Int × List UInt8 × Int × Int × Int × Int × Int × Int × Int × Int × Int × Int × List UInt8 × Int × Int × Int × Int × Int × Int × Int × Int × Int × List Bind × List Pt × List Fent × List Vrow × List Int × List Bind × List Pt × List Fent × List Vrow × List Int) ⊕ (Bool × Int × List UInt8 × Int × Int × Int × Int × Int × Int × Int × Int × Int × List Bind × List Pt × List Fent × List Vrow × List Int))) :=
 (cond (i1.1 == 165) (some (decide ((b4_28.length:Int) > 0))) (some false)).bind fun t109_3 =>
 cond t109_3
 ((cut b4_28 0 (w64 ((b4_28.length:Int) - 1))).bind fun t116_3 =>
 (impl_Fits (b0_31,b1_31,b2_29,b3_29,t116_3)).bind fun t119_3 =>
 cond t119_3
 (some (.inr (.inr (true,b0_30,b1_30,b6_13,b7_13,b8_13,b9_13,b10_13,b0_31,b1_31,b2_29,b3_29,t116_3,b2_31,b3_31,b4_31,b5_13))))
 (some (.inl (b0_28,b1_28,b6_12,b7_12,b8_12,b9_12,b10_12,b0_29,b1_29,b2_28,b3_28,b0_30,b1_30,b6_13,b7_13,b8_13,b9_13,b10_13,b0_31,b1_31,b2_29,b3_29,t116_3,b2_30,b3_30,b4_29,b5_12,b4_30,b2_31,b3_31,b4_31,b5_13))))
 (some (.inr (.inl (b0_28,b1_28,b6_12,b7_12,b8_12,b9_12,b10_12,b0_29,b1_29,b2_28,b3_28,b0_30,b1_30,b6_13,b7_13,b8_13,b9_13,b10_13,b0_31,b1_31,b2_29,b3_29,b4_28,b2_30,b3_30,b4_29,b5_12,b4_30,b2_31,b3_31,b4_31,b5_13))))
def impl_ReplyOf (p0:Bridge) (i1:Pdu):Option (Bridge × Pdu × Bool) :=
 (impl_copyBridge p0).bind fun t14 =>
 (impl_BridgeOk p0).bind fun t16 =>
 (cond (!t16)
 (some true)
 ((impl_PduOk i1).bind fun t20 =>
 some (!t20))).bind fun t22 =>
 (cond t22 (some true) (some (i1.1 == 162))).bind fun t27 =>
 cond t27
 (some (t14,(0,0,0,0,[]),false))
 (cond (i1.1 == 160)
 ((loop (fun z=>impl_ReplyOf_l1 p0 i1 z.1 z.2.1 z.2.2.1 z.2.2.2.1 z.2.2.2.2.1 z.2.2.2.2.2) (0,162,i1.2.1,0,0,[])).bind fun d =>
 (impl_Fits d).bind fun t98 =>
 cond t98
 (some (t14,d,true))
 ((loop (fun z=>impl_ReplyOf_l5 i1 z.1 z.2.1 z.2.2.1 z.2.2.2.1 z.2.2.2.2.1 z.2.2.2.2.2.1 z.2.2.2.2.2.2.1 z.2.2.2.2.2.2.2.1 z.2.2.2.2.2.2.2.2.1 z.2.2.2.2.2.2.2.2.2.1 z.2.2.2.2.2.2.2.2.2.2.1 z.2.2.2.2.2.2.2.2.2.2.2.1 z.2.2.2.2.2.2.2.2.2.2.2.2.1 z.2.2.2.2.2.2.2.2.2.2.2.2.2.1 z.2.2.2.2.2.2.2.2.2.2.2.2.2.2.1 z.2.2.2.2.2.2.2.2.2.2.2.2.2.2.2.1 z.2.2.2.2.2.2.2.2.2.2.2.2.2.2.2.2.1 z.2.2.2.2.2.2.2.2.2.2.2.2.2.2.2.2.2.1 z.2.2.2.2.2.2.2.2.2.2.2.2.2.2.2.2.2.2.1 z.2.2.2.2.2.2.2.2.2.2.2.2.2.2.2.2.2.2.2.1 z.2.2.2.2.2.2.2.2.2.2.2.2.2.2.2.2.2.2.2.2.1 z.2.2.2.2.2.2.2.2.2.2.2.2.2.2.2.2.2.2.2.2.2.1 z.2.2.2.2.2.2.2.2.2.2.2.2.2.2.2.2.2.2.2.2.2.2.1 z.2.2.2.2.2.2.2.2.2.2.2.2.2.2.2.2.2.2.2.2.2.2.2.1 z.2.2.2.2.2.2.2.2.2.2.2.2.2.2.2.2.2.2.2.2.2.2.2.2.1 z.2.2.2.2.2.2.2.2.2.2.2.2.2.2.2.2.2.2.2.2.2.2.2.2.2.1 z.2.2.2.2.2.2.2.2.2.2.2.2.2.2.2.2.2.2.2.2.2.2.2.2.2.2.1 z.2.2.2.2.2.2.2.2.2.2.2.2.2.2.2.2.2.2.2.2.2.2.2.2.2.2.2.1 z.2.2.2.2.2.2.2.2.2.2.2.2.2.2.2.2.2.2.2.2.2.2.2.2.2.2.2.2.1 z.2.2.2.2.2.2.2.2.2.2.2.2.2.2.2.2.2.2.2.2.2.2.2.2.2.2.2.2.2.1 z.2.2.2.2.2.2.2.2.2.2.2.2.2.2.2.2.2.2.2.2.2.2.2.2.2.2.2.2.2.2.1 z.2.2.2.2.2.2.2.2.2.2.2.2.2.2.2.2.2.2.2.2.2.2.2.2.2.2.2.2.2.2.2) (0,[],0,0,0,0,0,0,0,0,0,t14.1,t14.2.1,t14.2.2.2.2.2.2.1,t14.2.2.2.2.2.2.2.1,t14.2.2.2.2.2.2.2.2.1,t14.2.2.2.2.2.2.2.2.2.1,t14.2.2.2.2.2.2.2.2.2.2,d.1,d.2.1,d.2.2.1,d.2.2.2.1,d.2.2.2.2,[],[],[],[],[],t14.2.2.1,t14.2.2.2.1,t14.2.2.2.2.1,t14.2.2.2.2.2.1)).bind (Sum.elim (fun d_1 =>
 (impl_copyBridge p0).bind fun t123 =>
 some (t123,(162,i1.2.1,7,0,[]),true)) (fun r=>some ((r.2.1,r.2.2.1,r.2.2.2.2.2.2.2.2.2.2.2.2.2.1,r.2.2.2.2.2.2.2.2.2.2.2.2.2.2.1,r.2.2.2.2.2.2.2.2.2.2.2.2.2.2.2.1,r.2.2.2.2.2.2.2.2.2.2.2.2.2.2.2.2,r.2.2.2.1,r.2.2.2.2.1,r.2.2.2.2.2.1,r.2.2.2.2.2.2.1,r.2.2.2.2.2.2.2.1),(r.2.2.2.2.2.2.2.2.1,r.2.2.2.2.2.2.2.2.2.1,r.2.2.2.2.2.2.2.2.2.2.1,r.2.2.2.2.2.2.2.2.2.2.2.1,r.2.2.2.2.2.2.2.2.2.2.2.2.1),r.1)))))
 (cond (i1.1 == 161)
 ((loop (fun z=>impl_ReplyOf_l3 p0 i1 z.1 z.2.1 z.2.2.1 z.2.2.2.1 z.2.2.2.2.1 z.2.2.2.2.2) (0,162,i1.2.1,0,0,[])).bind fun d_2 =>
 (impl_Fits d_2).bind fun t98_1 =>
 cond t98_1
 (some (t14,d_2,true))
 ((loop (fun z=>impl_ReplyOf_l5_1 i1 z.1 z.2.1 z.2.2.1 z.2.2.2.1 z.2.2.2.2.1 z.2.2.2.2.2.1 z.2.2.2.2.2.2.1 z.2.2.2.2.2.2.2.1 z.2.2.2.2.2.2.2.2.1 z.2.2.2.2.2.2.2.2.2.1 z.2.2.2.2.2.2.2.2.2.2.1 z.2.2.2.2.2.2.2.2.2.2.2.1 z.2.2.2.2.2.2.2.2.2.2.2.2.1 z.2.2.2.2.2.2.2.2.2.2.2.2.2.1 z.2.2.2.2.2.2.2.2.2.2.2.2.2.2.1 z.2.2.2.2.2.2.2.2.2.2.2.2.2.2.2.1 z.2.2.2.2.2.2.2.2.2.2.2.2.2.2.2.2.1 z.2.2.2.2.2.2.2.2.2.2.2.2.2.2.2.2.2.1 z.2.2.2.2.2.2.2.2.2.2.2.2.2.2.2.2.2.2.1 z.2.2.2.2.2.2.2.2.2.2.2.2.2.2.2.2.2.2.2.1 z.2.2.2.2.2.2.2.2.2.2.2.2.2.2.2.2.2.2.2.2.1 z.2.2.2.2.2.2.2.2.2.2.2.2.2.2.2.2.2.2.2.2.2.1 z.2.2.2.2.2.2.2.2.2.2.2.2.2.2.2.2.2.2.2.2.2.2.1 z.2.2.2.2.2.2.2.2.2.2.2.2.2.2.2.2.2.2.2.2.2.2.2.1 z.2.2.2.2.2.2.2.2.2.2.2.2.2.2.2.2.2.2.2.2.2.2.2.2.1 z.2.2.2.2.2.2.2.2.2.2.2.2.2.2.2.2.2.2.2.2.2.2.2.2.2.1 z.2.2.2.2.2.2.2.2.2.2.2.2.2.2.2.2.2.2.2.2.2.2.2.2.2.2.1 z.2.2.2.2.2.2.2.2.2.2.2.2.2.2.2.2.2.2.2.2.2.2.2.2.2.2.2.1 z.2.2.2.2.2.2.2.2.2.2.2.2.2.2.2.2.2.2.2.2.2.2.2.2.2.2.2.2.1 z.2.2.2.2.2.2.2.2.2.2.2.2.2.2.2.2.2.2.2.2.2.2.2.2.2.2.2.2.2.1 z.2.2.2.2.2.2.2.2.2.2.2.2.2.2.2.2.2.2.2.2.2.2.2.2.2.2.2.2.2.2.1 z.2.2.2.2.2.2.2.2.2.2.2.2.2.2.2.2.2.2.2.2.2.2.2.2.2.2.2.2.2.2.2) (0,[],0,0,0,0,0,0,0,0,0,t14.1,t14.2.1,t14.2.2.2.2.2.2.1,t14.2.2.2.2.2.2.2.1,t14.2.2.2.2.2.2.2.2.1,t14.2.2.2.2.2.2.2.2.2.1,t14.2.2.2.2.2.2.2.2.2.2,d_2.1,d_2.2.1,d_2.2.2.1,d_2.2.2.2.1,d_2.2.2.2.2,[],[],[],[],[],t14.2.2.1,t14.2.2.2.1,t14.2.2.2.2.1,t14.2.2.2.2.2.1)).bind (Sum.elim (fun d_3 =>
 (impl_copyBridge p0).bind fun t123_1 =>
 some (t123_1,(162,i1.2.1,7,0,[]),true)) (fun r_1=>some ((r_1.2.1,r_1.2.2.1,r_1.2.2.2.2.2.2.2.2.2.2.2.2.2.1,r_1.2.2.2.2.2.2.2.2.2.2.2.2.2.2.1,r_1.2.2.2.2.2.2.2.2.2.2.2.2.2.2.2.1,r_1.2.2.2.2.2.2.2.2.2.2.2.2.2.2.2.2,r_1.2.2.2.1,r_1.2.2.2.2.1,r_1.2.2.2.2.2.1,r_1.2.2.2.2.2.2.1,r_1.2.2.2.2.2.2.2.1),(r_1.2.2.2.2.2.2.2.2.1,r_1.2.2.2.2.2.2.2.2.2.1,r_1.2.2.2.2.2.2.2.2.2.2.1,r_1.2.2.2.2.2.2.2.2.2.2.2.1,r_1.2.2.2.2.2.2.2.2.2.2.2.2.1),r_1.1)))))
 (cond (i1.1 == 165)
 ((impl_bulk p0 i1).bind fun t95 =>
 (impl_Fits (162,i1.2.1,0,0,t95)).bind fun t98_2 =>
 cond t98_2
 (some (t14,(162,i1.2.1,0,0,t95),true))
 ((loop (fun z=>impl_ReplyOf_l5_2 i1 z.1 z.2.1 z.2.2.1 z.2.2.2.1 z.2.2.2.2.1 z.2.2.2.2.2.1 z.2.2.2.2.2.2.1 z.2.2.2.2.2.2.2.1 z.2.2.2.2.2.2.2.2.1 z.2.2.2.2.2.2.2.2.2.1 z.2.2.2.2.2.2.2.2.2.2.1 z.2.2.2.2.2.2.2.2.2.2.2.1 z.2.2.2.2.2.2.2.2.2.2.2.2.1 z.2.2.2.2.2.2.2.2.2.2.2.2.2.1 z.2.2.2.2.2.2.2.2.2.2.2.2.2.2.1 z.2.2.2.2.2.2.2.2.2.2.2.2.2.2.2.1 z.2.2.2.2.2.2.2.2.2.2.2.2.2.2.2.2.1 z.2.2.2.2.2.2.2.2.2.2.2.2.2.2.2.2.2.1 z.2.2.2.2.2.2.2.2.2.2.2.2.2.2.2.2.2.2.1 z.2.2.2.2.2.2.2.2.2.2.2.2.2.2.2.2.2.2.2.1 z.2.2.2.2.2.2.2.2.2.2.2.2.2.2.2.2.2.2.2.2.1 z.2.2.2.2.2.2.2.2.2.2.2.2.2.2.2.2.2.2.2.2.2.1 z.2.2.2.2.2.2.2.2.2.2.2.2.2.2.2.2.2.2.2.2.2.2.1 z.2.2.2.2.2.2.2.2.2.2.2.2.2.2.2.2.2.2.2.2.2.2.2.1 z.2.2.2.2.2.2.2.2.2.2.2.2.2.2.2.2.2.2.2.2.2.2.2.2.1 z.2.2.2.2.2.2.2.2.2.2.2.2.2.2.2.2.2.2.2.2.2.2.2.2.2.1 z.2.2.2.2.2.2.2.2.2.2.2.2.2.2.2.2.2.2.2.2.2.2.2.2.2.2.1 z.2.2.2.2.2.2.2.2.2.2.2.2.2.2.2.2.2.2.2.2.2.2.2.2.2.2.2.1 z.2.2.2.2.2.2.2.2.2.2.2.2.2.2.2.2.2.2.2.2.2.2.2.2.2.2.2.2.1 z.2.2.2.2.2.2.2.2.2.2.2.2.2.2.2.2.2.2.2.2.2.2.2.2.2.2.2.2.2.1 z.2.2.2.2.2.2.2.2.2.2.2.2.2.2.2.2.2.2.2.2.2.2.2.2.2.2.2.2.2.2.1 z.2.2.2.2.2.2.2.2.2.2.2.2.2.2.2.2.2.2.2.2.2.2.2.2.2.2.2.2.2.2.2) (0,[],0,0,0,0,0,0,0,0,0,t14.1,t14.2.1,t14.2.2.2.2.2.2.1,t14.2.2.2.2.2.2.2.1,t14.2.2.2.2.2.2.2.2.1,t14.2.2.2.2.2.2.2.2.2.1,t14.2.2.2.2.2.2.2.2.2.2,162,i1.2.1,0,0,t95,[],[],[],[],[],t14.2.2.1,t14.2.2.2.1,t14.2.2.2.2.1,t14.2.2.2.2.2.1)).bind (Sum.elim (fun d_4 =>
 (impl_copyBridge p0).bind fun t123_2 =>
 some (t123_2,(162,i1.2.1,7,0,[]),true)) (fun r_2=>some ((r_2.2.1,r_2.2.2.1,r_2.2.2.2.2.2.2.2.2.2.2.2.2.2.1,r_2.2.2.2.2.2.2.2.2.2.2.2.2.2.2.1,r_2.2.2.2.2.2.2.2.2.2.2.2.2.2.2.2.1,r_2.2.2.2.2.2.2.2.2.2.2.2.2.2.2.2.2,r_2.2.2.2.1,r_2.2.2.2.2.1,r_2.2.2.2.2.2.1,r_2.2.2.2.2.2.2.1,r_2.2.2.2.2.2.2.2.1),(r_2.2.2.2.2.2.2.2.2.1,r_2.2.2.2.2.2.2.2.2.2.1,r_2.2.2.2.2.2.2.2.2.2.2.1,r_2.2.2.2.2.2.2.2.2.2.2.2.1,r_2.2.2.2.2.2.2.2.2.2.2.2.2.1),r_2.1)))))
 ((impl_SetAll p0 i1.2.2.2.2).bind fun t39 =>
 (impl_copyBinds i1.2.2.2.2).bind fun t47 =>
 (impl_Fits (162,i1.2.1,t39.2.1,t39.2.2,t47)).bind fun t98_3 =>
 cond t98_3
 (some (t39.1,(162,i1.2.1,t39.2.1,t39.2.2,t47),true))
 ((loop (fun z=>impl_ReplyOf_l5_3 i1 z.1 z.2.1 z.2.2.1 z.2.2.2.1 z.2.2.2.2.1 z.2.2.2.2.2.1 z.2.2.2.2.2.2.1 z.2.2.2.2.2.2.2.1 z.2.2.2.2.2.2.2.2.1 z.2.2.2.2.2.2.2.2.2.1 z.2.2.2.2.2.2.2.2.2.2.1 z.2.2.2.2.2.2.2.2.2.2.2.1 z.2.2.2.2.2.2.2.2.2.2.2.2.1 z.2.2.2.2.2.2.2.2.2.2.2.2.2.1 z.2.2.2.2.2.2.2.2.2.2.2.2.2.2.1 z.2.2.2.2.2.2.2.2.2.2.2.2.2.2.2.1 z.2.2.2.2.2.2.2.2.2.2.2.2.2.2.2.2.1 z.2.2.2.2.2.2.2.2.2.2.2.2.2.2.2.2.2.1 z.2.2.2.2.2.2.2.2.2.2.2.2.2.2.2.2.2.2.1 z.2.2.2.2.2.2.2.2.2.2.2.2.2.2.2.2.2.2.2.1 z.2.2.2.2.2.2.2.2.2.2.2.2.2.2.2.2.2.2.2.2.1 z.2.2.2.2.2.2.2.2.2.2.2.2.2.2.2.2.2.2.2.2.2.1 z.2.2.2.2.2.2.2.2.2.2.2.2.2.2.2.2.2.2.2.2.2.2.1 z.2.2.2.2.2.2.2.2.2.2.2.2.2.2.2.2.2.2.2.2.2.2.2.1 z.2.2.2.2.2.2.2.2.2.2.2.2.2.2.2.2.2.2.2.2.2.2.2.2.1 z.2.2.2.2.2.2.2.2.2.2.2.2.2.2.2.2.2.2.2.2.2.2.2.2.2.1 z.2.2.2.2.2.2.2.2.2.2.2.2.2.2.2.2.2.2.2.2.2.2.2.2.2.2.1 z.2.2.2.2.2.2.2.2.2.2.2.2.2.2.2.2.2.2.2.2.2.2.2.2.2.2.2.1 z.2.2.2.2.2.2.2.2.2.2.2.2.2.2.2.2.2.2.2.2.2.2.2.2.2.2.2.2.1 z.2.2.2.2.2.2.2.2.2.2.2.2.2.2.2.2.2.2.2.2.2.2.2.2.2.2.2.2.2.1 z.2.2.2.2.2.2.2.2.2.2.2.2.2.2.2.2.2.2.2.2.2.2.2.2.2.2.2.2.2.2.1 z.2.2.2.2.2.2.2.2.2.2.2.2.2.2.2.2.2.2.2.2.2.2.2.2.2.2.2.2.2.2.2) (0,[],0,0,0,0,0,0,0,0,0,t39.1.1,t39.1.2.1,t39.1.2.2.2.2.2.2.1,t39.1.2.2.2.2.2.2.2.1,t39.1.2.2.2.2.2.2.2.2.1,t39.1.2.2.2.2.2.2.2.2.2.1,t39.1.2.2.2.2.2.2.2.2.2.2,162,i1.2.1,t39.2.1,t39.2.2,t47,[],[],[],[],[],t39.1.2.2.1,t39.1.2.2.2.1,t39.1.2.2.2.2.1,t39.1.2.2.2.2.2.1)).bind (Sum.elim (fun d_5 =>
 (impl_copyBridge p0).bind fun t123_3 =>
 some (t123_3,(162,i1.2.1,7,0,[]),true)) (fun r_3=>some ((r_3.2.1,r_3.2.2.1,r_3.2.2.2.2.2.2.2.2.2.2.2.2.2.1,r_3.2.2.2.2.2.2.2.2.2.2.2.2.2.2.1,r_3.2.2.2.2.2.2.2.2.2.2.2.2.2.2.2.1,r_3.2.2.2.2.2.2.2.2.2.2.2.2.2.2.2.2,r_3.2.2.2.1,r_3.2.2.2.2.1,r_3.2.2.2.2.2.1,r_3.2.2.2.2.2.2.1,r_3.2.2.2.2.2.2.2.1),(r_3.2.2.2.2.2.2.2.2.1,r_3.2.2.2.2.2.2.2.2.2.1,r_3.2.2.2.2.2.2.2.2.2.2.1,r_3.2.2.2.2.2.2.2.2.2.2.2.1,r_3.2.2.2.2.2.2.2.2.2.2.2.2.1),r_3.1))))))))
def F_impl_ReplyOf:Fn:=⟨[.val true cBridge false,.val true cPdu false],[.val true cBridge true,.val true cPdu false,.val false cNB true],fun a=>impl_ReplyOf a.1 a.2⟩
def a_impl_ReplyOf:List (Nat × LoopAnn):=[(1,⟨⟨[(54,false,[dI])],[(1052672,.box [dI,dI,dI,dI,.own 1000001000]),(1000001000,.root cBind false)]⟩,
 ⟨[],[(1052672,.box [dI,dI,dI,dI,.own 1000001300]),(1000001300,.root cBind false)]⟩,none⟩),
 (3,⟨⟨[(77,false,[dI])],[(1052672,.box [dI,dI,dI,dI,.own 1000003000]),(1000003000,.root cBind false)]⟩,
 ⟨[],[(1052672,.box [dI,dI,dI,dI,.own 1000003300]),(1000003300,.root cBind false)]⟩,none⟩),
 (5,⟨⟨us 105 4 [],[(3072,.box [dI,dS,.own 1000005000,.own 1000005001,.own 1000005002,.own 1000005003,dI,dI,dI,dI,dI]),(4096,.box [dI,dI,dI,dI,.own 1000005004]),(265216,.box [dI,dS,.own 1000005005,.own 1000005006,.own 1000005007,.own 1000005008,dI,dI,dI,dI,dI]),(1052672,.box [dI,dI,dI,dI,.dat (.sl cBind)]),(1000005000,.root cPt true),(1000005001,.root cFent true),(1000005002,.root cVrow true),(1000005003,.root cNI true),(1000005004,.root cBind true),(1000005005,.root cPt true),(1000005006,.root cFent true),(1000005007,.root cVrow true),(1000005008,.root cNI true)]⟩,
 ⟨[],[(3072,.box [dI,dS,.own 1000005300,.own 1000005301,.own 1000005302,.own 1000005303,dI,dI,dI,dI,dI]),(4096,.box [dI,dI,dI,dI,.own 1000005304]),(265216,.box [dI,dS,.own 1000005305,.own 1000005306,.own 1000005307,.own 1000005308,dI,dI,dI,dI,dI]),(1052672,.box [dI,dI,dI,dI,.dat (.sl cBind)]),(1000005300,.root cPt true),(1000005301,.root cFent true),(1000005302,.root cVrow true),(1000005303,.root cNI true),(1000005304,.root cBind true),(1000005305,.root cPt true),(1000005306,.root cFent true),(1000005307,.root cVrow true),(1000005308,.root cNI true)]⟩,some ⟨[(6,false,[dB])],[(3072,.box [dI,dS,.own 1000005600,.own 1000005601,.own 1000005602,.own 1000005603,dI,dI,dI,dI,dI]),(4096,.box [dI,dI,dI,dI,.dat (.sl cBind)]),(1000005600,.root cPt true),(1000005601,.root cFent true),(1000005602,.root cVrow true),(1000005603,.root cNI true)]⟩⟩)]
theorem m_impl_ReplyOf:Meets Tryz.prog 30 F_impl_ReplyOf:=mkM g_122 30 Tryz.f30 a_impl_ReplyOf F_impl_ReplyOf Tryz.func30 (by kernel_rfl) (by kernel_rfl) (by kernel_rfl)
def fns_30:List (FuncId × Fn):=(30,F_impl_ReplyOf) :: fns_122
theorem g_30:Good Tryz.prog ⟨tis,fns_30,[],false⟩:=g_122.cons m_impl_ReplyOf
def impl_SameBinds_l0 (a0:List Bind) (b1:List Bind) (t13:Int):Option (Int ⊕ (Unit ⊕ Bool)) :=
 cond (decide (t13 < (a0.length:Int)))
 ((at? a0 t13).bind fun x18 =>
 (at? b1 t13).bind fun x23 =>
 (impl_SameOid x18.1 x23.1).bind fun t26 =>
 (cond (!t26)
 (some true)
 ((at? a0 t13).bind fun x31 =>
 (at? b1 t13).bind fun x36 =>
 (impl_SameVal x31.2 x36.2).bind fun t39 =>
 some (!t39))).bind fun t41 =>
 cond t41 (some (.inr (.inr false))) (some (.inl (w64 (t13 + 1)))))
 (some (.inr (.inl ())))
def impl_SameBinds (a0:List Bind) (b1:List Bind):Option Bool :=
 cond ((a0.length:Int) != (b1.length:Int))
 (some false)
 ((loop (fun z=>impl_SameBinds_l0 a0 b1 z) 0).bind (Sum.elim (fun d =>
 some true) (fun r=>some r)))
def F_impl_SameBinds:Fn:=⟨[.val false (.one (.sl cBind)) false,.val false (.one (.sl cBind)) false],[.val false cNB true],fun a=>impl_SameBinds a.1 a.2⟩
def a_impl_SameBinds:List (Nat × LoopAnn):=[(0,⟨⟨(13,false,[dI]) :: us 29 12 [],[]⟩,
 ⟨[],[]⟩,some ⟨[(4,false,[dB])],[]⟩⟩)]
theorem m_impl_SameBinds:Meets Tryz.prog 129 F_impl_SameBinds:=mkM g_30 129 Tryz.f129 a_impl_SameBinds F_impl_SameBinds Tryz.func129 (by kernel_rfl) (by kernel_rfl) (by kernel_rfl)
def fns_129:List (FuncId × Fn):=(129,F_impl_SameBinds) :: fns_30
theorem g_129:Good Tryz.prog ⟨tis,fns_129,[],false⟩:=g_30.cons m_impl_SameBinds
def laws_samePdu (a0:Pdu) (b1:Pdu):Option Bool :=
 (cond (a0.1 == b1.1) (some (a0.2.1 == b1.2.1)) (some false)).bind fun t16 =>
 (cond t16 (some (a0.2.2.1 == b1.2.2.1)) (some false)).bind fun t23 =>
 (cond t23 (some (a0.2.2.2.1 == b1.2.2.2.1)) (some false)).bind fun t30 =>
 (cond t30
 ((impl_SameBinds a0.2.2.2.2 b1.2.2.2.2).bind fun t36 =>
 some t36)
 (some false)).bind fun t37 =>
 some t37
def F_laws_samePdu:Fn:=⟨[.val true cPdu false,.val true cPdu false],[.val false cNB true],fun a=>laws_samePdu a.1 a.2⟩
theorem m_laws_samePdu:Meets Tryz.prog 32 F_laws_samePdu:=mkM g_129 32 Tryz.f32 [] F_laws_samePdu Tryz.func32 (by kernel_rfl) (by kernel_rfl) (by kernel_rfl)
def fns_32:List (FuncId × Fn):=(32,F_laws_samePdu) :: fns_129
theorem g_32:Good Tryz.prog ⟨tis,fns_32,[],false⟩:=g_129.cons m_laws_samePdu
def impl_sameRows_l0 (a0:List Vrow) (b1:List Vrow) (t13:Int):Option (Int ⊕ (Unit ⊕ Bool)) :=
 cond (decide (t13 < (a0.length:Int)))
 ((at? a0 t13).bind fun x18 =>
 (at? b1 t13).bind fun x22 =>
 cond (!(x18.1 == x22.1 && (x18.2.1 == x22.2.1 && (x18.2.2 == x22.2.2)))) (some (.inr (.inr false))) (some (.inl (w64 (t13 + 1)))))
 (some (.inr (.inl ())))
def impl_sameRows (a0:List Vrow) (b1:List Vrow):Option Bool :=
 cond ((a0.length:Int) != (b1.length:Int))
 (some false)
 ((loop (fun z=>impl_sameRows_l0 a0 b1 z) 0).bind (Sum.elim (fun d =>
 some true) (fun r=>some r)))
def F_impl_sameRows:Fn:=⟨[.val false (.one (.sl cVrow)) false,.val false (.one (.sl cVrow)) false],[.val false cNB true],fun a=>impl_sameRows a.1 a.2⟩
def a_impl_sameRows:List (Nat × LoopAnn):=[(0,⟨⟨[(13,false,[dI])],[]⟩,
 ⟨[],[]⟩,some ⟨[(4,false,[dB])],[]⟩⟩)]
theorem m_impl_sameRows:Meets Tryz.prog 130 F_impl_sameRows:=mkM g_32 130 Tryz.f130 a_impl_sameRows F_impl_sameRows Tryz.func130 (by kernel_rfl) (by kernel_rfl) (by kernel_rfl)
def fns_130:List (FuncId × Fn):=(130,F_impl_sameRows) :: fns_32
theorem g_130:Good Tryz.prog ⟨tis,fns_130,[],false⟩:=g_32.cons m_impl_sameRows
def impl_SameBridge_l0 (p0:Bridge) (i1:Bridge) (t60:Int):Option (Int ⊕ (Unit ⊕ Bool)) :=
 cond (decide (t60 < (p0.2.2.1.length:Int)))
 ((at? p0.2.2.1 t60).bind fun x66 =>
 (at? i1.2.2.1 t60).bind fun x71 =>
 cond (!(x66.1 == x71.1 && (x66.2.1 == x71.2.1 && (x66.2.2.1 == x71.2.2.1 && (x66.2.2.2.1 == x71.2.2.2.1 && (x66.2.2.2.2.1 == x71.2.2.2.2.1 && (x66.2.2.2.2.2.1 == x71.2.2.2.2.2.1 && (x66.2.2.2.2.2.2.1 == x71.2.2.2.2.2.2.1 && (x66.2.2.2.2.2.2.2 == x71.2.2.2.2.2.2.2))))))))) (some (.inr (.inr false))) (some (.inl (w64 (t60 + 1)))))
 (some (.inr (.inl ())))
def impl_SameBridge_l2 (p0:Bridge) (i1:Bridge) (t78:Int):Option (Int ⊕ (Unit ⊕ Bool)) :=
 cond (decide (t78 < (p0.2.2.2.1.length:Int)))
 ((at? p0.2.2.2.1 t78).bind fun x84 =>
 (at? i1.2.2.2.1 t78).bind fun x89 =>
 cond (!(x84.1 == x89.1 && (x84.2.1 == x89.2.1 && (x84.2.2.1 == x89.2.2.1 && (x84.2.2.2.1 == x89.2.2.2.1 && (x84.2.2.2.2 == x89.2.2.2.2)))))) (some (.inr (.inr false))) (some (.inl (w64 (t78 + 1)))))
 (some (.inr (.inl ())))
def impl_SameBridge (p0:Bridge) (i1:Bridge):Option Bool :=
 (cond (p0.1 != i1.1) (some true) (some (!(p0.2.1 == i1.2.1)))).bind fun t18 =>
 (cond t18
 (some true)
 (some ((p0.2.2.1.length:Int) != (i1.2.2.1.length:Int)))).bind fun t27 =>
 (cond t27
 (some true)
 (some ((p0.2.2.2.1.length:Int) != (i1.2.2.2.1.length:Int)))).bind fun t36 =>
 (cond t36
 (some true)
 ((impl_sameRows p0.2.2.2.2.1 i1.2.2.2.2.1).bind fun t44 =>
 some (!t44))).bind fun t46 =>
 (cond t46
 (some true)
 ((impl_SameOid p0.2.2.2.2.2.1 i1.2.2.2.2.2.1).bind fun t54 =>
 some (!t54))).bind fun t56 =>
 cond t56
 (some false)
 ((loop (fun z=>impl_SameBridge_l0 p0 i1 z) 0).bind (Sum.elim (fun d =>
 (loop (fun z=>impl_SameBridge_l2 p0 i1 z) 0).bind (Sum.elim (fun d_1 =>
 (cond (p0.2.2.2.2.2.2.1 == i1.2.2.2.2.2.2.1) (some (p0.2.2.2.2.2.2.2.1 == i1.2.2.2.2.2.2.2.1)) (some false)).bind fun t104 =>
 (cond t104
 (some (p0.2.2.2.2.2.2.2.2.1 == i1.2.2.2.2.2.2.2.2.1))
 (some false)).bind fun t111 =>
 (cond t111
 (some (p0.2.2.2.2.2.2.2.2.2.1 == i1.2.2.2.2.2.2.2.2.2.1))
 (some false)).bind fun t118 =>
 (cond t118
 (some (p0.2.2.2.2.2.2.2.2.2.2 == i1.2.2.2.2.2.2.2.2.2.2))
 (some false)).bind fun t125 =>
 some t125) (fun r=>some r))) (fun r_1=>some r_1)))
def F_impl_SameBridge:Fn:=⟨[.val true cBridge false,.val true cBridge false],[.val false cNB true],fun a=>impl_SameBridge a.1 a.2⟩
def a_impl_SameBridge:List (Nat × LoopAnn):=[(0,⟨⟨[(60,false,[dI])],[]⟩,
 ⟨[],[]⟩,some ⟨[(4,false,[dB])],[]⟩⟩),
 (2,⟨⟨[(78,false,[dI])],[]⟩,
 ⟨[],[]⟩,some ⟨[(4,false,[dB])],[]⟩⟩)]
theorem m_impl_SameBridge:Meets Tryz.prog 33 F_impl_SameBridge:=mkM g_130 33 Tryz.f33 a_impl_SameBridge F_impl_SameBridge Tryz.func33 (by kernel_rfl) (by kernel_rfl) (by kernel_rfl)
def fns_33:List (FuncId × Fn):=(33,F_impl_SameBridge) :: fns_130
theorem g_33:Good Tryz.prog ⟨tis,fns_33,[],false⟩:=g_130.cons m_impl_SameBridge
def spec_l1New_l0 (code0:List Int) (h3_1:Int) (i4:Int):Option ((Int × Int) ⊕ Int) :=
 (cond (decide (i4 < (code0.length:Int))) (some (decide (i4 < 4000))) (some false)).bind fun t15 =>
 cond t15
 ((at? code0 i4).bind fun x22 =>
 let h3_2:=band .i64 (w64 ((w64 ((w64 (h3_1 * 137)) + (w64 (x22)))) + 11)) 1073741823
 some (.inl (h3_2,w64 (i4 + 1))))
 (some (.inr h3_1))
def spec_l1New (code0:List Int):Option L1Cur :=
 let h3:=w64 (762762 + (code0.length:Int))
 (loop (fun z=>spec_l1New_l0 code0 z.1 z.2) (h3,0)).bind fun d =>
 some (code0,0,d)
def F_spec_l1New:Fn:=⟨[.val false cNY false],[.ptr cL1Cur false],fun a=>spec_l1New a⟩
def a_spec_l1New:List (Nat × LoopAnn):=[(0,⟨⟨[(3,false,[dI]),(4,false,[dI]),(13,false,[.undef]),(14,false,[.undef])],[]⟩,
 ⟨[(3,false,[dI])],[]⟩,none⟩)]
theorem m_spec_l1New:Meets Tryz.prog 114 F_spec_l1New:=mkM g_33 114 Tryz.f114 a_spec_l1New F_spec_l1New Tryz.func114 (by kernel_rfl) (by kernel_rfl) (by kernel_rfl)
def fns_114:List (FuncId × Fn):=(114,F_spec_l1New) :: fns_33
theorem g_114:Good Tryz.prog ⟨tis,fns_114,[],false⟩:=g_33.cons m_spec_l1New
def spec_l1Byte (c0:L1Cur):Option (L1Cur × Int) :=
 let x3:=band .i64 (bxor .i64 ((w64 ((w64 (c0.2.2 * 6364136223846793005)) + 1442695040888963407)).fdiv (2 ^ 33)) ((w64 ((w64 (c0.2.2 * 6364136223846793005)) + 1442695040888963407)).fdiv (2 ^ 47))) 255
 cond (decide (c0.2.1 < (c0.1.length:Int)))
 ((at? c0.1 c0.2.1).bind fun x44 =>
 let x3_1:=band .i64 (w64 (x3 + (w64 (x44)))) 255
 some ((c0.1,w64 (c0.2.1 + 1),w64 ((w64 (c0.2.2 * 6364136223846793005)) + 1442695040888963407)),x3_1))
 (some ((c0.1,c0.2.1,w64 ((w64 (c0.2.2 * 6364136223846793005)) + 1442695040888963407)),x3))
def F_spec_l1Byte:Fn:=⟨[.ptr cL1Cur false],[.val false cNI true],fun a=>spec_l1Byte a⟩
theorem m_spec_l1Byte:Meets Tryz.prog 253 F_spec_l1Byte:=mkM g_114 253 Tryz.f253 [] F_spec_l1Byte Tryz.func253 (by kernel_rfl) (by kernel_rfl) (by kernel_rfl)
def fns_253:List (FuncId × Fn):=(253,F_spec_l1Byte) :: fns_114
theorem g_253:Good Tryz.prog ⟨tis,fns_253,[],false⟩:=g_114.cons m_spec_l1Byte
def spec_l1Below (c0:L1Cur) (n1:Int):Option (L1Cur × Int) :=
 cond (decide (n1 ≤ 0))
 (some (c0,0))
 (cond (decide (n1 ≤ 256))
 ((spec_l1Byte c0).bind fun t13 =>
 (rem t13.2 n1).bind fun t15 =>
 some (t13.1,t15))
 ((spec_l1Byte c0).bind fun t17 =>
 (spec_l1Byte t17.1).bind fun t19 =>
 (spec_l1Byte t19.1).bind fun t21 =>
 (rem (w64 ((w64 ((w64 (t17.2 * 65536)) + (w64 (t19.2 * 256)))) + t21.2)) n1).bind fun t30 =>
 some (t21.1,t30)))
def F_spec_l1Below:Fn:=⟨[.ptr cL1Cur false,.val false cNI false],[.val false cNI true],fun a=>spec_l1Below a.1 a.2⟩
theorem m_spec_l1Below:Meets Tryz.prog 138 F_spec_l1Below:=mkM g_253 138 Tryz.f138 [] F_spec_l1Below Tryz.func138 (by kernel_rfl) (by kernel_rfl) (by kernel_rfl)
def fns_138:List (FuncId × Fn):=(138,F_spec_l1Below) :: fns_253
theorem g_138:Good Tryz.prog ⟨tis,fns_138,[],false⟩:=g_253.cons m_spec_l1Below
def spec_l1Once (c0:L1Cur) (n1:Int):Option (L1Cur × Bool) :=
 (spec_l1Below c0 n1).bind fun t7 =>
 some (t7.1,t7.2 == 0)
def F_spec_l1Once:Fn:=⟨[.ptr cL1Cur false,.val false cNI false],[.val false cNB true],fun a=>spec_l1Once a.1 a.2⟩
theorem m_spec_l1Once:Meets Tryz.prog 141 F_spec_l1Once:=mkM g_138 141 Tryz.f141 [] F_spec_l1Once Tryz.func141 (by kernel_rfl) (by kernel_rfl) (by kernel_rfl)
def fns_141:List (FuncId × Fn):=(141,F_spec_l1Once) :: fns_138
theorem g_141:Good Tryz.prog ⟨tis,fns_141,[],false⟩:=g_138.cons m_spec_l1Once
def spec_l1Str (c0:L1Cur) (list1:List (List UInt8)):Option (L1Cur × List UInt8) :=
 (spec_l1Below c0 (list1.length:Int)).bind fun t9 =>
 (at? list1 t9.2).bind fun x10 =>
 some (t9.1,x10)
def F_spec_l1Str:Fn:=⟨[.ptr cL1Cur false,.val false (.one (.sl cNS)) false],[.val false cNS true],fun a=>spec_l1Str a.1 a.2⟩
theorem m_spec_l1Str:Meets Tryz.prog 178 F_spec_l1Str:=mkM g_141 178 Tryz.f178 [] F_spec_l1Str Tryz.func178 (by kernel_rfl) (by kernel_rfl) (by kernel_rfl)
def fns_178:List (FuncId × Fn):=(178,F_spec_l1Str) :: fns_141
theorem g_178:Good Tryz.prog ⟨tis,fns_178,[],false⟩:=g_141.cons m_spec_l1Str
def spec_l1Int (c0:L1Cur) (list1:List Int):Option (L1Cur × Int) :=
 (spec_l1Below c0 (list1.length:Int)).bind fun t9 =>
 (at? list1 t9.2).bind fun x10 =>
 some (t9.1,x10)
def F_spec_l1Int:Fn:=⟨[.ptr cL1Cur false,.val false cNN false],[.val false cNI true],fun a=>spec_l1Int a.1 a.2⟩
theorem m_spec_l1Int:Meets Tryz.prog 197 F_spec_l1Int:=mkM g_178 197 Tryz.f197 [] F_spec_l1Int Tryz.func197 (by kernel_rfl) (by kernel_rfl) (by kernel_rfl)
def fns_197:List (FuncId × Fn):=(197,F_spec_l1Int) :: fns_178
theorem g_197:Good Tryz.prog ⟨tis,fns_197,[],false⟩:=g_178.cons m_spec_l1Int
def spec_l1In (x0:Int) (least1:Int) (most2:Int):Option Bool :=
 (cond (decide (x0 ≥ least1)) (some (decide (x0 ≤ most2))) (some false)).bind fun t14 =>
 some t14
def F_spec_l1In:Fn:=⟨[.val false cNI false,.val false cNI false,.val false cNI false],[.val false cNB true],fun a=>spec_l1In a.1 a.2.1 a.2.2⟩
theorem m_spec_l1In:Meets Tryz.prog 144 F_spec_l1In:=mkM g_197 144 Tryz.f144 [] F_spec_l1In Tryz.func144 (by kernel_rfl) (by kernel_rfl) (by kernel_rfl)
def fns_144:List (FuncId × Fn):=(144,F_spec_l1In) :: fns_197
theorem g_144:Good Tryz.prog ⟨tis,fns_144,[],false⟩:=g_197.cons m_spec_l1In
def spec_VtabNew_l0 (ports0:Int) (i5:Int) (b1:List Int):Option ((Int × List Int) ⊕ (List Int)) :=
 cond (decide (i5 < ports0))
 ((app b1 ([1]:List Int)).bind fun zs27 =>
 some (.inl (w64 (i5 + 1),zs27)))
 (some (.inr b1))
def spec_VtabNew (ports0:Int):Option Vtab :=
 (spec_l1In ports0 1 6).bind fun t7 =>
 cond (!t7)
 (some ([],[]))
 ((shl .i64 1 (IntKind.u64.wrap (ports0))).bind fun t12 =>
 (loop (fun z=>spec_VtabNew_l0 ports0 z.1 z.2) (0,[])).bind fun d =>
 some ([(1,w64 (t12 - 1),w64 (t12 - 1))],d))
def F_spec_VtabNew:Fn:=⟨[.val false cNI false],[.val true cVtab true],fun a=>spec_VtabNew a⟩
def a_spec_VtabNew:List (Nat × LoopAnn):=[(0,⟨⟨[(5,false,[dI])],[(1054720,.box [.same 1052672,.own 1000000000]),(1000000000,.root cNI true)]⟩,
 ⟨[],[(1054720,.box [.same 1052672,.own 1000000300]),(1000000300,.root cNI true)]⟩,none⟩)]
theorem m_spec_VtabNew:Meets Tryz.prog 329 F_spec_VtabNew:=mkM g_144 329 Tryz.f329 a_spec_VtabNew F_spec_VtabNew Tryz.func329 (by kernel_rfl) (by kernel_rfl) (by kernel_rfl)
def fns_329:List (FuncId × Fn):=(329,F_spec_VtabNew) :: fns_144
theorem g_329:Good Tryz.prog ⟨tis,fns_329,[],false⟩:=g_144.cons m_spec_VtabNew
def spec_BridgeNew_l0 (ports1:Int) (i6:Int) (b0:Int) (b1:List UInt8) (b6:Int) (b7:Int) (b8:Int) (b9:Int) (b10:Int) (b2:List Pt) (b3:List Fent):Option ((Int × Int × List UInt8 × Int × Int × Int × Int × Int × List Pt × List Fent) ⊕ (Int × List UInt8 × Int × Int × Int × Int × Int × List Pt × List Fent)) :=
 cond (decide (i6 < ports1))
 ((app b2 [(false,1,false,0,0,0,0,0)]).bind fun zs29 =>
 some (.inl (w64 (i6 + 1),b0,b1,b6,b7,b8,b9,b10,zs29,b3)))
 (some (.inr (b0,b1,b6,b7,b8,b9,b10,b2,b3)))
def spec_BridgeNew (id0:Int) (ports1:Int):Option Bridge :=
 (spec_l1In id0 1 99).bind fun t8 =>
 (cond (!t8)
 (some true)
 ((spec_l1In ports1 1 6).bind fun t12 =>
 some (!t12))).bind fun t14 =>
 cond t14
 (some (0,[],[],[],[],[],0,0,0,0,0))
 ((spec_VtabNew ports1).bind fun t18 =>
 (loop (fun z=>spec_BridgeNew_l0 ports1 z.1 z.2.1 z.2.2.1 z.2.2.2.1 z.2.2.2.2.1 z.2.2.2.2.2.1 z.2.2.2.2.2.2.1 z.2.2.2.2.2.2.2.1 z.2.2.2.2.2.2.2.2.1 z.2.2.2.2.2.2.2.2.2) (0,id0,[],0,0,0,0,0,[],[])).bind fun d =>
 some (d.1,d.2.1,d.2.2.2.2.2.2.2.1,d.2.2.2.2.2.2.2.2,t18.1,t18.2,d.2.2.1,d.2.2.2.1,d.2.2.2.2.1,d.2.2.2.2.2.1,d.2.2.2.2.2.2.1))
def F_spec_BridgeNew:Fn:=⟨[.val false cNI false,.val false cNI false],[.val true cBridge true],fun a=>spec_BridgeNew a.1 a.2⟩
def a_spec_BridgeNew:List (Nat × LoopAnn):=[(0,⟨⟨[(6,false,[dI])],[(791552,.box [dI,dS,.own 1000000000,.own 1000000001,.same 789504,.same 789505,dI,dI,dI,dI,dI]),(1000000000,.root cPt true),(1000000001,.root cFent true)]⟩,
 ⟨[],[(791552,.box [dI,dS,.own 1000000300,.own 1000000301,.same 789504,.same 789505,dI,dI,dI,dI,dI]),(1000000300,.root cPt true),(1000000301,.root cFent true)]⟩,none⟩)]
theorem m_spec_BridgeNew:Meets Tryz.prog 221 F_spec_BridgeNew:=mkM g_329 221 Tryz.f221 a_spec_BridgeNew F_spec_BridgeNew Tryz.func221 (by kernel_rfl) (by kernel_rfl) (by kernel_rfl)
def fns_221:List (FuncId × Fn):=(221,F_spec_BridgeNew) :: fns_329
theorem g_221:Good Tryz.prog ⟨tis,fns_221,[],false⟩:=g_329.cons m_spec_BridgeNew
def spec_l7Draw (c0:L1Cur):Option (L1Cur × Vec) :=
 (spec_l1Below c0 5).bind fun t4 =>
 (spec_l1Int t4.1 ([0,1,2,5,10,100]:List Int)).bind fun t8 =>
 (spec_l1Int t8.1 ([0,1,2,9,10]:List Int)).bind fun t11 =>
 (spec_l1Below t11.1 5).bind fun t13 =>
 (spec_l1Below t13.1 4).bind fun t16 =>
 some (t16.1,(w64 (1 + t4.2),t8.2,t11.2,w64 (1 + t13.2),t16.2))
def F_spec_l7Draw:Fn:=⟨[.ptr cL1Cur false],[.val true cVec true],fun a=>spec_l7Draw a⟩
theorem m_spec_l7Draw:Meets Tryz.prog 330 F_spec_l7Draw:=mkM g_221 330 Tryz.f330 [] F_spec_l7Draw Tryz.func330 (by kernel_rfl) (by kernel_rfl) (by kernel_rfl)
def fns_330:List (FuncId × Fn):=(330,F_spec_l7Draw) :: fns_221
theorem g_330:Good Tryz.prog ⟨tis,fns_330,[],false⟩:=g_221.cons m_spec_l7Draw
def spec_l10Draw_l0 (n1:Int) (i6:Int) (b0:List Int) (b1:Int) (b2:Int) (out5:List Pt):Option ((Int × List Int × Int × Int × List Pt) ⊕ (List Int × Int × Int × List Pt)) :=
 cond (decide (i6 < n1))
 ((spec_l1Once (b0,b1,b2) 4).bind fun t15 =>
 (spec_l1Int t15.1 ([1,1,2,5,10]:List Int)).bind fun t19 =>
 cond (!t15.2)
 ((spec_l1Once t19.1 4).bind fun t25 =>
 cond (!t25.2)
 ((spec_l7Draw t25.1).bind fun t30 =>
 (app out5 [(!t15.2,t19.2,true,t30.2.1,t30.2.2.1,t30.2.2.2.1,t30.2.2.2.2.1,t30.2.2.2.2.2)]).bind fun zs35 =>
 some (.inl (w64 (i6 + 1),t30.1.1,t30.1.2.1,t30.1.2.2,zs35)))
 ((app out5 [(!t15.2,t19.2,false,0,0,0,0,0)]).bind fun zs35_1 =>
 some (.inl (w64 (i6 + 1),t25.1.1,t25.1.2.1,t25.1.2.2,zs35_1))))
 ((app out5 [(!t15.2,t19.2,false,0,0,0,0,0)]).bind fun zs35_2 =>
 some (.inl (w64 (i6 + 1),t19.1.1,t19.1.2.1,t19.1.2.2,zs35_2))))
 (some (.inr (b0,b1,b2,out5)))
def spec_l10Draw (c0:L1Cur) (n1:Int):Option (L1Cur × List Pt) :=
 (loop (fun z=>spec_l10Draw_l0 n1 z.1 z.2.1 z.2.2.1 z.2.2.2.1 z.2.2.2.2) (0,c0.1,c0.2.1,c0.2.2,([]:List Pt))).bind fun d =>
 some ((d.1,d.2.1,d.2.2.1),d.2.2.2)
def F_spec_l10Draw:Fn:=⟨[.ptr cL1Cur false,.val false cNI false],[.val false (.one (.sl cPt)) true],fun a=>spec_l10Draw a.1 a.2⟩
def a_spec_l10Draw:List (Nat × LoopAnn):=[(0,⟨⟨(5,false,[.own 1000000000]) :: (6,false,[dI]) :: us 24 3 [],[(1,.box [.dat (.sl (.one (.int .u8))),dI,dI]),(1000000000,.root cPt true)]⟩,
 ⟨[(5,false,[.own 1000000300])],[(1,.box [.dat (.sl (.one (.int .u8))),dI,dI]),(1000000300,.root cPt true)]⟩,none⟩)]
theorem m_spec_l10Draw:Meets Tryz.prog 222 F_spec_l10Draw:=mkM g_330 222 Tryz.f222 a_spec_l10Draw F_spec_l10Draw Tryz.func222 (by kernel_rfl) (by kernel_rfl) (by kernel_rfl)
def fns_222:List (FuncId × Fn):=(222,F_spec_l10Draw) :: fns_330
theorem g_222:Good Tryz.prog ⟨tis,fns_222,[],false⟩:=g_330.cons m_spec_l10Draw
def spec_RowAt_l0 (v0:Vtab) (id1:Int) (i5:Int):Option (Int ⊕ (Unit ⊕ Int)) :=
 cond (decide (i5 < (v0.1.length:Int)))
 ((at? v0.1 i5).bind fun x16 =>
 cond (x16.1 == id1) (some (.inr (.inr i5))) (some (.inl (w64 (i5 + 1)))))
 (some (.inr (.inl ())))
def spec_RowAt (v0:Vtab) (id1:Int):Option Int :=
 (loop (fun z=>spec_RowAt_l0 v0 id1 z) 0).bind (Sum.elim (fun d =>
 some (-1)) (fun r=>some r))
def F_spec_RowAt:Fn:=⟨[.val true cVtab false,.val false cNI false],[.val false cNI true],fun a=>spec_RowAt a.1 a.2⟩
def a_spec_RowAt:List (Nat × LoopAnn):=[(0,⟨⟨[(5,false,[dI])],[]⟩,
 ⟨[],[]⟩,some ⟨[(4,false,[dI])],[]⟩⟩)]
theorem m_spec_RowAt:Meets Tryz.prog 303 F_spec_RowAt:=mkM g_222 303 Tryz.f303 a_spec_RowAt F_spec_RowAt Tryz.func303 (by kernel_rfl) (by kernel_rfl) (by kernel_rfl)
def fns_303:List (FuncId × Fn):=(303,F_spec_RowAt) :: fns_222
theorem g_303:Good Tryz.prog ⟨tis,fns_303,[],false⟩:=g_222.cons m_spec_RowAt
def spec_VtabOk_l0 (p0:Vtab) (t27:Int) (t6:Int):Option (Int ⊕ (Unit ⊕ Bool)) :=
 cond (decide (t6 < (p0.1.length:Int)))
 ((at? p0.1 t6).bind fun x39 =>
 (spec_l1In x39.1 1 99).bind fun t43 =>
 (cond (!t43)
 (some true)
 ((spec_l1In x39.2.1 0 (w64 (t27 - 1))).bind fun t49 =>
 some (!t49))).bind fun t51 =>
 (cond t51
 (some true)
 ((spec_l1In x39.2.2 0 (w64 (t27 - 1))).bind fun t56 =>
 some (!t56))).bind fun t58 =>
 (cond t58 (some true) (some ((band .i64 x39.2.2 x39.2.1) != x39.2.2))).bind fun t68 =>
 (cond t68
 (some true)
 ((cond (decide (t6 > 0))
 ((at? p0.1 (w64 (t6 - 1))).bind fun x77 =>
 some (decide (x77.1 ≥ x39.1)))
 (some false)).bind fun t83 =>
 some t83)).bind fun t84 =>
 cond t84 (some (.inr (.inr false))) (some (.inl (w64 (t6 + 1)))))
 (some (.inr (.inl ())))
def spec_VtabOk_l2 (p0:Vtab) (t8:Int):Option (Int ⊕ (Unit ⊕ Bool)) :=
 cond (decide (t8 < (p0.2.length:Int)))
 ((at? p0.2 t8).bind fun x96 =>
 (spec_RowAt p0 x96).bind fun t98 =>
 cond (decide (t98 < 0)) (some (.inr (.inr false))) (some (.inl (w64 (t8 + 1)))))
 (some (.inr (.inl ())))
def spec_VtabOk (p0:Vtab) (i1:Int):Option Bool :=
 (spec_l1In i1 1 6).bind fun t10 =>
 (cond (!t10) (some true) (some ((p0.2.length:Int) != i1))).bind fun t18 =>
 (cond t18 (some true) (some (decide ((p0.1.length:Int) > 6)))).bind fun t24 =>
 cond t24
 (some false)
 ((shl .i64 1 (IntKind.u64.wrap (i1))).bind fun t27 =>
 (loop (fun z=>spec_VtabOk_l0 p0 t27 z) 0).bind (Sum.elim (fun d =>
 (loop (fun z=>spec_VtabOk_l2 p0 z) 0).bind (Sum.elim (fun d_1 =>
 some true) (fun r=>some r))) (fun r_1=>some r_1)))
def F_spec_VtabOk:Fn:=⟨[.val true cVtab false,.val false cNI false],[.val false cNB true],fun a=>spec_VtabOk a.1 a.2⟩
def a_spec_VtabOk:List (Nat × LoopAnn):=[(0,⟨⟨(6,false,[dI]) :: us 46 5 (us 53 5 (us 60 8 (us 70 14 []))),[]⟩,
 ⟨[],[]⟩,some ⟨[(4,false,[dB])],[]⟩⟩),
 (2,⟨⟨[(8,false,[dI])],[]⟩,
 ⟨[],[]⟩,some ⟨[(4,false,[dB])],[]⟩⟩)]
theorem m_spec_VtabOk:Meets Tryz.prog 203 F_spec_VtabOk:=mkM g_303 203 Tryz.f203 a_spec_VtabOk F_spec_VtabOk Tryz.func203 (by kernel_rfl) (by kernel_rfl) (by kernel_rfl)
def fns_203:List (FuncId × Fn):=(203,F_spec_VtabOk) :: fns_303
theorem g_203:Good Tryz.prog ⟨tis,fns_203,[],false⟩:=g_303.cons m_spec_VtabOk
def spec_l9Copy (v0:Vtab):Option Vtab :=
 (app ([]:List Vrow) v0.1).bind fun zs6 =>
 (app ([]:List Int) v0.2).bind fun zs10 =>
 some (zs6,zs10)
def F_spec_l9Copy:Fn:=⟨[.val true cVtab false],[.val true cVtab true],fun a=>spec_l9Copy a⟩
theorem m_spec_l9Copy:Meets Tryz.prog 239 F_spec_l9Copy:=mkM g_203 239 Tryz.f239 [] F_spec_l9Copy Tryz.func239 (by kernel_rfl) (by kernel_rfl) (by kernel_rfl)
def fns_239:List (FuncId × Fn):=(239,F_spec_l9Copy) :: fns_203
theorem g_239:Good Tryz.prog ⟨tis,fns_239,[],false⟩:=g_203.cons m_spec_l9Copy
def spec_l9Or (x0:Vtab) (v1:Vtab):Option (Vtab × Bool) :=
 (spec_VtabOk x0 (v1.2.length:Int)).bind fun t10 =>
 cond (!t10)
 ((spec_l9Copy v1).bind fun t13 =>
 some (t13,false))
 (some (x0,true))
def F_spec_l9Or:Fn:=⟨[.val true cVtab true,.val true cVtab false],[.val true cVtab true,.val false cNB true],fun a=>spec_l9Or a.1 a.2⟩
theorem m_spec_l9Or:Meets Tryz.prog 385 F_spec_l9Or:=mkM g_239 385 Tryz.f385 [] F_spec_l9Or Tryz.func385 (by kernel_rfl) (by kernel_rfl) (by kernel_rfl)
def fns_385:List (FuncId × Fn):=(385,F_spec_l9Or) :: fns_239
theorem g_385:Good Tryz.prog ⟨tis,fns_385,[],false⟩:=g_239.cons m_spec_l9Or
def spec_SetPvid (v0:Vtab) (port1:Int) (id2:Int):Option (Vtab × Bool) :=
 (spec_VtabOk v0 (v0.2.length:Int)).bind fun t13 =>
 (cond (!t13)
 (some true)
 ((spec_l1In port1 0 (w64 ((v0.2.length:Int) - 1))).bind fun t21 =>
 some (!t21))).bind fun t23 =>
 cond t23
 ((spec_l9Copy v0).bind fun t25 =>
 some (t25,false))
 ((spec_l9Copy v0).bind fun t27 =>
 (ix t27.2.length port1).bind fun j32 =>
 (t27.2[j32]?).bind fun x =>
 (spec_l9Or (t27.1,t27.2.set j32 id2) v0).bind fun t35 =>
 some t35)
def F_spec_SetPvid:Fn:=⟨[.val true cVtab false,.val false cNI false,.val false cNI false],[.val true cVtab true,.val false cNB true],fun a=>spec_SetPvid a.1 a.2.1 a.2.2⟩
theorem m_spec_SetPvid:Meets Tryz.prog 331 F_spec_SetPvid:=mkM g_385 331 Tryz.f331 [] F_spec_SetPvid Tryz.func331 (by kernel_rfl) (by kernel_rfl) (by kernel_rfl)
def fns_331:List (FuncId × Fn):=(331,F_spec_SetPvid) :: fns_385
theorem g_331:Good Tryz.prog ⟨tis,fns_331,[],false⟩:=g_385.cons m_spec_SetPvid
def spec_DropRow (v0:Vtab) (id1:Int):Option (Vtab × Bool) :=
 (spec_RowAt v0 id1).bind fun t10 =>
 (spec_VtabOk v0 (v0.2.length:Int)).bind fun t15 =>
 (cond (!t15) (some true) (some (decide (t10 < 0)))).bind fun t20 =>
 cond t20
 ((spec_l9Copy v0).bind fun t22 =>
 some (t22,false))
 ((spec_l9Copy v0).bind fun t24 =>
 (cut v0.1 0 t10).bind fun t29 =>
 (app ([]:List Vrow) t29).bind fun zs30 =>
 (cut v0.1 (w64 (t10 + 1)) (v0.1.length:Int)).bind fun t35 =>
 (app zs30 t35).bind fun zs36 =>
 (spec_l9Or (zs36,t24.2) v0).bind fun t40 =>
 some t40)
def F_spec_DropRow:Fn:=⟨[.val true cVtab false,.val false cNI false],[.val true cVtab true,.val false cNB true],fun a=>spec_DropRow a.1 a.2⟩
theorem m_spec_DropRow:Meets Tryz.prog 332 F_spec_DropRow:=mkM g_331 332 Tryz.f332 [] F_spec_DropRow Tryz.func332 (by kernel_rfl) (by kernel_rfl) (by kernel_rfl)
def fns_332:List (FuncId × Fn):=(332,F_spec_DropRow) :: fns_331
theorem g_332:Good Tryz.prog ⟨tis,fns_332,[],false⟩:=g_331.cons m_spec_DropRow
def spec_l9Row_l0 (p0:Vtab) (i1:Vrow) (t6:Bool) (t7:Int) (b0:List Vrow):Option ((Bool × Int × List Vrow) ⊕ (Bool × List Vrow)) :=
 cond (decide (t7 < (p0.1.length:Int)))
 ((cond (!t6)
 ((at? p0.1 t7).bind fun x26 =>
 some (decide (x26.1 ≥ i1.1)))
 (some false)).bind fun t32 =>
 cond t32
 ((app b0 [i1]).bind fun zs37 =>
 (at? p0.1 t7).bind fun x42 =>
 cond (x42.1 != i1.1)
 ((at? p0.1 t7).bind fun x53 =>
 (app zs37 [x53]).bind fun zs56 =>
 some (.inl (true,w64 (t7 + 1),zs56)))
 (some (.inl (true,w64 (t7 + 1),zs37))))
 ((at? p0.1 t7).bind fun x42_1 =>
 cond (x42_1.1 != i1.1)
 ((at? p0.1 t7).bind fun x53_1 =>
 (app b0 [x53_1]).bind fun zs56_1 =>
 some (.inl (t6,w64 (t7 + 1),zs56_1)))
 (some (.inl (t6,w64 (t7 + 1),b0)))))
 (some (.inr (t6,b0)))
def spec_l9Row (p0:Vtab) (i1:Vrow):Option Vtab :=
 (app ([]:List Int) p0.2).bind fun zs11 =>
 (loop (fun z=>spec_l9Row_l0 p0 i1 z.1 z.2.1 z.2.2) (false,0,[])).bind fun d =>
 cond (!d.1)
 ((app d.2 [i1]).bind fun zs64 =>
 some (zs64,zs11))
 (some (d.2,zs11))
def F_spec_l9Row:Fn:=⟨[.val true cVtab false,.val true cVrow false],[.val true cVtab true],fun a=>spec_l9Row a.1 a.2⟩
def a_spec_l9Row:List (Nat × LoopAnn):=[(0,⟨⟨(6,false,[dB]) :: (7,false,[dI]) :: us 23 9 [],[(268288,.box [.own 1000000000,.same 266240]),(1000000000,.root cVrow true)]⟩,
 ⟨[(6,false,[dB])],[(268288,.box [.own 1000000300,.same 266240]),(1000000300,.root cVrow true)]⟩,none⟩)]
theorem m_spec_l9Row:Meets Tryz.prog 360 F_spec_l9Row:=mkM g_332 360 Tryz.f360 a_spec_l9Row F_spec_l9Row Tryz.func360 (by kernel_rfl) (by kernel_rfl) (by kernel_rfl)
def fns_360:List (FuncId × Fn):=(360,F_spec_l9Row) :: fns_332
theorem g_360:Good Tryz.prog ⟨tis,fns_360,[],false⟩:=g_332.cons m_spec_l9Row
def spec_PutRow (v0:Vtab) (r1:Vrow):Option (Vtab × Bool) :=
 (spec_VtabOk v0 (v0.2.length:Int)).bind fun t10 =>
 cond (!t10)
 ((spec_l9Copy v0).bind fun t13 =>
 some (t13,false))
 ((spec_l9Row v0 r1).bind fun t16 =>
 (spec_l9Or t16 v0).bind fun t18 =>
 some t18)
def F_spec_PutRow:Fn:=⟨[.val true cVtab false,.val true cVrow false],[.val true cVtab true,.val false cNB true],fun a=>spec_PutRow a.1 a.2⟩
theorem m_spec_PutRow:Meets Tryz.prog 333 F_spec_PutRow:=mkM g_360 333 Tryz.f333 [] F_spec_PutRow Tryz.func333 (by kernel_rfl) (by kernel_rfl) (by kernel_rfl)
def fns_333:List (FuncId × Fn):=(333,F_spec_PutRow) :: fns_360
theorem g_333:Good Tryz.prog ⟨tis,fns_333,[],false⟩:=g_360.cons m_spec_PutRow
def spec_l9Row2 (c0:L1Cur) (ports1:Int):Option (L1Cur × Vrow) :=
 (shl .i64 1 (IntKind.u64.wrap (ports1))).bind fun t9 =>
 (spec_l1Below c0 (w64 ((w64 (t9 - 1)) + 1))).bind fun t14 =>
 (spec_l1Int t14.1 ([1,2,3,2]:List Int)).bind fun t17 =>
 (spec_l1Below t17.1 (w64 ((w64 (t9 - 1)) + 1))).bind fun t23 =>
 some (t23.1,(t17.2,t14.2,band .i64 t14.2 t23.2))
def F_spec_l9Row2:Fn:=⟨[.ptr cL1Cur false,.val false cNI false],[.val true cVrow true],fun a=>spec_l9Row2 a.1 a.2⟩
theorem m_spec_l9Row2:Meets Tryz.prog 334 F_spec_l9Row2:=mkM g_333 334 Tryz.f334 [] F_spec_l9Row2 Tryz.func334 (by kernel_rfl) (by kernel_rfl) (by kernel_rfl)
def fns_334:List (FuncId × Fn):=(334,F_spec_l9Row2) :: fns_333
theorem g_334:Good Tryz.prog ⟨tis,fns_334,[],false⟩:=g_333.cons m_spec_l9Row2
def spec_l9Draw_l0 (ports1:Int) (i6:Int) (b0:List Int) (b1:Int) (b2:Int) (b0_1:List Vrow) (b1_1:List Int):Option ((Int × List Int × Int × Int × List Vrow × List Int) ⊕ (List Int × Int × Int × List Vrow × List Int)) :=
 cond (decide (i6 > 0))
 ((spec_l1Below (b0,b1,b2) 4).bind fun t16 =>
 cond (t16.2 == 0)
 ((spec_l1Below t16.1 ports1).bind fun t31 =>
 (spec_l1Below t31.1 3).bind fun t33 =>
 (spec_SetPvid (b0_1,b1_1) t31.2 (w64 (1 + t33.2))).bind fun t35 =>
 some (.inl (w64 (i6 - 1),t33.1.1,t33.1.2.1,t33.1.2.2,t35.1.1,t35.1.2)))
 (cond (t16.2 == 1)
 ((spec_l1Below t16.1 2).bind fun t43 =>
 (spec_DropRow (b0_1,b1_1) (w64 (2 + t43.2))).bind fun t45 =>
 some (.inl (w64 (i6 - 1),t43.1.1,t43.1.2.1,t43.1.2.2,t45.1.1,t45.1.2)))
 ((spec_l9Row2 t16.1 ports1).bind fun t21 =>
 (spec_PutRow (b0_1,b1_1) t21.2).bind fun t22 =>
 some (.inl (w64 (i6 - 1),t21.1.1,t21.1.2.1,t21.1.2.2,t22.1.1,t22.1.2)))))
 (some (.inr (b0,b1,b2,b0_1,b1_1)))
def spec_l9Draw (c0:L1Cur) (ports1:Int):Option (L1Cur × Vtab) :=
 (spec_VtabNew ports1).bind fun t8 =>
 (spec_l1Below c0 6).bind fun t10 =>
 (loop (fun z=>spec_l9Draw_l0 ports1 z.1 z.2.1 z.2.2.1 z.2.2.2.1 z.2.2.2.2.1 z.2.2.2.2.2) (t10.2,t10.1.1,t10.1.2.1,t10.1.2.2,t8.1,t8.2)).bind fun d =>
 some ((d.1,d.2.1,d.2.2.1),d.2.2.2)
def F_spec_l9Draw:Fn:=⟨[.ptr cL1Cur false,.val false cNI false],[.val true cVtab true],fun a=>spec_l9Draw a.1 a.2⟩
def a_spec_l9Draw:List (Nat × LoopAnn):=[(0,⟨⟨[(6,false,[dI])],[(1,.box [.dat (.sl (.one (.int .u8))),dI,dI]),(265216,.box [.own 1000000000,.own 1000000001]),(1000000000,.root cVrow true),(1000000001,.root cNI true)]⟩,
 ⟨[],[(1,.box [.dat (.sl (.one (.int .u8))),dI,dI]),(265216,.box [.own 1000000300,.own 1000000301]),(1000000300,.root cVrow true),(1000000301,.root cNI true)]⟩,none⟩)]
theorem m_spec_l9Draw:Meets Tryz.prog 223 F_spec_l9Draw:=mkM g_334 223 Tryz.f223 a_spec_l9Draw F_spec_l9Draw Tryz.func223 (by kernel_rfl) (by kernel_rfl) (by kernel_rfl)
def fns_223:List (FuncId × Fn):=(223,F_spec_l9Draw) :: fns_334
theorem g_223:Good Tryz.prog ⟨tis,fns_223,[],false⟩:=g_334.cons m_spec_l9Draw
def spec_l8Ent (e0:Fent):Option Bool :=
 (spec_l1In e0.1 1 99).bind fun t5 =>
 (cond t5
 ((spec_l1In e0.2.1 1 9999).bind fun t9 =>
 some t9)
 (some false)).bind fun t10 =>
 (cond t10
 ((spec_l1In e0.2.2.1 0 7).bind fun t14 =>
 some t14)
 (some false)).bind fun t15 =>
 (cond t15
 ((spec_l1In e0.2.2.2.1 0 4).bind fun t19 =>
 some t19)
 (some false)).bind fun t20 =>
 (cond t20
 ((cond (!e0.2.2.2.2) (some true) (some (e0.2.2.2.1 == 0))).bind fun t29 =>
 some t29)
 (some false)).bind fun t30 =>
 some t30
def F_spec_l8Ent:Fn:=⟨[.val true cFent false],[.val false cNB true],fun a=>spec_l8Ent a⟩
theorem m_spec_l8Ent:Meets Tryz.prog 301 F_spec_l8Ent:=mkM g_223 301 Tryz.f301 [] F_spec_l8Ent Tryz.func301 (by kernel_rfl) (by kernel_rfl) (by kernel_rfl)
def fns_301:List (FuncId × Fn):=(301,F_spec_l8Ent) :: fns_223
theorem g_301:Good Tryz.prog ⟨tis,fns_301,[],false⟩:=g_223.cons m_spec_l8Ent
def spec_l8Ahead (e0:Fent) (tag1:Int) (mac2:Int):Option Bool :=
 cond (e0.1 != tag1) (some (decide (e0.1 < tag1))) (some (decide (e0.2.1 < mac2)))
def F_spec_l8Ahead:Fn:=⟨[.val true cFent false,.val false cNI false,.val false cNI false],[.val false cNB true],fun a=>spec_l8Ahead a.1 a.2.1 a.2.2⟩
theorem m_spec_l8Ahead:Meets Tryz.prog 302 F_spec_l8Ahead:=mkM g_301 302 Tryz.f302 [] F_spec_l8Ahead Tryz.func302 (by kernel_rfl) (by kernel_rfl) (by kernel_rfl)
def fns_302:List (FuncId × Fn):=(302,F_spec_l8Ahead) :: fns_301
theorem g_302:Good Tryz.prog ⟨tis,fns_302,[],false⟩:=g_301.cons m_spec_l8Ahead
def spec_FdbOk_l0 (l0:List Fent) (i3:Int):Option (Int ⊕ (Unit ⊕ Bool)) :=
 cond (decide (i3 < (l0.length:Int)))
 ((at? l0 i3).bind fun x12 =>
 (spec_l8Ent x12).bind fun t14 =>
 (cond (!t14)
 (some true)
 ((cond (decide (i3 > 0))
 ((at? l0 (w64 (i3 - 1))).bind fun x23 =>
 (at? l0 i3).bind fun x27 =>
 (at? l0 i3).bind fun x32 =>
 (spec_l8Ahead x23 x27.1 x32.2.1).bind fun t35 =>
 some (!t35))
 (some false)).bind fun t37 =>
 some t37)).bind fun t38 =>
 cond t38 (some (.inr (.inr false))) (some (.inl (w64 (i3 + 1)))))
 (some (.inr (.inl ())))
def spec_FdbOk (l0:List Fent):Option Bool :=
 (loop (fun z=>spec_FdbOk_l0 l0 z) 0).bind (Sum.elim (fun d =>
 let t2:=decide ((l0.length:Int) ≤ 12)
 some t2) (fun r=>some r))
def F_spec_FdbOk:Fn:=⟨[.val false (.one (.sl cFent)) false],[.val false cNB true],fun a=>spec_FdbOk a⟩
def a_spec_FdbOk:List (Nat × LoopAnn):=[(0,⟨⟨(3,false,[dI]) :: us 17 21 [],[]⟩,
 ⟨[],[]⟩,some ⟨[(2,false,[dB])],[]⟩⟩)]
theorem m_spec_FdbOk:Meets Tryz.prog 202 F_spec_FdbOk:=mkM g_302 202 Tryz.f202 a_spec_FdbOk F_spec_FdbOk Tryz.func202 (by kernel_rfl) (by kernel_rfl) (by kernel_rfl)
def fns_202:List (FuncId × Fn):=(202,F_spec_FdbOk) :: fns_302
theorem g_202:Good Tryz.prog ⟨tis,fns_202,[],false⟩:=g_302.cons m_spec_FdbOk
def spec_l8Copy (l0:List Fent):Option (List Fent) :=
 (app ([]:List Fent) l0).bind fun zs5 =>
 some zs5
def F_spec_l8Copy:Fn:=⟨[.val false (.one (.sl cFent)) false],[.val false (.one (.sl cFent)) true],fun a=>spec_l8Copy a⟩
theorem m_spec_l8Copy:Meets Tryz.prog 238 F_spec_l8Copy:=mkM g_202 238 Tryz.f238 [] F_spec_l8Copy Tryz.func238 (by kernel_rfl) (by kernel_rfl) (by kernel_rfl)
def fns_238:List (FuncId × Fn):=(238,F_spec_l8Copy) :: fns_202
theorem g_238:Good Tryz.prog ⟨tis,fns_238,[],false⟩:=g_202.cons m_spec_l8Copy
def spec_l8At_l0 (l0:List Fent) (tag1:Int) (mac2:Int) (i7:Int):Option (Int ⊕ (Unit ⊕ Int)) :=
 cond (decide (i7 < (l0.length:Int)))
 ((at? l0 i7).bind fun x16 =>
 (cond (x16.1 == tag1)
 ((at? l0 i7).bind fun x24 =>
 some (x24.2.1 == mac2))
 (some false)).bind fun t29 =>
 cond t29 (some (.inr (.inr i7))) (some (.inl (w64 (i7 + 1)))))
 (some (.inr (.inl ())))
def spec_l8At (l0:List Fent) (tag1:Int) (mac2:Int):Option Int :=
 (loop (fun z=>spec_l8At_l0 l0 tag1 mac2 z) 0).bind (Sum.elim (fun d =>
 some (-1)) (fun r=>some r))
def F_spec_l8At:Fn:=⟨[.val false (.one (.sl cFent)) false,.val false cNI false,.val false cNI false],[.val false cNI true],fun a=>spec_l8At a.1 a.2.1 a.2.2⟩
def a_spec_l8At:List (Nat × LoopAnn):=[(0,⟨⟨(7,false,[dI]) :: us 22 7 [],[]⟩,
 ⟨[],[]⟩,some ⟨[(6,false,[dI])],[]⟩⟩)]
theorem m_spec_l8At:Meets Tryz.prog 335 F_spec_l8At:=mkM g_238 335 Tryz.f335 a_spec_l8At F_spec_l8At Tryz.func335 (by kernel_rfl) (by kernel_rfl) (by kernel_rfl)
def fns_335:List (FuncId × Fn):=(335,F_spec_l8At) :: fns_238
theorem g_335:Good Tryz.prog ⟨tis,fns_335,[],false⟩:=g_238.cons m_spec_l8At
def spec_l8Put_l0 (p0:List Fent) (i1:Fent) (t6:Bool) (t7:Int) (t5:List Fent):Option ((Bool × Int × List Fent) ⊕ (Bool × List Fent)) :=
 cond (decide (t7 < (p0.length:Int)))
 ((cond (!t6)
 ((at? p0 t7).bind fun x20 =>
 (spec_l8Ahead x20 i1.1 i1.2.1).bind fun t26 =>
 some (!t26))
 (some false)).bind fun t28 =>
 cond t28
 ((app t5 [i1]).bind fun zs32 =>
 (at? p0 t7).bind fun x35 =>
 (cond (x35.1 != i1.1)
 (some true)
 ((at? p0 t7).bind fun x44 =>
 some (x44.2.1 != i1.2.1))).bind fun t50 =>
 cond t50
 ((at? p0 t7).bind fun x54 =>
 (app zs32 [x54]).bind fun zs57 =>
 some (.inl (true,w64 (t7 + 1),zs57)))
 (some (.inl (true,w64 (t7 + 1),zs32))))
 ((at? p0 t7).bind fun x35_1 =>
 (cond (x35_1.1 != i1.1)
 (some true)
 ((at? p0 t7).bind fun x44_1 =>
 some (x44_1.2.1 != i1.2.1))).bind fun t50_1 =>
 cond t50_1
 ((at? p0 t7).bind fun x54_1 =>
 (app t5 [x54_1]).bind fun zs57_1 =>
 some (.inl (t6,w64 (t7 + 1),zs57_1)))
 (some (.inl (t6,w64 (t7 + 1),t5)))))
 (some (.inr (t6,t5)))
def spec_l8Put (p0:List Fent) (i1:Fent):Option (List Fent) :=
 (loop (fun z=>spec_l8Put_l0 p0 i1 z.1 z.2.1 z.2.2) (false,0,([]:List Fent))).bind fun d =>
 cond (!d.1)
 ((app d.2 [i1]).bind fun zs63 =>
 some zs63)
 (some d.2)
def F_spec_l8Put:Fn:=⟨[.val false (.one (.sl cFent)) false,.val true cFent false],[.val false (.one (.sl cFent)) true],fun a=>spec_l8Put a.1 a.2⟩
def a_spec_l8Put:List (Nat × LoopAnn):=[(0,⟨⟨(5,false,[.own 1000000000]) :: (6,false,[dB]) :: (7,false,[dI]) :: us 18 10 (us 42 8 []),[(1000000000,.root cFent true)]⟩,
 ⟨[(5,false,[.own 1000000300]),(6,false,[dB])],[(1000000300,.root cFent true)]⟩,none⟩)]
theorem m_spec_l8Put:Meets Tryz.prog 336 F_spec_l8Put:=mkM g_335 336 Tryz.f336 a_spec_l8Put F_spec_l8Put Tryz.func336 (by kernel_rfl) (by kernel_rfl) (by kernel_rfl)
def fns_336:List (FuncId × Fn):=(336,F_spec_l8Put) :: fns_335
theorem g_336:Good Tryz.prog ⟨tis,fns_336,[],false⟩:=g_335.cons m_spec_l8Put
def spec_Learn (l0:List Fent) (tag1:Int) (mac2:Int) (port3:Int):Option (List Fent) :=
 (spec_l8At l0 tag1 mac2).bind fun t18 =>
 (spec_FdbOk l0).bind fun t20 =>
 (cond (!t20)
 (some true)
 ((spec_l8Ent (tag1,mac2,port3,0,false)).bind fun t24 =>
 some (!t24))).bind fun t26 =>
 (cond t26
 (some true)
 ((cond (decide (t18 ≥ 0))
 ((at? l0 t18).bind fun x33 =>
 some x33.2.2.2.2)
 (some false)).bind fun t36 =>
 some t36)).bind fun t37 =>
 (cond t37
 (some true)
 ((cond (decide (t18 < 0)) (some (decide ((l0.length:Int) ≥ 12))) (some false)).bind fun t45 =>
 some t45)).bind fun t46 =>
 cond t46
 ((spec_l8Copy l0).bind fun t48 =>
 some t48)
 ((spec_l8Put l0 (tag1,mac2,port3,0,false)).bind fun t51 =>
 some t51)
def F_spec_Learn:Fn:=⟨[.val false (.one (.sl cFent)) false,.val false cNI false,.val false cNI false,.val false cNI false],[.val false (.one (.sl cFent)) true],fun a=>spec_Learn a.1 a.2.1 a.2.2.1 a.2.2.2⟩
theorem m_spec_Learn:Meets Tryz.prog 224 F_spec_Learn:=mkM g_336 224 Tryz.f224 [] F_spec_Learn Tryz.func224 (by kernel_rfl) (by kernel_rfl) (by kernel_rfl)
def fns_224:List (FuncId × Fn):=(224,F_spec_Learn) :: fns_336
theorem g_224:Good Tryz.prog ⟨tis,fns_224,[],false⟩:=g_336.cons m_spec_Learn
def spec_l6Mac (c0:L1Cur):Option (L1Cur × Int) :=
 (spec_l1Int c0 ([11,12,13,14]:List Int)).bind fun t5 =>
 some t5
def F_spec_l6Mac:Fn:=⟨[.ptr cL1Cur false],[.val false cNI true],fun a=>spec_l6Mac a⟩
theorem m_spec_l6Mac:Meets Tryz.prog 225 F_spec_l6Mac:=mkM g_224 225 Tryz.f225 [] F_spec_l6Mac Tryz.func225 (by kernel_rfl) (by kernel_rfl) (by kernel_rfl)
def fns_225:List (FuncId × Fn):=(225,F_spec_l6Mac) :: fns_224
theorem g_225:Good Tryz.prog ⟨tis,fns_225,[],false⟩:=g_224.cons m_spec_l6Mac
def spec_SetStatic (l0:List Fent) (tag1:Int) (mac2:Int) (port3:Int):Option ((List Fent) × Bool) :=
 (spec_FdbOk l0).bind fun t16 =>
 (cond (!t16)
 (some true)
 ((spec_l8Ent (tag1,mac2,port3,0,true)).bind fun t20 =>
 some (!t20))).bind fun t22 =>
 (cond t22
 (some true)
 ((spec_l8At l0 tag1 mac2).bind fun t27 =>
 (cond (decide (t27 < 0)) (some (decide ((l0.length:Int) ≥ 12))) (some false)).bind fun t33 =>
 some t33)).bind fun t34 =>
 cond t34
 ((spec_l8Copy l0).bind fun t36 =>
 some (t36,false))
 ((spec_l8Put l0 (tag1,mac2,port3,0,true)).bind fun t39 =>
 some (t39,true))
def F_spec_SetStatic:Fn:=⟨[.val false (.one (.sl cFent)) false,.val false cNI false,.val false cNI false,.val false cNI false],[.val false (.one (.sl cFent)) true,.val false cNB true],fun a=>spec_SetStatic a.1 a.2.1 a.2.2.1 a.2.2.2⟩
end
end Go.V.W
