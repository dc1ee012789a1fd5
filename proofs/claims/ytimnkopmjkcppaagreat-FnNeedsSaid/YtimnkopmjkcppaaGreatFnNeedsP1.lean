/- The law FnNeeds: part of the proof that for every input it returns true. No condition. -/
import Derived.Test.YtimnkopmjkcppaaGreatV4
import Derived.Test.YtimnkopmjkcppaaGreatProg
import Derived.Test.YtimnkopmjkcppaaGreatChecked
import Derived.KernelRfl
set_option linter.unusedVariables false
set_option linter.unusedSimpArgs false
namespace Go.V.W
open Go.Proofs
noncomputable section
def us:Nat → Nat → List (Nat × Bool × List SCell) → List (Nat × Bool × List SCell) | _,0,l=>l | a,n + 1,l=>(a,false,[.undef]) :: us (a + 1) n l
@[reducible] def cNI:Cs:=.one (.int .i64)
@[reducible] def cNB:Cs:=.one .bool
@[reducible] def cNY:Cs:=.one (.sl (.one (.int .u8)))
@[reducible] def cNN:Cs:=.one (.sl (.one (.int .i64)))
@[reducible] def cNS:Cs:=.one .str
@[reducible] def dI:SCell:=.dat (.int .i64)
@[reducible] def dB:SCell:=.dat .bool
@[reducible] def dS:SCell:=.dat .str
@[reducible] def cL1Cur:Cs:=.cons (.sl (.one (.int .u8))) (.cons (.int .i64) cNI)
@[reducible] def cVec:Cs:=.cons (.int .i64) (.cons (.int .i64) (.cons (.int .i64) (.cons (.int .i64) cNI)))
@[reducible] def cPt:Cs:=.cons .bool (.cons (.int .i64) (.cons .bool (.cons (.int .i64) (.cons (.int .i64) (.cons (.int .i64) (.cons (.int .i64) cNI))))))
@[reducible] def cFent:Cs:=.cons (.int .i64) (.cons (.int .i64) (.cons (.int .i64) (.cons (.int .i64) cNB)))
@[reducible] def cVrow:Cs:=.cons (.int .i64) (.cons (.int .i64) cNI)
@[reducible] def cVtab:Cs:=.cons (.sl cVrow) cNN
@[reducible] def cBridge:Cs:=.cons (.int .i64) (.cons .str (.cons (.sl cPt) (.cons (.sl cFent) (.cons (.sl cVrow) (.cons (.sl cNI) (.cons (.int .i64) (.cons (.int .i64) (.cons (.int .i64) (.cons (.int .i64) cNI)))))))))
@[reducible] def cVal:Cs:=.cons (.int .i64) (.cons (.int .i64) (.cons .str cNN))
@[reducible] def cBind:Cs:=.cons (.sl cNI) (.cons (.int .i64) (.cons (.int .i64) (.cons .str cNN)))
@[reducible] def cPdu:Cs:=.cons (.int .i64) (.cons (.int .i64) (.cons (.int .i64) (.cons (.int .i64) (.one (.sl cBind)))))
@[reducible] def cJob:Cs:=.cons (.int .i64) (.cons (.sl (.one (.int .u8))) (.cons (.int .i64) (.cons (.int .i64) (.cons (.int .i64) (.cons (.int .i64) (.cons (.int .i64) (.cons (.sl cBind) (.cons (.int .i64) (.cons .str (.cons (.sl cPt) (.cons (.sl cFent) (.cons (.sl cVrow) (.cons (.sl cNI) (.cons (.int .i64) (.cons (.int .i64) (.cons (.int .i64) (.cons (.int .i64) (.cons (.int .i64) (.cons (.int .i64) cNI)))))))))))))))))))
@[reducible] def cAgent:Cs:=.cons (.int .i64) (.cons .str (.cons (.sl cPt) (.cons (.sl cFent) (.cons (.sl cVrow) (.cons (.sl cNI) (.cons (.int .i64) (.cons (.int .i64) (.cons (.int .i64) (.cons (.int .i64) (.cons (.int .i64) (.cons .str (.cons (.sl cJob) (.cons (.int .i64) cNI)))))))))))))
@[reducible] def cL4Reader:Cs:=.cons (.sl (.one (.int .u8))) (.cons (.int .i64) cNB)
@[reducible] def cDone:Cs:=.cons (.int .i64) (.cons (.int .i64) (.cons (.int .i64) (.cons (.int .i64) (.cons (.int .i64) (.one (.sl cBind))))))
abbrev L1Cur:Type:=List Int × Int × Int
abbrev Vec:Type:=Int × Int × Int × Int × Int
abbrev Pt:Type:=Bool × Int × Bool × Int × Int × Int × Int × Int
abbrev Fent:Type:=Int × Int × Int × Int × Bool
abbrev Vrow:Type:=Int × Int × Int
abbrev Vtab:Type:=List Vrow × List Int
abbrev Bridge:Type:=Int × List UInt8 × List Pt × List Fent × List Vrow × List Int × Int × Int × Int × Int × Int
abbrev Val:Type:=Int × Int × List UInt8 × List Int
abbrev Bind:Type:=List Int × Int × Int × List UInt8 × List Int
abbrev Pdu:Type:=Int × Int × Int × Int × List Bind
abbrev Job:Type:=Int × List Int × Int × Int × Int × Int × Int × List Bind × Int × List UInt8 × List Pt × List Fent × List Vrow × List Int × Int × Int × Int × Int × Int × Int × Int
abbrev Agent:Type:=Int × List UInt8 × List Pt × List Fent × List Vrow × List Int × Int × Int × Int × Int × Int × List UInt8 × List Job × Int × Int
abbrev L4Reader:Type:=List Int × Int × Bool
abbrev Done:Type:=Int × Int × Int × Int × Int × List Bind
def tis:List (Nat × TInfo):=[(2,⟨false,.one (.int .i64),[],0⟩),
 (3,⟨false,.one (.int .i64),[],0⟩),
 (4,⟨false,.one .bool,[],0⟩),
 (5,⟨false,.one (.int .u8),[],0⟩),
 (6,⟨false,.one (.int .u8),[],0⟩),
 (9,⟨false,.one .str,[],0⟩),
 (10,⟨false,.one .str,[],0⟩),
 (11,⟨false,.one .str,[],0⟩),
 (12,⟨false,.one (.int .u64),[],0⟩),
 (21,⟨false,.one (.int .i32),[],0⟩),
 (22,⟨false,.one (.sl cBridge),[],81⟩),
 (23,⟨false,.one (.sl (.cons (.int .i64) (.cons (.int .i64) (.cons (.int .i64) cNI)))),[],264⟩),
 (24,⟨false,.one (.sl (.cons (.int .i64) (.cons .bool (.cons (.int .i64) (.cons (.int .i64) (.cons (.int .i64) (.cons (.int .i64) cNI))))))),[],269⟩),
 (25,⟨true,.cons (.sl cBridge) (.cons (.sl (.cons (.int .i64) (.cons (.int .i64) (.cons (.int .i64) cNI)))) (.one (.sl (.cons (.int .i64) (.cons .bool (.cons (.int .i64) (.cons (.int .i64) (.cons (.int .i64) (.cons (.int .i64) cNI))))))))),[(22,0),(23,1),(24,2)],0⟩),
 (26,⟨true,.cons (.sl cBridge) (.cons (.sl (.cons (.int .i64) (.cons (.int .i64) (.cons (.int .i64) cNI)))) (.one (.sl (.cons (.int .i64) (.cons .bool (.cons (.int .i64) (.cons (.int .i64) (.cons (.int .i64) (.cons (.int .i64) cNI))))))))),[(22,0),(23,1),(24,2)],0⟩),
 (27,⟨false,.one (.sl (.one (.int .u8))),[],5⟩),
 (28,⟨true,.cons (.int .i64) (.cons (.int .i64) (.cons (.int .i64) cNY)),[(3,0),(3,1),(3,2),(27,3)],0⟩),
 (29,⟨true,.cons (.int .i64) (.cons (.int .i64) (.cons (.int .i64) cNY)),[(3,0),(3,1),(3,2),(27,3)],0⟩),
 (32,⟨false,.one (.sl cNI),[],3⟩),
 (34,⟨false,.one (.sl cBridge),[],56⟩),
 (35,⟨false,.one (.sl (.cons (.int .i64) (.cons (.int .i64) (.cons (.int .i64) cNI)))),[],262⟩),
 (36,⟨false,.one (.sl (.cons (.int .i64) (.cons .bool (.cons (.int .i64) (.cons (.int .i64) (.cons (.int .i64) (.cons (.int .i64) cNI))))))),[],266⟩),
 (37,⟨true,.cons (.sl cBridge) (.cons (.sl (.cons (.int .i64) (.cons (.int .i64) (.cons (.int .i64) cNI)))) (.one (.sl (.cons (.int .i64) (.cons .bool (.cons (.int .i64) (.cons (.int .i64) (.cons (.int .i64) (.cons (.int .i64) cNI))))))))),[(34,0),(35,1),(36,2)],0⟩),
 (38,⟨true,.cons (.sl cBridge) (.cons (.sl (.cons (.int .i64) (.cons (.int .i64) (.cons (.int .i64) cNI)))) (.one (.sl (.cons (.int .i64) (.cons .bool (.cons (.int .i64) (.cons (.int .i64) (.cons (.int .i64) (.cons (.int .i64) cNI))))))))),[(34,0),(35,1),(36,2)],0⟩),
 (40,⟨true,.cons (.int .i64) (.cons (.int .i64) (.cons (.int .i64) cNY)),[(3,0),(3,1),(3,2),(27,3)],0⟩),
 (50,⟨false,.one (.sl cPt),[],185⟩),
 (51,⟨false,.one (.sl cFent),[],187⟩),
 (52,⟨false,.one (.sl cVrow),[],302⟩),
 (53,⟨true,cVtab,[(52,0),(32,1)],0⟩),
 (54,⟨true,cVtab,[(52,0),(32,1)],0⟩),
 (55,⟨true,cBridge,[(3,0),(9,1),(50,2),(51,3),(54,4),(3,6),(3,7),(3,8),(3,9),(3,10)],0⟩),
 (56,⟨true,cBridge,[(3,0),(9,1),(50,2),(51,3),(54,4),(3,6),(3,7),(3,8),(3,9),(3,10)],0⟩),
 (57,⟨false,.one (.sl cBind),[],70⟩),
 (58,⟨true,cPdu,[(3,0),(3,1),(3,2),(3,3),(57,4)],0⟩),
 (59,⟨true,cPdu,[(3,0),(3,1),(3,2),(3,3),(57,4)],0⟩),
 (67,⟨true,cVal,[(3,0),(3,1),(9,2),(32,3)],0⟩),
 (68,⟨true,cVal,[(3,0),(3,1),(9,2),(32,3)],0⟩),
 (69,⟨true,cBind,[(32,0),(68,1)],0⟩),
 (70,⟨true,cBind,[(32,0),(68,1)],0⟩),
 (75,⟨false,.one (.sl cPt),[],323⟩),
 (76,⟨false,.one (.sl cFent),[],325⟩),
 (77,⟨false,.one (.sl cVrow),[],386⟩),
 (78,⟨true,cVtab,[(77,0),(32,1)],0⟩),
 (79,⟨true,cVtab,[(77,0),(32,1)],0⟩),
 (80,⟨true,cBridge,[(3,0),(9,1),(75,2),(76,3),(79,4),(3,6),(3,7),(3,8),(3,9),(3,10)],0⟩),
 (81,⟨true,cBridge,[(3,0),(9,1),(75,2),(76,3),(79,4),(3,6),(3,7),(3,8),(3,9),(3,10)],0⟩),
 (82,⟨false,.one (.sl cBind),[],320⟩),
 (83,⟨true,cPdu,[(3,0),(3,1),(3,2),(3,3),(82,4)],0⟩),
 (84,⟨true,cPdu,[(3,0),(3,1),(3,2),(3,3),(82,4)],0⟩),
 (92,⟨false,.one (.sl (.cons (.int .i64) (.cons (.int .i64) (.cons .bool (.cons (.sl (.one (.int .u8))) (.cons (.int .i64) (.cons (.int .i64) (.cons (.int .i64) (.cons (.sl (.one (.int .u8))) (.cons (.int .i64) (.cons (.int .i64) (.cons (.int .i64) (.cons (.int .i64) cNI))))))))))))),[],217⟩),
 (95,⟨false,.one (.sl (.cons (.int .i64) (.cons (.int .i64) (.cons .bool (.cons (.sl (.one (.int .u8))) (.cons (.int .i64) (.cons (.int .i64) (.cons (.int .i64) (.cons (.sl (.one (.int .u8))) (.cons (.int .i64) (.cons (.int .i64) (.cons (.int .i64) (.cons (.int .i64) cNI))))))))))))),[],139⟩),
 (100,⟨false,.one (.sl cJob),[],119⟩),
 (101,⟨true,cAgent,[(56,0),(9,11),(100,12),(3,13),(3,14)],0⟩),
 (102,⟨true,cAgent,[(56,0),(9,11),(100,12),(3,13),(3,14)],0⟩),
 (109,⟨false,.one (.sl cDone),[],114⟩),
 (113,⟨true,cDone,[(3,0),(59,1)],0⟩),
 (114,⟨true,cDone,[(3,0),(59,1)],0⟩),
 (118,⟨true,cJob,[(3,0),(27,1),(3,2),(59,3),(56,8),(3,19),(3,20)],0⟩),
 (119,⟨true,cJob,[(3,0),(27,1),(3,2),(59,3),(56,8),(3,19),(3,20)],0⟩),
 (132,⟨false,.one (.sl (.cons (.int .i64) (.cons (.int .i64) (.cons (.int .i64) (.cons (.int .i64) cNY))))),[],250⟩),
 (136,⟨true,cVec,[(3,0),(3,1),(3,2),(3,3),(3,4)],0⟩),
 (137,⟨true,cVec,[(3,0),(3,1),(3,2),(3,3),(3,4)],0⟩),
 (138,⟨true,.cons (.int .i64) (.cons (.int .i64) (.cons .bool (.cons (.sl (.one (.int .u8))) (.cons (.int .i64) (.cons (.int .i64) (.cons (.int .i64) (.cons (.sl (.one (.int .u8))) (.cons (.int .i64) (.cons (.int .i64) (.cons (.int .i64) (.cons (.int .i64) cNI))))))))))),[(3,0),(3,1),(4,2),(27,3),(40,4),(137,8)],0⟩),
 (139,⟨true,.cons (.int .i64) (.cons (.int .i64) (.cons .bool (.cons (.sl (.one (.int .u8))) (.cons (.int .i64) (.cons (.int .i64) (.cons (.int .i64) (.cons (.sl (.one (.int .u8))) (.cons (.int .i64) (.cons (.int .i64) (.cons (.int .i64) (.cons (.int .i64) cNI))))))))))),[(3,0),(3,1),(4,2),(27,3),(40,4),(137,8)],0⟩),
 (149,⟨false,.one (.sl (.cons (.int .i64) (.cons (.int .i64) (.cons (.int .i64) (.cons (.int .i64) (.cons (.int .i64) cNY)))))),[],259⟩),
 (150,⟨false,.one (.sl (.cons (.int .i64) (.cons (.int .i64) (.cons (.int .i64) (.cons (.int .i64) (.cons (.int .i64) cNY)))))),[],279⟩),
 (151,⟨true,.cons (.sl cBridge) (.cons (.sl (.cons (.int .i64) (.cons (.int .i64) (.cons (.int .i64) cNI)))) (.cons (.sl (.cons (.int .i64) (.cons .bool (.cons (.int .i64) (.cons (.int .i64) (.cons (.int .i64) (.cons (.int .i64) cNI))))))) (.cons (.sl (.cons (.int .i64) (.cons (.int .i64) (.cons (.int .i64) (.cons (.int .i64) (.cons (.int .i64) cNY)))))) (.cons (.sl (.cons (.int .i64) (.cons (.int .i64) (.cons (.int .i64) (.cons (.int .i64) (.cons (.int .i64) cNY)))))) (.cons (.sl cNI) cNI))))),[(38,0),(149,3),(150,4),(32,5),(3,6)],0⟩),
 (152,⟨true,.cons (.sl cBridge) (.cons (.sl (.cons (.int .i64) (.cons (.int .i64) (.cons (.int .i64) cNI)))) (.cons (.sl (.cons (.int .i64) (.cons .bool (.cons (.int .i64) (.cons (.int .i64) (.cons (.int .i64) (.cons (.int .i64) cNI))))))) (.cons (.sl (.cons (.int .i64) (.cons (.int .i64) (.cons (.int .i64) (.cons (.int .i64) (.cons (.int .i64) cNY)))))) (.cons (.sl (.cons (.int .i64) (.cons (.int .i64) (.cons (.int .i64) (.cons (.int .i64) (.cons (.int .i64) cNY)))))) (.cons (.sl cNI) cNI))))),[(38,0),(149,3),(150,4),(32,5),(3,6)],0⟩),
 (184,⟨true,cPt,[(4,0),(3,1),(4,2),(137,3)],0⟩),
 (185,⟨true,cPt,[(4,0),(3,1),(4,2),(137,3)],0⟩),
 (186,⟨true,cFent,[(3,0),(3,1),(3,2),(3,3),(4,4)],0⟩),
 (187,⟨true,cFent,[(3,0),(3,1),(3,2),(3,3),(4,4)],0⟩),
 (215,⟨true,cVec,[(3,0),(3,1),(3,2),(3,3),(3,4)],0⟩),
 (216,⟨true,.cons (.int .i64) (.cons (.int .i64) (.cons .bool (.cons (.sl (.one (.int .u8))) (.cons (.int .i64) (.cons (.int .i64) (.cons (.int .i64) (.cons (.sl (.one (.int .u8))) (.cons (.int .i64) (.cons (.int .i64) (.cons (.int .i64) (.cons (.int .i64) cNI))))))))))),[(3,0),(3,1),(4,2),(27,3),(29,4),(215,8)],0⟩),
 (217,⟨true,.cons (.int .i64) (.cons (.int .i64) (.cons .bool (.cons (.sl (.one (.int .u8))) (.cons (.int .i64) (.cons (.int .i64) (.cons (.int .i64) (.cons (.sl (.one (.int .u8))) (.cons (.int .i64) (.cons (.int .i64) (.cons (.int .i64) (.cons (.int .i64) cNI))))))))))),[(3,0),(3,1),(4,2),(27,3),(29,4),(215,8)],0⟩),
 (226,⟨false,.one (.sl cNS),[],9⟩),
 (234,⟨true,cL4Reader,[(27,0),(3,1),(4,2)],0⟩),
 (235,⟨true,cL4Reader,[(27,0),(3,1),(4,2)],0⟩),
 (249,⟨true,.cons (.int .i64) (.cons (.int .i64) (.cons (.int .i64) (.cons (.int .i64) cNY))),[(3,0),(40,1)],0⟩),
 (250,⟨true,.cons (.int .i64) (.cons (.int .i64) (.cons (.int .i64) (.cons (.int .i64) cNY))),[(3,0),(40,1)],0⟩),
 (258,⟨true,.cons (.int .i64) (.cons (.int .i64) (.cons (.int .i64) (.cons (.int .i64) (.cons (.int .i64) cNY)))),[(3,0),(3,1),(40,2)],0⟩),
 (259,⟨true,.cons (.int .i64) (.cons (.int .i64) (.cons (.int .i64) (.cons (.int .i64) (.cons (.int .i64) cNY)))),[(3,0),(3,1),(40,2)],0⟩),
 (261,⟨true,.cons (.int .i64) (.cons (.int .i64) (.cons (.int .i64) cNI)),[(3,0),(3,1),(3,2),(3,3)],0⟩),
 (262,⟨true,.cons (.int .i64) (.cons (.int .i64) (.cons (.int .i64) cNI)),[(3,0),(3,1),(3,2),(3,3)],0⟩),
 (264,⟨true,.cons (.int .i64) (.cons (.int .i64) (.cons (.int .i64) cNI)),[(3,0),(3,1),(3,2),(3,3)],0⟩),
 (265,⟨true,.cons (.int .i64) (.cons .bool (.cons (.int .i64) (.cons (.int .i64) (.cons (.int .i64) (.cons (.int .i64) cNI))))),[(3,0),(4,1),(137,2)],0⟩),
 (266,⟨true,.cons (.int .i64) (.cons .bool (.cons (.int .i64) (.cons (.int .i64) (.cons (.int .i64) (.cons (.int .i64) cNI))))),[(3,0),(4,1),(137,2)],0⟩),
 (268,⟨true,.cons (.int .i64) (.cons .bool (.cons (.int .i64) (.cons (.int .i64) (.cons (.int .i64) (.cons (.int .i64) cNI))))),[(3,0),(4,1),(215,2)],0⟩),
 (269,⟨true,.cons (.int .i64) (.cons .bool (.cons (.int .i64) (.cons (.int .i64) (.cons (.int .i64) (.cons (.int .i64) cNI))))),[(3,0),(4,1),(215,2)],0⟩),
 (273,⟨true,.cons (.int .i64) (.cons (.int .i64) (.cons (.int .i64) (.cons (.int .i64) (.cons (.int .i64) cNY)))),[(3,0),(3,1),(40,2)],0⟩),
 (274,⟨true,.cons (.int .i64) (.cons (.int .i64) (.cons (.int .i64) (.cons (.int .i64) (.cons (.int .i64) cNY)))),[(3,0),(3,1),(40,2)],0⟩),
 (275,⟨false,.one (.sl (.cons (.int .i64) (.cons (.int .i64) (.cons (.int .i64) (.cons (.int .i64) (.cons (.int .i64) cNY)))))),[],274⟩),
 (278,⟨true,.cons (.int .i64) (.cons (.int .i64) (.cons (.int .i64) (.cons (.int .i64) (.cons (.int .i64) cNY)))),[(3,0),(3,1),(40,2)],0⟩),
 (279,⟨true,.cons (.int .i64) (.cons (.int .i64) (.cons (.int .i64) (.cons (.int .i64) (.cons (.int .i64) cNY)))),[(3,0),(3,1),(40,2)],0⟩),
 (284,⟨true,cL1Cur,[(27,0),(3,1),(3,2)],0⟩),
 (285,⟨true,cL1Cur,[(27,0),(3,1),(3,2)],0⟩),
 (297,⟨false,.one (.sl cNN),[],32⟩),
 (301,⟨true,cVrow,[(3,0),(3,1),(3,2)],0⟩),
 (302,⟨true,cVrow,[(3,0),(3,1),(3,2)],0⟩),
 (318,⟨true,cVal,[(3,0),(3,1),(9,2),(32,3)],0⟩),
 (319,⟨true,cBind,[(32,0),(318,1)],0⟩),
 (320,⟨true,cBind,[(32,0),(318,1)],0⟩),
 (322,⟨true,cPt,[(4,0),(3,1),(4,2),(215,3)],0⟩),
 (323,⟨true,cPt,[(4,0),(3,1),(4,2),(215,3)],0⟩),
 (325,⟨true,cFent,[(3,0),(3,1),(3,2),(3,3),(4,4)],0⟩),
 (335,⟨false,.one (.int .u64),[],0⟩),
 (345,⟨true,cL4Reader,[(27,0),(3,1),(4,2)],0⟩),
 (346,⟨true,cL4Reader,[(27,0),(3,1),(4,2)],0⟩),
 (386,⟨true,cVrow,[(3,0),(3,1),(3,2)],0⟩),
 (389,⟨false,.one (.int .i8),[],0⟩),
 (420,⟨false,.one (.int .u32),[],0⟩),
 (421,⟨false,.one (.int .u8),[],0⟩),
 (422,⟨false,.one (.int .u8),[],0⟩),
 (425,⟨false,.one (.int .i32),[],0⟩),
 (426,⟨false,.one (.int .i32),[],0⟩)]
theorem tisT:Tis Tryz.prog tis:=Tis.of_all (by kernel_rfl)
theorem tisE:Eqs Tryz.prog tis:=Eqs.of_all (by kernel_rfl)
theorem tisD:Deep Tryz.prog tis:=Deep.of_all (by kernel_rfl)
theorem mixed:Tryz.prog.follows .mixedOrders = true:=by kernel_rfl
def codeOf (fn:Func):Code:=match fn.body with | some c=>c | none=>.skip
theorem pm:Good Tryz.prog ⟨tis,[],[],false⟩:=⟨tisT,tisE,(fun f F h=>by cases h),(fun f M h=>by cases h),(fun h=>by cases h)⟩
theorem mkR {l : List (FuncId × Fn)} (g : Good Tryz.prog ⟨tis, l, [], false⟩) (n : FuncId) (f : Func) (ann : List (Nat × LoopAnn)) (F : Fn) (h1 : Tryz.prog.funcs[n]? = some f) (h2 : (f.name == "runtime.NumGoroutine") = false := by kernel_rfl) (h3 : f.body = some (codeOf f) := by kernel_rfl) (h4 : fnDen ⟨tis, l, [], false⟩ ann f (codeOf f) F.ps F.rs = F.den := by kernel_rfl) : Meets Tryz.prog n F := by
 have h:=meets_of (ann:=ann) (ps:=F.ps) (rs:=F.rs) g mixed h1 h2 h3
 rw [h4] at h
 exact h
def Gd (l:List (FuncId × Fn)):Prop:=Good Tryz.prog ⟨tis,l,[],false⟩
theorem mkM {l : List (FuncId × Fn)} (g : Gd l) (n : FuncId) (f : Func) (ann : List (Nat × LoopAnn)) {F : Fn} (h1 : Tryz.prog.funcs[n]? = some f) (h2 : (f.name == "runtime.NumGoroutine") = false := by kernel_rfl) (h3 : f.body = some (codeOf f) := by kernel_rfl) (h4 : fnDen ⟨tis, l, [], false⟩ ann f (codeOf f) F.ps F.rs = F.den := by kernel_rfl) : Gd ((n, F) :: l) := Good.cons g (mkR g n f ann F h1 h2 h3 h4)
def gR (code0:List Int):Option Bool :=
 let t2:=decide ((code0.length:Int) > 1048576)
 some t2
def kN:List (FuncId × Fn):=(28,⟨[.val false cNY false],[.val false cNB (some true)],fun a=>gR a⟩) :: []
theorem po:Gd kN:=mkM pm 28 Tryz.f28 [] Tryz.func28
def cM (code0:List Int) (h3_1:Int) (i4:Int):Option ((Int × Int) ⊕ Int) :=
 (cond (decide (i4 < (code0.length:Int))) (some (decide (i4 < 4000))) (some false)).bind fun t15 =>
 cond t15
 ((at? code0 i4).bind fun x22 =>
 let h3_2:=band .i64 (w64 ((w64 ((w64 (h3_1 * 137)) + (w64 (x22)))) + 11)) 1073741823
 some (.inl (h3_2,w64 (i4 + 1))))
 (some (.inr h3_1))
def fE (code0:List Int):Option L1Cur :=
 let h3:=w64 (762762 + (code0.length:Int))
 (loop (fun z=>cM code0 z.1 z.2) (h3,0)).bind fun d =>
 some (code0,0,d)
def kO:List (FuncId × Fn):=(116,⟨[.val false cNY false],[.ptr cL1Cur none],fun a=>fE a⟩) :: kN
theorem pp:Gd kO:=mkM po 116 Tryz.f116 [(0,⟨⟨[(3,false,[dI]),(4,false,[dI]),(13,false,[.undef]),(14,false,[.undef])],[]⟩,
 ⟨[(3,false,[dI])],[]⟩,none⟩)] Tryz.func116
def ae (x0:Int) (least1:Int) (most2:Int):Option Bool :=
 (cond (decide (x0 ≥ least1)) (some (decide (x0 ≤ most2))) (some false)).bind fun t14 =>
 some t14
def kP:List (FuncId × Fn):=(146,⟨[.val false cNI false,.val false cNI false,.val false cNI false],[.val false cNB (some true)],fun a=>ae a.1 a.2.1 a.2.2⟩) :: kO
theorem pq:Gd kP:=mkM pp 146 Tryz.f146 [] Tryz.func146
def eS (v0:Vec):Option Bool :=
 (ae v0.1 1 99).bind fun t5 =>
 (cond t5
 ((ae v0.2.1 0 100000).bind fun t9 =>
 some t9)
 (some false)).bind fun t10 =>
 (cond t10
 ((ae v0.2.2.1 0 10).bind fun t14 =>
 some t14)
 (some false)).bind fun t15 =>
 (cond t15
 ((ae v0.2.2.2.1 1 99).bind fun t19 =>
 some t19)
 (some false)).bind fun t20 =>
 (cond t20
 ((ae v0.2.2.2.2 0 7).bind fun t24 =>
 some t24)
 (some false)).bind fun t25 =>
 some t25
def kQ:List (FuncId × Fn):=(302,⟨[.val true cVec false],[.val false cNB (some true)],fun a=>eS a⟩) :: kP
theorem pr:Gd kQ:=mkM pq 302 Tryz.f302 [] Tryz.func302
def eT (p0:Pt):Option Bool :=
 (ae p0.2.1 1 1000).bind fun t5 =>
 (cond (!t5)
 (some true)
 ((cond (!p0.1) (some p0.2.2.1) (some false)).bind fun t14 =>
 some t14)).bind fun t15 =>
 cond t15
 (some false)
 (cond (!p0.2.2.1)
 (let t2:=p0.2.2.2.1 == 0 && (p0.2.2.2.2.1 == 0 && (p0.2.2.2.2.2.1 == 0 && (p0.2.2.2.2.2.2.1 == 0 && (p0.2.2.2.2.2.2.2 == 0))))
 some t2)
 ((eS p0.2.2.2).bind fun t25 =>
 some t25))
def kR:List (FuncId × Fn):=(203,⟨[.val true cPt false],[.val false cNB (some true)],fun a=>eT a⟩) :: kQ
theorem pu:Gd kR:=mkM pr 203 Tryz.f203 [] Tryz.func203
def cN (e0:Fent):Option Bool :=
 (ae e0.1 1 99).bind fun t5 =>
 (cond t5
 ((ae e0.2.1 1 9999).bind fun t9 =>
 some t9)
 (some false)).bind fun t10 =>
 (cond t10
 ((ae e0.2.2.1 0 7).bind fun t14 =>
 some t14)
 (some false)).bind fun t15 =>
 (cond t15
 ((ae e0.2.2.2.1 0 4).bind fun t19 =>
 some t19)
 (some false)).bind fun t20 =>
 (cond t20
 ((cond (!e0.2.2.2.2) (some true) (some (e0.2.2.2.1 == 0))).bind fun t29 =>
 some t29)
 (some false)).bind fun t30 =>
 some t30
def kS:List (FuncId × Fn):=(303,⟨[.val true cFent false],[.val false cNB (some true)],fun a=>cN a⟩) :: kR
theorem pv:Gd kS:=mkM pu 303 Tryz.f303 [] Tryz.func303
def bZ (e0:Fent) (tag1:Int) (mac2:Int):Option Bool :=
 cond (e0.1 != tag1) (some (decide (e0.1 < tag1))) (some (decide (e0.2.1 < mac2)))
def kT:List (FuncId × Fn):=(304,⟨[.val true cFent false,.val false cNI false,.val false cNI false],[.val false cNB (some true)],fun a=>bZ a.1 a.2.1 a.2.2⟩) :: kS
theorem pw:Gd kT:=mkM pv 304 Tryz.f304 [] Tryz.func304
def gT (l0:List Fent) (i3:Int):Option (Int ⊕ (Unit ⊕ Bool)) :=
 cond (decide (i3 < (l0.length:Int)))
 ((at? l0 i3).bind fun x12 =>
 (cN x12).bind fun t14 =>
 (cond (!t14)
 (some true)
 ((cond (decide (i3 > 0))
 ((at? l0 (w64 (i3 - 1))).bind fun x23 =>
 (at? l0 i3).bind fun x27 =>
 (at? l0 i3).bind fun x32 =>
 (bZ x23 x27.1 x32.2.1).bind fun t35 =>
 some (!t35))
 (some false)).bind fun t37 =>
 some t37)).bind fun t38 =>
 cond t38 (some (.inr (.inr false))) (some (.inl (w64 (i3 + 1)))))
 (some (.inr (.inl ())))
def cO (l0:List Fent):Option Bool :=
 (loop (fun z=>gT l0 z) 0).bind (Sum.elim (fun d =>
 let t2:=decide ((l0.length:Int) ≤ 12)
 some t2) (fun r=>some r))
def kU:List (FuncId × Fn):=(204,⟨[.val false (.one (.sl cFent)) false],[.val false cNB (some true)],fun a=>cO a⟩) :: kT
theorem pz:Gd kU:=mkM pw 204 Tryz.f204 [(0,⟨⟨(3,false,[dI]) :: us 17 21 [],[]⟩,
 ⟨[],[]⟩,some ⟨[(2,false,[dB])],[]⟩⟩)] Tryz.func204
def pA (v0:Vtab) (id1:Int) (i5:Int):Option (Int ⊕ (Unit ⊕ Int)) :=
 cond (decide (i5 < (v0.1.length:Int)))
 ((at? v0.1 i5).bind fun x16 =>
 cond (x16.1 == id1) (some (.inr (.inr i5))) (some (.inl (w64 (i5 + 1)))))
 (some (.inr (.inl ())))
def bo (v0:Vtab) (id1:Int):Option Int :=
 (loop (fun z=>pA v0 id1 z) 0).bind (Sum.elim (fun d =>
 some (-1)) (fun r=>some r))
def kV:List (FuncId × Fn):=(305,⟨[.val true cVtab false,.val false cNI false],[.val false cNI (some true)],fun a=>bo a.1 a.2⟩) :: kU
theorem pB:Gd kV:=mkM pz 305 Tryz.f305 [(0,⟨⟨[(5,false,[dI])],[]⟩,
 ⟨[],[]⟩,some ⟨[(4,false,[dI])],[]⟩⟩)] Tryz.func305
def gU (p0:Vtab) (t27:Int) (t6:Int):Option (Int ⊕ (Unit ⊕ Bool)) :=
 cond (decide (t6 < (p0.1.length:Int)))
 ((at? p0.1 t6).bind fun x39 =>
 (ae x39.1 1 99).bind fun t43 =>
 (cond (!t43)
 (some true)
 ((ae x39.2.1 0 (w64 (t27 - 1))).bind fun t49 =>
 some (!t49))).bind fun t51 =>
 (cond t51
 (some true)
 ((ae x39.2.2 0 (w64 (t27 - 1))).bind fun t56 =>
 some (!t56))).bind fun t58 =>
 (cond t58 (some true) (some ((band .i64 x39.2.2 x39.2.1) != x39.2.2))).bind fun t68 =>
 (cond t68
 (some true)
 ((cond (decide (t6 > 0))
 ((at? p0.1 (w64 (t6 - 1))).bind fun x77 =>
 some (decide (x77.1 ≥ x39.1)))
 (some false)).bind fun t83 =>
 some t83)).bind fun t84 =>
 cond t84 (some (.inr (.inr false))) (some (.inl (w64 (t6 + 1)))))
 (some (.inr (.inl ())))
def kW (p0:Vtab) (t8:Int):Option (Int ⊕ (Unit ⊕ Bool)) :=
 cond (decide (t8 < (p0.2.length:Int)))
 ((at? p0.2 t8).bind fun x96 =>
 (bo p0 x96).bind fun t98 =>
 cond (decide (t98 < 0)) (some (.inr (.inr false))) (some (.inl (w64 (t8 + 1)))))
 (some (.inr (.inl ())))
def aN (p0:Vtab) (i1:Int):Option Bool :=
 (ae i1 1 6).bind fun t10 =>
 (cond (!t10) (some true) (some ((p0.2.length:Int) != i1))).bind fun t18 =>
 (cond t18 (some true) (some (decide ((p0.1.length:Int) > 6)))).bind fun t24 =>
 cond t24
 (some false)
 ((shl .i64 1 (IntKind.u64.wrap (i1))).bind fun t27 =>
 (loop (fun z=>gU p0 t27 z) 0).bind (Sum.elim (fun d =>
 (loop (fun z=>kW p0 z) 0).bind (Sum.elim (fun d_1 =>
 some true) (fun r=>some r))) (fun r_1=>some r_1)))
def kX:List (FuncId × Fn):=(205,⟨[.val true cVtab false,.val false cNI false],[.val false cNB (some true)],fun a=>aN a.1 a.2⟩) :: kV
theorem pC:Gd kX:=mkM pB 205 Tryz.f205 [(0,⟨⟨(6,false,[dI]) :: us 46 5 (us 53 5 (us 60 8 (us 70 14 []))),[]⟩,
 ⟨[],[]⟩,some ⟨[(4,false,[dB])],[]⟩⟩),
 (2,⟨⟨[(8,false,[dI])],[]⟩,
 ⟨[],[]⟩,some ⟨[(4,false,[dB])],[]⟩⟩)] Tryz.func205
def ge (b0:Bridge):Option Bool :=
 (ae b0.2.2.2.2.2.2.1 0 1000000).bind fun t5 =>
 (cond t5
 ((ae b0.2.2.2.2.2.2.2.1 0 1000000).bind fun t9 =>
 some t9)
 (some false)).bind fun t10 =>
 (cond t10
 ((ae b0.2.2.2.2.2.2.2.2.1 0 1000000).bind fun t14 =>
 some t14)
 (some false)).bind fun t15 =>
 (cond t15
 ((ae b0.2.2.2.2.2.2.2.2.2.1 0 1000000).bind fun t19 =>
 some t19)
 (some false)).bind fun t20 =>
 (cond t20
 ((ae b0.2.2.2.2.2.2.2.2.2.2 0 1000000).bind fun t24 =>
 some t24)
 (some false)).bind fun t25 =>
 some t25
def kY:List (FuncId × Fn):=(206,⟨[.val true cBridge false],[.val false cNB (some true)],fun a=>ge a⟩) :: kX
theorem pD:Gd kY:=mkM pC 206 Tryz.f206 [] Tryz.func206
def gV (b0:Bridge) (i3:Int):Option (Int ⊕ (Unit ⊕ Bool)) :=
 cond (decide (i3 < (b0.2.2.1.length:Int)))
 ((at? b0.2.2.1 i3).bind fun x14 =>
 (eT x14).bind fun t16 =>
 cond (!t16) (some (.inr (.inr false))) (some (.inl (w64 (i3 + 1)))))
 (some (.inr (.inl ())))
def aR (b0:Bridge):Option Bool :=
 (loop (fun z=>gV b0 z) 0).bind (Sum.elim (fun d =>
 (ae b0.1 1 99).bind fun t20 =>
 (cond t20 (some (decide ((b0.2.1.length:Int) ≤ 10))) (some false)).bind fun t26 =>
 (cond t26
 ((ae (b0.2.2.1.length:Int) 1 6).bind fun t31 =>
 some t31)
 (some false)).bind fun t32 =>
 (cond t32
 ((cO b0.2.2.2.1).bind fun t36 =>
 some t36)
 (some false)).bind fun t37 =>
 (cond t37
 ((aN (b0.2.2.2.2.1,b0.2.2.2.2.2.1) (b0.2.2.1.length:Int)).bind fun t44 =>
 some t44)
 (some false)).bind fun t45 =>
 (cond t45
 ((ge b0).bind fun t48 =>
 some t48)
 (some false)).bind fun t49 =>
 some t49) (fun r=>some r))
def kZ:List (FuncId × Fn):=(92,⟨[.val true cBridge false],[.val false cNB (some true)],fun a=>aR a⟩) :: kY
theorem pE:Gd kZ:=mkM pD 92 Tryz.f92 [(0,⟨⟨[(3,false,[dI])],[]⟩,
 ⟨[],[]⟩,some ⟨[(2,false,[dB])],[]⟩⟩)] Tryz.func92
def aw (n0:Int):Option Int :=
 cond (decide (n0 > 2147483647))
 (some 2147483647)
 (cond (decide (n0 < (-2147483648))) (some (-2147483648)) (some n0))
def l6:List (FuncId × Fn):=(263,⟨[.val false cNI false],[.val false cNI (some true)],fun a=>aw a⟩) :: kZ
theorem pF:Gd l6:=mkM pE 263 Tryz.f263 [] Tryz.func263
def pG (o0:List Int) (i3:Int):Option (Int ⊕ (Unit ⊕ Bool)) :=
 cond (decide (i3 < (o0.length:Int)))
 ((at? o0 i3).bind fun x12 =>
 (ae x12 0 100000).bind fun t14 =>
 cond (!t14) (some (.inr (.inr false))) (some (.inl (w64 (i3 + 1)))))
 (some (.inr (.inl ())))
def bE (o0:List Int):Option Bool :=
 (loop (fun z=>pG o0 z) 0).bind (Sum.elim (fun d =>
 (ae (o0.length:Int) 1 10).bind fun t18 =>
 some t18) (fun r=>some r))
def l7:List (FuncId × Fn):=(351,⟨[.val false cNN false],[.val false cNB (some true)],fun a=>bE a⟩) :: l6
theorem pH:Gd l7:=mkM pF 351 Tryz.f351 [(0,⟨⟨[(3,false,[dI])],[]⟩,
 ⟨[],[]⟩,some ⟨[(2,false,[dB])],[]⟩⟩)] Tryz.func351
def bp (p0:Val):Option Bool :=
 cond (p0.1 == 5)
 (cond (p0.1 == 5)
 ((cond (p0.2.1 == 0) (some (p0.2.2.1 == [])) (some false)).bind fun t16 =>
 (cond t16 (some ((p0.2.2.2.length:Int) == 0)) (some false)).bind fun t22 =>
 some t22)
 (cond (p0.1 == 2)
 ((aw p0.2.1).bind fun t27 =>
 (cond (t27 == p0.2.1) (some (p0.2.2.1 == [])) (some false)).bind fun t35 =>
 (cond t35 (some ((p0.2.2.2.length:Int) == 0)) (some false)).bind fun t41 =>
 some t41)
 (cond (p0.1 == 4)
 ((cond (decide ((p0.2.2.1.length:Int) ≤ 20)) (some (p0.2.1 == 0)) (some false)).bind fun t52 =>
 (cond t52 (some ((p0.2.2.2.length:Int) == 0)) (some false)).bind fun t58 =>
 some t58)
 (cond (p0.1 == 6)
 ((bE p0.2.2.2).bind fun t63 =>
 (cond t63 (some (p0.2.1 == 0)) (some false)).bind fun t68 =>
 (cond t68 (some (p0.2.2.1 == [])) (some false)).bind fun t73 =>
 some t73)
 (some false)))))
 (cond (p0.1 == 128)
 (cond (p0.1 == 128)
 ((cond (p0.2.1 == 0) (some (p0.2.2.1 == [])) (some false)).bind fun t16_1 =>
 (cond t16_1 (some ((p0.2.2.2.length:Int) == 0)) (some false)).bind fun t22_1 =>
 some t22_1)
 (cond (p0.1 == 2)
 ((aw p0.2.1).bind fun t27_1 =>
 (cond (t27_1 == p0.2.1) (some (p0.2.2.1 == [])) (some false)).bind fun t35_1 =>
 (cond t35_1 (some ((p0.2.2.2.length:Int) == 0)) (some false)).bind fun t41_1 =>
 some t41_1)
 (cond (p0.1 == 4)
 ((cond (decide ((p0.2.2.1.length:Int) ≤ 20)) (some (p0.2.1 == 0)) (some false)).bind fun t52_1 =>
 (cond t52_1 (some ((p0.2.2.2.length:Int) == 0)) (some false)).bind fun t58_1 =>
 some t58_1)
 (cond (p0.1 == 6)
 ((bE p0.2.2.2).bind fun t63_1 =>
 (cond t63_1 (some (p0.2.1 == 0)) (some false)).bind fun t68_1 =>
 (cond t68_1 (some (p0.2.2.1 == [])) (some false)).bind fun t73_1 =>
 some t73_1)
 (some false)))))
 (cond (p0.1 == 130)
 ((cond (p0.2.1 == 0) (some (p0.2.2.1 == [])) (some false)).bind fun t16_2 =>
 (cond t16_2 (some ((p0.2.2.2.length:Int) == 0)) (some false)).bind fun t22_2 =>
 some t22_2)
 (cond (p0.1 == 2)
 ((aw p0.2.1).bind fun t27_2 =>
 (cond (t27_2 == p0.2.1) (some (p0.2.2.1 == [])) (some false)).bind fun t35_2 =>
 (cond t35_2 (some ((p0.2.2.2.length:Int) == 0)) (some false)).bind fun t41_2 =>
 some t41_2)
 (cond (p0.1 == 4)
 ((cond (decide ((p0.2.2.1.length:Int) ≤ 20)) (some (p0.2.1 == 0)) (some false)).bind fun t52_2 =>
 (cond t52_2 (some ((p0.2.2.2.length:Int) == 0)) (some false)).bind fun t58_2 =>
 some t58_2)
 (cond (p0.1 == 6)
 ((bE p0.2.2.2).bind fun t63_2 =>
 (cond t63_2 (some (p0.2.1 == 0)) (some false)).bind fun t68_2 =>
 (cond t68_2 (some (p0.2.2.1 == [])) (some false)).bind fun t73_2 =>
 some t73_2)
 (some false))))))
def l8:List (FuncId × Fn):=(352,⟨[.val true cVal false],[.val false cNB (some true)],fun a=>bp a⟩) :: l7
theorem pI:Gd l8:=mkM pH 352 Tryz.f352 [] Tryz.func352
def gW (k0:Int):Option Bool :=
 (cond (k0 == 160) (some true) (some (k0 == 161))).bind fun t8 =>
 (cond t8 (some true) (some (k0 == 162))).bind fun t12 =>
 (cond t12 (some true) (some (k0 == 163))).bind fun t16 =>
 (cond t16 (some true) (some (k0 == 165))).bind fun t20 =>
 some t20
def l9:List (FuncId × Fn):=(353,⟨[.val false cNI false],[.val false cNB (some true)],fun a=>gW a⟩) :: l8
theorem pJ:Gd l9:=mkM pI 353 Tryz.f353 [] Tryz.func353
def gg (p0:Pdu) (t3:Int):Option (Int ⊕ (Unit ⊕ Bool)) :=
 cond (decide (t3 < (p0.2.2.2.2.length:Int)))
 ((at? p0.2.2.2.2 t3).bind fun x14 =>
 (bE x14.1).bind fun t17 =>
 (cond (!t17)
 (some true)
 ((at? p0.2.2.2.2 t3).bind fun x23 =>
 (bp x23.2).bind fun t26 =>
 some (!t26))).bind fun t28 =>
 cond t28 (some (.inr (.inr false))) (some (.inl (w64 (t3 + 1)))))
 (some (.inr (.inl ())))
def bG (p0:Pdu):Option Bool :=
 (loop (fun z=>gg p0 z) 0).bind (Sum.elim (fun d =>
 (cond (p0.1 != 162) (some (p0.1 != 165)) (some false)).bind fun t36 =>
 (cond t36
 ((cond (p0.2.2.1 != 0) (some true) (some (p0.2.2.2.1 != 0))).bind fun t45 =>
 some t45)
 (some false)).bind fun t46 =>
 cond t46
 (some false)
 ((gW p0.1).bind fun t49 =>
 (cond t49
 ((aw p0.2.1).bind fun t53 =>
 some (t53 == p0.2.1))
 (some false)).bind fun t57 =>
 (cond t57
 ((ae p0.2.2.1 0 1000).bind fun t61 =>
 some t61)
 (some false)).bind fun t62 =>
 (cond t62
 ((ae p0.2.2.2.1 0 1000).bind fun t66 =>
 some t66)
 (some false)).bind fun t67 =>
 (cond t67 (some (decide ((p0.2.2.2.2.length:Int) ≤ 10))) (some false)).bind fun t73 =>
 some t73)) (fun r=>some r))
def lb:List (FuncId × Fn):=(240,⟨[.val true cPdu false],[.val false cNB (some true)],fun a=>bG a⟩) :: l9
theorem pK:Gd lb:=mkM pJ 240 Tryz.f240 [(0,⟨⟨(3,false,[dI]) :: us 20 8 [],[]⟩,
 ⟨[],[]⟩,some ⟨[(2,false,[dB])],[]⟩⟩)] Tryz.func240
def gX (p0:Pdu):Option Bool :=
 (bG p0).bind fun t4 =>
 (cond t4 (some (p0.1 != 162)) (some false)).bind fun t9 =>
 some t9
def lc:List (FuncId × Fn):=(301,⟨[.val true cPdu false],[.val false cNB (some true)],fun a=>gX a⟩) :: lb
theorem pL:Gd lc:=mkM pK 301 Tryz.f301 [] Tryz.func301
def eU (j0:Job) (last1:Int):Option Bool :=
 (ae j0.1 1 last1).bind fun t8 =>
 (cond (!t8)
 (some true)
 ((ae j0.2.2.1 0 2).bind fun t13 =>
 some (!t13))).bind fun t15 =>
 (cond t15
 (some true)
 ((ae j0.2.2.2.2.2.2.2.2.2.2.2.2.2.2.2.2.2.2.2.2 0 3).bind fun t19 =>
 some (!t19))).bind fun t21 =>
 (cond t21
 (some true)
 ((ae j0.2.2.2.2.2.2.2.2.2.2.2.2.2.2.2.2.2.2.2.1 0 (j0.2.2.2.2.2.2.2.1.length:Int)).bind fun t29 =>
 some (!t29))).bind fun t31 =>
 cond t31
 (some false)
 ((cond (j0.2.2.1 == 0)
 (some true)
 ((gX (j0.2.2.2.1,j0.2.2.2.2.1,j0.2.2.2.2.2.1,j0.2.2.2.2.2.2.1,j0.2.2.2.2.2.2.2.1)).bind fun t38 =>
 (cond t38
 ((aR (j0.2.2.2.2.2.2.2.2.1,j0.2.2.2.2.2.2.2.2.2.1,j0.2.2.2.2.2.2.2.2.2.2.1,j0.2.2.2.2.2.2.2.2.2.2.2.1,j0.2.2.2.2.2.2.2.2.2.2.2.2.1,j0.2.2.2.2.2.2.2.2.2.2.2.2.2.1,j0.2.2.2.2.2.2.2.2.2.2.2.2.2.2.1,j0.2.2.2.2.2.2.2.2.2.2.2.2.2.2.2.1,j0.2.2.2.2.2.2.2.2.2.2.2.2.2.2.2.2.1,j0.2.2.2.2.2.2.2.2.2.2.2.2.2.2.2.2.2.1,j0.2.2.2.2.2.2.2.2.2.2.2.2.2.2.2.2.2.2.1)).bind fun t42 =>
 some t42)
 (some false)).bind fun t43 =>
 some t43)).bind fun t44 =>
 some t44)
def ld:List (FuncId × Fn):=(200,⟨[.val true cJob false,.val false cNI false],[.val false cNB (some true)],fun a=>eU a.1 a.2⟩) :: lc
theorem pM:Gd ld:=mkM pL 200 Tryz.f200 [] Tryz.func200
def gY (p0:Agent) (t3:Int):Option (Int ⊕ (Unit ⊕ Bool)) :=
 cond (decide (t3 < (p0.2.2.2.2.2.2.2.2.2.2.2.2.1.length:Int)))
 ((at? p0.2.2.2.2.2.2.2.2.2.2.2.2.1 t3).bind fun x14 =>
 (eU x14 p0.2.2.2.2.2.2.2.2.2.2.2.2.2.2).bind fun t18 =>
 (cond (!t18)
 (some true)
 ((cond (decide (t3 > 0))
 ((at? p0.2.2.2.2.2.2.2.2.2.2.2.2.1 (w64 (t3 - 1))).bind fun x28 =>
 (at? p0.2.2.2.2.2.2.2.2.2.2.2.2.1 t3).bind fun x34 =>
 some (decide (x28.1 ≥ x34.1)))
 (some false)).bind fun t38 =>
 some t38)).bind fun t39 =>
 cond t39 (some (.inr (.inr false))) (some (.inl (w64 (t3 + 1)))))
 (some (.inr (.inl ())))
def cE (p0:Agent):Option Bool :=
 (loop (fun z=>gY p0 z) 0).bind (Sum.elim (fun d =>
 (aR (p0.1,p0.2.1,p0.2.2.1,p0.2.2.2.1,p0.2.2.2.2.1,p0.2.2.2.2.2.1,p0.2.2.2.2.2.2.1,p0.2.2.2.2.2.2.2.1,p0.2.2.2.2.2.2.2.2.1,p0.2.2.2.2.2.2.2.2.2.1,p0.2.2.2.2.2.2.2.2.2.2.1)).bind fun t42 =>
 (cond t42
 (some (decide ((p0.2.2.2.2.2.2.2.2.2.2.2.1.length:Int) ≤ 20)))
 (some false)).bind fun t48 =>
 (cond t48
 (some (decide ((p0.2.2.2.2.2.2.2.2.2.2.2.2.1.length:Int) ≤ 6)))
 (some false)).bind fun t54 =>
 (cond t54
 ((ae p0.2.2.2.2.2.2.2.2.2.2.2.2.2.1 0 1000000).bind fun t58 =>
 some t58)
 (some false)).bind fun t59 =>
 (cond t59
 ((ae p0.2.2.2.2.2.2.2.2.2.2.2.2.2.2 0 1000000).bind fun t63 =>
 some t63)
 (some false)).bind fun t64 =>
 some t64) (fun r=>some r))
def lf:List (FuncId × Fn):=(85,⟨[.val true cAgent false],[.val false cNB (some true)],fun a=>cE a⟩) :: ld
theorem pN:Gd lf:=mkM pM 85 Tryz.f85 [(0,⟨⟨(3,false,[dI]) :: us 21 18 [],[]⟩,
 ⟨[],[]⟩,some ⟨[(2,false,[dB])],[]⟩⟩)] Tryz.func85
def ca (l0:List Fent):Option (List Fent) :=
 (app ([]:List Fent) l0).bind fun zs5 =>
 some zs5
def lg:List (FuncId × Fn):=(241,⟨[.val false (.one (.sl cFent)) false],[.val false (.one (.sl cFent)) (some true)],fun a=>ca a⟩) :: lf
theorem pO:Gd lg:=mkM pN 241 Tryz.f241 [] Tryz.func241
def aO (v0:Vtab):Option Vtab :=
 (app ([]:List Vrow) v0.1).bind fun zs6 =>
 (app ([]:List Int) v0.2).bind fun zs10 =>
 some (zs6,zs10)
def lh:List (FuncId × Fn):=(242,⟨[.val true cVtab false],[.val true cVtab (some true)],fun a=>aO a⟩) :: lg
theorem pP:Gd lh:=mkM pO 242 Tryz.f242 [] Tryz.func242
def am (b0:Bridge):Option Bridge :=
 (app ([]:List Pt) b0.2.2.1).bind fun zs8 =>
 (ca b0.2.2.2.1).bind fun t12 =>
 (aO (b0.2.2.2.2.1,b0.2.2.2.2.2.1)).bind fun t16 =>
 some (b0.1,b0.2.1,zs8,t12,t16.1,t16.2,b0.2.2.2.2.2.2.1,b0.2.2.2.2.2.2.2.1,b0.2.2.2.2.2.2.2.2.1,b0.2.2.2.2.2.2.2.2.2.1,b0.2.2.2.2.2.2.2.2.2.2)
def lj:List (FuncId × Fn):=(126,⟨[.val true cBridge false],[.val true cBridge (some true)],fun a=>am a⟩) :: lh
theorem pQ:Gd lj:=mkM pP 126 Tryz.f126 [] Tryz.func126
def dL (l0:List Bind) (i4:Int) (out3:List Bind):Option ((Int × List Bind) ⊕ (List Bind)) :=
 cond (decide (i4 < (l0.length:Int)))
 ((at? l0 i4).bind fun x15 =>
 (app ([]:List Int) x15.2.2.2.2).bind fun zs21 =>
 (at? l0 i4).bind fun x27 =>
 (app ([]:List Int) x27.1).bind fun zs30 =>
 (app out3 [(zs30,x15.2.1,x15.2.2.1,x15.2.2.2.1,zs21)]).bind fun zs34 =>
 some (.inl (w64 (i4 + 1),zs34)))
 (some (.inr out3))
def cP (l0:List Bind):Option (List Bind) :=
 (loop (fun z=>dL l0 z.1 z.2) (0,([]:List Bind))).bind fun d =>
 some d
def lk:List (FuncId × Fn):=(128,⟨[.val false (.one (.sl cBind)) false],[.val false (.one (.sl cBind)) (some true)],fun a=>cP a⟩) :: lj
theorem pR:Gd lk:=mkM pQ 128 Tryz.f128 [(0,⟨⟨[(3,false,[.own 1000000000]),(4,false,[dI])],[(1000000000,.root cBind true)]⟩,
 ⟨[(3,false,[.own 1000000300])],[(1000000300,.root cBind true)]⟩,none⟩)] Tryz.func128
def eV (p0:Pdu):Option Pdu :=
 (cP p0.2.2.2.2).bind fun t7 =>
 some (p0.1,p0.2.1,p0.2.2.1,p0.2.2.2.1,t7)
def ll:List (FuncId × Fn):=(297,⟨[.val true cPdu false],[.val true cPdu (some true)],fun a=>eV a⟩) :: lk
theorem pS:Gd ll:=mkM pR 297 Tryz.f297 [] Tryz.func297
def eW (a0:Agent) (i4:Int) (b0:Int) (b1:List UInt8) (b6:Int) (b7:Int) (b8:Int) (b9:Int) (b10:Int) (b11:List UInt8) (b13:Int) (b14:Int) (b12:List Job):Option ((Int × Int × List UInt8 × Int × Int × Int × Int × Int × List UInt8 × Int × Int × List Job) ⊕ (Int × List UInt8 × Int × Int × Int × Int × Int × List UInt8 × Int × Int × List Job)) :=
 cond (decide (i4 < (a0.2.2.2.2.2.2.2.2.2.2.2.2.1.length:Int)))
 ((at? a0.2.2.2.2.2.2.2.2.2.2.2.2.1 i4).bind fun x26 =>
 (app ([]:List Int) x26.2.1).bind fun zs31 =>
 (eV (x26.2.2.2.1,x26.2.2.2.2.1,x26.2.2.2.2.2.1,x26.2.2.2.2.2.2.1,x26.2.2.2.2.2.2.2.1)).bind fun t35 =>
 (am (x26.2.2.2.2.2.2.2.2.1,x26.2.2.2.2.2.2.2.2.2.1,x26.2.2.2.2.2.2.2.2.2.2.1,x26.2.2.2.2.2.2.2.2.2.2.2.1,x26.2.2.2.2.2.2.2.2.2.2.2.2.1,x26.2.2.2.2.2.2.2.2.2.2.2.2.2.1,x26.2.2.2.2.2.2.2.2.2.2.2.2.2.2.1,x26.2.2.2.2.2.2.2.2.2.2.2.2.2.2.2.1,x26.2.2.2.2.2.2.2.2.2.2.2.2.2.2.2.2.1,x26.2.2.2.2.2.2.2.2.2.2.2.2.2.2.2.2.2.1,x26.2.2.2.2.2.2.2.2.2.2.2.2.2.2.2.2.2.2.1)).bind fun t39 =>
 (app b12 [(x26.1,zs31,x26.2.2.1,t35.1,t35.2.1,t35.2.2.1,t35.2.2.2.1,t35.2.2.2.2,t39.1,t39.2.1,t39.2.2.1,t39.2.2.2.1,t39.2.2.2.2.1,t39.2.2.2.2.2.1,t39.2.2.2.2.2.2.1,t39.2.2.2.2.2.2.2.1,t39.2.2.2.2.2.2.2.2.1,t39.2.2.2.2.2.2.2.2.2.1,t39.2.2.2.2.2.2.2.2.2.2,x26.2.2.2.2.2.2.2.2.2.2.2.2.2.2.2.2.2.2.2.1,x26.2.2.2.2.2.2.2.2.2.2.2.2.2.2.2.2.2.2.2.2)]).bind fun zs45 =>
 some (.inl (w64 (i4 + 1),b0,b1,b6,b7,b8,b9,b10,b11,b13,b14,zs45)))
 (some (.inr (b0,b1,b6,b7,b8,b9,b10,b11,b13,b14,b12)))
def eX (a0:Agent):Option Agent :=
 (am (a0.1,a0.2.1,a0.2.2.1,a0.2.2.2.1,a0.2.2.2.2.1,a0.2.2.2.2.2.1,a0.2.2.2.2.2.2.1,a0.2.2.2.2.2.2.2.1,a0.2.2.2.2.2.2.2.2.1,a0.2.2.2.2.2.2.2.2.2.1,a0.2.2.2.2.2.2.2.2.2.2.1)).bind fun t8 =>
 (loop (fun z=>eW a0 z.1 z.2.1 z.2.2.1 z.2.2.2.1 z.2.2.2.2.1 z.2.2.2.2.2.1 z.2.2.2.2.2.2.1 z.2.2.2.2.2.2.2.1 z.2.2.2.2.2.2.2.2.1 z.2.2.2.2.2.2.2.2.2.1 z.2.2.2.2.2.2.2.2.2.2.1 z.2.2.2.2.2.2.2.2.2.2.2) (0,t8.1,t8.2.1,t8.2.2.2.2.2.2.1,t8.2.2.2.2.2.2.2.1,t8.2.2.2.2.2.2.2.2.1,t8.2.2.2.2.2.2.2.2.2.1,t8.2.2.2.2.2.2.2.2.2.2,a0.2.2.2.2.2.2.2.2.2.2.2.1,a0.2.2.2.2.2.2.2.2.2.2.2.2.2.1,a0.2.2.2.2.2.2.2.2.2.2.2.2.2.2,[])).bind fun d =>
 some (d.1,d.2.1,t8.2.2.1,t8.2.2.2.1,t8.2.2.2.2.1,t8.2.2.2.2.2.1,d.2.2.1,d.2.2.2.1,d.2.2.2.2.1,d.2.2.2.2.2.1,d.2.2.2.2.2.2.1,d.2.2.2.2.2.2.2.1,d.2.2.2.2.2.2.2.2.2.2,d.2.2.2.2.2.2.2.2.1,d.2.2.2.2.2.2.2.2.2.1)
def lm:List (FuncId × Fn):=(195,⟨[.val true cAgent false],[.val true cAgent (some true)],fun a=>eX a⟩) :: ll
theorem pT:Gd lm:=mkM pS 195 Tryz.f195 [(0,⟨⟨[(4,false,[dI])],[(273408,.box [dI,dS,.same 265218,.same 265219,.same 265220,.same 265221,dI,dI,dI,dI,dI,dS,.own 1000000000,dI,dI]),(1000000000,.root cJob true)]⟩,
 ⟨[],[(273408,.box [dI,dS,.same 265218,.same 265219,.same 265220,.same 265221,dI,dI,dI,dI,dI,dS,.own 1000000300,dI,dI]),(1000000300,.root cJob true)]⟩,none⟩)] Tryz.func195
def aZ (n0:Int):Option Int :=
 cond (decide (n0 ≥ 1000000)) (some n0) (some (w64 (n0 + 1)))
def ln:List (FuncId × Fn):=(196,⟨[.val false cNI false],[.val false cNI (some true)],fun a=>aZ a⟩) :: lm
theorem pU:Gd ln:=mkM pT 196 Tryz.f196 [] Tryz.func196
def bM (a0:Agent) (b1:List Int):Option Agent :=
 (eX a0).bind fun t7 =>
 (cE a0).bind fun t9 =>
 (cond (!t9)
 (some true)
 (some (decide ((a0.2.2.2.2.2.2.2.2.2.2.2.2.1.length:Int) ≥ 6)))).bind fun t16 =>
 (cond t16
 (some true)
 (some (decide (a0.2.2.2.2.2.2.2.2.2.2.2.2.2.2 ≥ 1000000)))).bind fun t21 =>
 cond t21
 ((cE a0).bind fun t23 =>
 cond t23
 ((aZ a0.2.2.2.2.2.2.2.2.2.2.2.2.2.1).bind fun t26 =>
 some (t7.1,t7.2.1,t7.2.2.1,t7.2.2.2.1,t7.2.2.2.2.1,t7.2.2.2.2.2.1,t7.2.2.2.2.2.2.1,t7.2.2.2.2.2.2.2.1,t7.2.2.2.2.2.2.2.2.1,t7.2.2.2.2.2.2.2.2.2.1,t7.2.2.2.2.2.2.2.2.2.2.1,t7.2.2.2.2.2.2.2.2.2.2.2.1,t7.2.2.2.2.2.2.2.2.2.2.2.2.1,t26,t7.2.2.2.2.2.2.2.2.2.2.2.2.2.2))
 (some t7))
 ((app ([]:List Int) b1).bind fun zs39 =>
 (app t7.2.2.2.2.2.2.2.2.2.2.2.2.1 ([(w64 (a0.2.2.2.2.2.2.2.2.2.2.2.2.2.2 + 1),zs39,0,0,0,0,0,[],0,[],[],[],[],[],0,0,0,0,0,0,0)])).bind fun zs42 =>
 some (t7.1,t7.2.1,t7.2.2.1,t7.2.2.2.1,t7.2.2.2.2.1,t7.2.2.2.2.2.1,t7.2.2.2.2.2.2.1,t7.2.2.2.2.2.2.2.1,t7.2.2.2.2.2.2.2.2.1,t7.2.2.2.2.2.2.2.2.2.1,t7.2.2.2.2.2.2.2.2.2.2.1,t7.2.2.2.2.2.2.2.2.2.2.2.1,zs42,t7.2.2.2.2.2.2.2.2.2.2.2.2.2.1,w64 (a0.2.2.2.2.2.2.2.2.2.2.2.2.2.2 + 1)))
def lp:List (FuncId × Fn):=(72,⟨[.val true cAgent false,.val false cNY false],[.val true cAgent (some true)],fun a=>bM a.1 a.2⟩) :: ln
theorem pV:Gd lp:=mkM pU 72 Tryz.f72 [] Tryz.func72
def gZ (b0:Bridge) (p1:Pdu):Option Bool :=
 (aR b0).bind fun t6 =>
 (cond t6
 ((bG p1).bind fun t9 =>
 some t9)
 (some false)).bind fun t10 =>
 (cond t10 (some (p1.1 != 162)) (some false)).bind fun t15 =>
 some t15
def lq:List (FuncId × Fn):=(125,⟨[.val true cBridge false,.val true cPdu false],[.val false cNB (some true)],fun a=>gZ a.1 a.2⟩) :: lp
theorem pW:Gd lq:=mkM pV 125 Tryz.f125 [] Tryz.func125
def aq (b0:List Int) (tag1:Int) (body2:List Int):Option (List Int) :=
 (app ([]:List Int) b0).bind fun zs10 =>
 (ae tag1 0 255).bind fun t12 =>
 (cond (!t12) (some true) (some (decide ((body2.length:Int) > 250)))).bind fun t18 =>
 cond t18
 (some zs10)
 ((app zs10 [IntKind.u8.wrap (tag1)]).bind fun zs24 =>
 cond (decide ((body2.length:Int) > 127))
 ((app zs24 ([129]:List Int)).bind fun zs30 =>
 (app zs30 [IntKind.u8.wrap ((body2.length:Int))]).bind fun zs36 =>
 (app zs36 body2).bind fun zs38 =>
 some zs38)
 ((app zs24 [IntKind.u8.wrap ((body2.length:Int))]).bind fun zs36_1 =>
 (app zs36_1 body2).bind fun zs38_1 =>
 some zs38_1))
def lr:List (FuncId × Fn):=(178,⟨[.val false cNY false,.val false cNI false,.val false cNY false],[.val false cNY (some true)],fun a=>aq a.1 a.2.1 a.2.2⟩) :: lq
theorem pX:Gd lr:=mkM pW 178 Tryz.f178 [] Tryz.func178
def cc (n0_1:Int) (out3:List Int):Option ((Int × List Int) ⊕ (List Int)) :=
 (cond (decide (n0_1 < (-128))) (some true) (some (decide (n0_1 > 127)))).bind fun t14 =>
 cond t14
 ((app [IntKind.u8.wrap (n0_1.fdiv (2 ^ 8))] out3).bind fun zs21 =>
 some (.inl (n0_1.fdiv (2 ^ 8),zs21)))
 (some (.inr out3))
def aQ (n0:Int):Option (List Int) :=
 (aw n0).bind fun t5 =>
 (loop (fun z=>cc z.1 z.2) (t5,[IntKind.u8.wrap (t5)])).bind fun d =>
 some d
def lu:List (FuncId × Fn):=(179,⟨[.val false cNI false],[.val false cNY (some true)],fun a=>aQ a⟩) :: lr
theorem pY:Gd lu:=mkM pX 179 Tryz.f179 [(0,⟨⟨[(0,false,[dI]),(3,false,[.own 1000000000]),(12,false,[.undef]),(13,false,[.undef])],[(1000000000,.root (.one (.int .u8)) true)]⟩,
 ⟨[(3,false,[.own 1000000300])],[(1000000300,.root (.one (.int .u8)) true)]⟩,none⟩)] Tryz.func179
def ce (n0_1:Int) (out3:List Int):Option ((Int × List Int) ⊕ (List Int)) :=
 cond (decide (n0_1 > 127))
 ((app [IntKind.u8.wrap (bor .i64 (band .i64 (n0_1.fdiv (2 ^ 7)) 127) 128)] out3).bind fun zs18 =>
 some (.inl (n0_1.fdiv (2 ^ 7),zs18)))
 (some (.inr out3))
def dM (n0:Int):Option (List Int) :=
 (loop (fun z=>ce z.1 z.2) (n0,[IntKind.u8.wrap (band .i64 n0 127)])).bind fun d =>
 some d
def lv:List (FuncId × Fn):=(417,⟨[.val false cNI false],[.val false cNY (some true)],fun a=>dM a⟩) :: lu
theorem pZ:Gd lv:=mkM pY 417 Tryz.f417 [(0,⟨⟨[(0,false,[dI]),(3,false,[.own 1000000000])],[(1000000000,.root (.one (.int .u8)) true)]⟩,
 ⟨[(3,false,[.own 1000000300])],[(1000000300,.root (.one (.int .u8)) true)]⟩,none⟩)] Tryz.func417
def cQ (o0:List Int) (i4:Int) (b3:List Int):Option ((Int × List Int) ⊕ (List Int)) :=
 cond (decide (i4 < (o0.length:Int)))
 ((at? o0 i4).bind fun x19 =>
 (dM x19).bind fun t21 =>
 (app b3 t21).bind fun zs22 =>
 some (.inl (w64 (i4 + 1),zs22)))
 (some (.inr b3))
def eY (o0:List Int):Option (List Int) :=
 (bE o0).bind fun t7 =>
 cond (!t7)
 (some ([]:List Int))
 ((loop (fun z=>cQ o0 z.1 z.2) (0,([]:List Int))).bind fun d =>
 some d)
def lw:List (FuncId × Fn):=(404,⟨[.val false cNN false],[.val false cNY (some true)],fun a=>eY a⟩) :: lv
theorem q8:Gd lw:=mkM pZ 404 Tryz.f404 [(0,⟨⟨[(3,false,[.own 1000000000]),(4,false,[dI])],[(1000000000,.root (.one (.int .u8)) true)]⟩,
 ⟨[(3,false,[.own 1000000300])],[(1000000300,.root (.one (.int .u8)) true)]⟩,none⟩)] Tryz.func404
def gh (b0:List Int) (v1:Val):Option (List Int) :=
 (bp v1).bind fun t7 =>
 cond (!t7)
 ((app ([]:List Int) b0).bind fun zs11 =>
 some zs11)
 (cond (v1.1 == 2)
 ((aQ v1.2.1).bind fun t19 =>
 (aq b0 v1.1 t19).bind fun t34 =>
 some t34)
 (cond (v1.1 == 4)
 ((aq b0 v1.1 (intsOf v1.2.2.1)).bind fun t34_1 =>
 some t34_1)
 (cond (v1.1 == 6)
 ((eY v1.2.2.2).bind fun t29 =>
 (aq b0 v1.1 t29).bind fun t34_2 =>
 some t34_2)
 ((aq b0 v1.1 ([]:List Int)).bind fun t34_3 =>
 some t34_3))))
def lz:List (FuncId × Fn):=(403,⟨[.val false cNY false,.val true cVal false],[.val false cNY (some true)],fun a=>gh a.1 a.2⟩) :: lw
theorem q9:Gd lz:=mkM q8 403 Tryz.f403 [] Tryz.func403
def cR (l0:List Bind) (i4:Int) (b3:List Int):Option ((Int × List Int) ⊕ (List Int)) :=
 cond (decide (i4 < (l0.length:Int)))
 ((at? l0 i4).bind fun x16 =>
 (eY x16.1).bind fun t19 =>
 (aq ([]:List Int) 6 t19).bind fun t20 =>
 (at? l0 i4).bind fun x23 =>
 (gh t20 x23.2).bind fun t26 =>
 (aq b3 48 t26).bind fun t29 =>
 some (.inl (w64 (i4 + 1),t29)))
 (some (.inr b3))
def gi (l0:List Bind):Option (List Int) :=
 (loop (fun z=>cR l0 z.1 z.2) (0,([]:List Int))).bind fun d =>
 some d
def lA:List (FuncId × Fn):=(364,⟨[.val false (.one (.sl cBind)) false],[.val false cNY (some true)],fun a=>gi a⟩) :: lz
theorem qc:Gd lA:=mkM q9 364 Tryz.f364 [(0,⟨⟨[(3,false,[.own 1000000000]),(4,false,[dI])],[(1000000000,.root (.one (.int .u8)) true)]⟩,
 ⟨[(3,false,[.own 1000000300])],[(1000000300,.root (.one (.int .u8)) true)]⟩,none⟩)] Tryz.func364
def hC (p0:Pdu):Option ((List Int) × Bool) :=
 (gi p0.2.2.2.2).bind fun t8 =>
 cond (decide ((t8.length:Int) > 250))
 (some (([]:List Int),false))
 ((aQ p0.2.1).bind fun t16 =>
 (aq ([]:List Int) 2 t16).bind fun t17 =>
 (aQ p0.2.2.1).bind fun t20 =>
 (aq t17 2 t20).bind fun t21 =>
 (aQ p0.2.2.2.1).bind fun t24 =>
 (aq t21 2 t24).bind fun t25 =>
 (aq t25 48 t8).bind fun t28 =>
 let t3:=decide ((t28.length:Int) ≤ 250)
 some (t28,t3))
def lB:List (FuncId × Fn):=(265,⟨[.val true cPdu false],[.val false cNY (some true),.val false cNB (some true)],fun a=>hC a⟩) :: lA
theorem qd:Gd lB:=mkM qc 265 Tryz.f265 [] Tryz.func265
def em (p0:Pdu):Option (List Int) :=
 (bG p0).bind fun t6 =>
 cond (!t6)
 (some ([]:List Int))
 ((hC p0).bind fun t11 =>
 cond (!t11.2)
 (some ([]:List Int))
 ((aq ([]:List Int) p0.1 t11.1).bind fun t21 =>
 some t21))
def lC:List (FuncId × Fn):=(147,⟨[.val true cPdu false],[.val false cNY (some true)],fun a=>em a⟩) :: lB
theorem qe:Gd lC:=mkM qd 147 Tryz.f147 [] Tryz.func147
def dN (p0:Pdu):Option Bool :=
 (em p0).bind fun t4 =>
 (ae (t4.length:Int) 1 120).bind fun t6 =>
 some t6
def lD:List (FuncId × Fn):=(42,⟨[.val true cPdu false],[.val false cNB (some true)],fun a=>dN a⟩) :: lC
theorem qf:Gd lD:=mkM qe 42 Tryz.f42 [] Tryz.func42
def cf (bulk1:Bool) (b0:Int) (b1:Int) (b2:Int) (b3:Int) (b4:List Bind):Option ((Int × Int × Int × Int × List Bind) ⊕ (Int × Int × Int × Int × List Bind)) :=
 (cond bulk1
 ((dN (b0,b1,b2,b3,b4)).bind fun t8 =>
 some (!t8))
 (some false)).bind fun t10 =>
 (cond t10 (some (decide ((b4.length:Int) > 0))) (some false)).bind fun t16 =>
 cond t16
 ((cutIx b4.length 0 (w64 ((b4.length:Int) - 1))).bind fun p =>
 some (.inl (b0,b1,b2,b3,(b4.take p.2).drop p.1)))
 (some (.inr (b0,b1,b2,b3,b4)))
def cS (p0:Pdu) (bulk1:Bool):Option Pdu :=
 (loop (fun z=>cf bulk1 z.1 z.2.1 z.2.2.1 z.2.2.2.1 z.2.2.2.2) p0).bind fun d =>
 (dN d).bind fun t26 =>
 cond t26 (some d) (some (162,d.2.1,7,0,[]))
def lE:List (FuncId × Fn):=(130,⟨[.val true cPdu true,.val false cNB false],[.val true cPdu (some true)],fun a=>cS a.1 a.2⟩) :: lD
theorem qg:Gd lE:=mkM qf 130 Tryz.f130 [(0,⟨⟨us 7 3 (us 12 4 []),[(1024,.box [dI,dI,dI,dI,.own 1000000000]),(1000000000,.root cBind true)]⟩,
 ⟨[],[(1024,.box [dI,dI,dI,dI,.own 1000000300]),(1000000300,.root cBind true)]⟩,none⟩)] Tryz.func130
def qh (a0:List Int) (b1:List Int) (i5:Int):Option (Int ⊕ (Unit ⊕ Bool)) :=
 cond (decide (i5 < (a0.length:Int)))
 ((at? a0 i5).bind fun x19 =>
 (at? b1 i5).bind fun x23 =>
 cond (x19 != x23) (some (.inr (.inr false))) (some (.inl (w64 (i5 + 1)))))
 (some (.inr (.inl ())))
def cU (a0:List Int) (b1:List Int):Option Bool :=
 cond ((a0.length:Int) != (b1.length:Int))
 (some false)
 ((loop (fun z=>qh a0 b1 z) 0).bind (Sum.elim (fun d =>
 some true) (fun r=>some r)))
def lF:List (FuncId × Fn):=(354,⟨[.val false cNN false,.val false cNN false],[.val false cNB (some true)],fun a=>cU a.1 a.2⟩) :: lE
theorem qi:Gd lF:=mkM qg 354 Tryz.f354 [(0,⟨⟨[(5,false,[dI])],[]⟩,
 ⟨[],[]⟩,some ⟨[(4,false,[dB])],[]⟩⟩)] Tryz.func354
def hN (o0:List Int) (head1:List Int):Option Bool :=
 (cond (decide ((o0.length:Int) > (head1.length:Int)))
 ((cut o0 0 (head1.length:Int)).bind fun t14 =>
 (cU t14 head1).bind fun t16 =>
 some t16)
 (some false)).bind fun t17 =>
 some t17
def lG:List (FuncId × Fn):=(419,⟨[.val false cNN false,.val false cNN false],[.val false cNB (some true)],fun a=>hN a.1 a.2⟩) :: lF
theorem qj:Gd lG:=mkM qi 419 Tryz.f419 [] Tryz.func419
def eZ (o0:List Int):Option ((List Int) × Bool) :=
 (hN o0 ([1,3,1]:List Int)).bind fun t6 =>
 cond (!t6)
 (some (([]:List Int),false))
 ((cut o0 3 (o0.length:Int)).bind fun t10 =>
 some (t10,true))
def lH:List (FuncId × Fn):=(414,⟨[.val false cNN false],[.val false cNN none,.val false cNB (some true)],fun a=>eZ a⟩) :: lG
theorem qk:Gd lH:=mkM qj 414 Tryz.f414 [] Tryz.func414
def gj (p0:Bridge) (i1:List Int):Option Bool :=
 (eZ i1).bind fun t9 =>
 cond (!t9.2)
 (some false)
 (cond ((t9.1.length:Int) == 2)
 ((at? t9.1 0).bind fun x18 =>
 (cond (x18 == 1)
 ((at? t9.1 1).bind fun x23 =>
 some (x23 == 1))
 (some false)).bind fun t26 =>
 some t26)
 (cond ((t9.1.length:Int) != 3)
 (some false)
 ((at? t9.1 0).bind fun x31 =>
 cond (x31 == 2)
 ((at? t9.1 1).bind fun x36 =>
 (cond (x36 == 2)
 (some true)
 ((at? t9.1 1).bind fun x41 =>
 some (x41 == 4))).bind fun t44 =>
 (cond t44
 ((at? t9.1 2).bind fun x47 =>
 (ae x47 1 (p0.2.2.1.length:Int)).bind fun t52 =>
 some t52)
 (some false)).bind fun t53 =>
 some t53)
 (cond (x31 == 3)
 ((at? t9.1 1).bind fun x57 =>
 (cond (x57 == 1)
 ((at? t9.1 2).bind fun x62 =>
 (ae x62 1 99).bind fun t64 =>
 some t64)
 (some false)).bind fun t65 =>
 (cond t65
 (some true)
 ((at? t9.1 1).bind fun x68 =>
 (cond (x68 == 2)
 (some true)
 ((at? t9.1 1).bind fun x73 =>
 some (x73 == 3))).bind fun t76 =>
 (cond t76
 ((at? t9.1 2).bind fun x81 =>
 (bo (p0.2.2.2.2.1,p0.2.2.2.2.2.1) x81).bind fun t83 =>
 some (decide (t83 ≥ 0)))
 (some false)).bind fun t85 =>
 some t85)).bind fun t86 =>
 some t86)
 (some false)))))
def lI:List (FuncId × Fn):=(394,⟨[.val true cBridge false,.val false cNN false],[.val false cNB (some true)],fun a=>gj a.1 a.2⟩) :: lH
theorem qm:Gd lI:=mkM qk 394 Tryz.f394 [] Tryz.func394
def aP (l0:List Fent) (tag1:Int) (mac2:Int) (i7:Int):Option (Int ⊕ (Unit ⊕ Int)) :=
 cond (decide (i7 < (l0.length:Int)))
 ((at? l0 i7).bind fun x16 =>
 (cond (x16.1 == tag1)
 ((at? l0 i7).bind fun x24 =>
 some (x24.2.1 == mac2))
 (some false)).bind fun t29 =>
 cond t29 (some (.inr (.inr i7))) (some (.inl (w64 (i7 + 1)))))
 (some (.inr (.inl ())))
def cg (l0:List Fent) (tag1:Int) (mac2:Int):Option Int :=
 (loop (fun z=>aP l0 tag1 mac2 z) 0).bind (Sum.elim (fun d =>
 some (-1)) (fun r=>some r))
def lJ:List (FuncId × Fn):=(338,⟨[.val false (.one (.sl cFent)) false,.val false cNI false,.val false cNI false],[.val false cNI (some true)],fun a=>cg a.1 a.2.1 a.2.2⟩) :: lI
theorem qn:Gd lJ:=mkM qm 338 Tryz.f338 [(0,⟨⟨(7,false,[dI]) :: us 22 7 [],[]⟩,
 ⟨[],[]⟩,some ⟨[(6,false,[dI])],[]⟩⟩)] Tryz.func338
def gk (p0:Bridge) (i1:List Int):Option Bool :=
 (eZ i1).bind fun t9 =>
 cond (!t9.2)
 (some false)
 (cond ((t9.1.length:Int) == 2)
 ((at? t9.1 0).bind fun x19 =>
 (cond (x19 == 1)
 ((at? t9.1 1).bind fun x24 =>
 (ae x24 2 5).bind fun t26 =>
 some t26)
 (some false)).bind fun t27 =>
 some t27)
 (cond ((t9.1.length:Int) == 3)
 ((at? t9.1 0).bind fun x31 =>
 (cond (x31 == 2)
 ((at? t9.1 1).bind fun x36 =>
 (cond (x36 == 1)
 (some true)
 ((at? t9.1 1).bind fun x41 =>
 some (x41 == 3))).bind fun t44 =>
 some t44)
 (some false)).bind fun t45 =>
 (cond t45
 ((at? t9.1 2).bind fun x48 =>
 (ae x48 1 (p0.2.2.1.length:Int)).bind fun t53 =>
 some t53)
 (some false)).bind fun t54 =>
 some t54)
 (cond ((t9.1.length:Int) == 4)
 ((at? t9.1 0).bind fun x58 =>
 (cond (x58 == 4)
 ((at? t9.1 1).bind fun x63 =>
 some (x63 == 1))
 (some false)).bind fun t66 =>
 (cond t66
 ((at? t9.1 2).bind fun x71 =>
 (at? t9.1 3).bind fun x74 =>
 (cg p0.2.2.2.1 x71 x74).bind fun t76 =>
 some (decide (t76 ≥ 0)))
 (some false)).bind fun t78 =>
 some t78)
 (some false))))
def lK:List (FuncId × Fn):=(395,⟨[.val true cBridge false,.val false cNN false],[.val false cNB (some true)],fun a=>gk a.1 a.2⟩) :: lJ
theorem qo:Gd lK:=mkM qn 395 Tryz.f395 [] Tryz.func395
def hP (b0:Bridge) (c1:Int) (p2:Int) (n3:Int):Option (Bridge × Int) :=
 cond (c1 == 2)
 ((ae n3 1 1000).bind fun t13 =>
 cond (!t13)
 (some (b0,2))
 ((ix b0.2.2.1.length p2).bind fun j20 =>
 (b0.2.2.1[j20]?).bind fun x =>
 some ((b0.1,b0.2.1,b0.2.2.1.set j20 (x.1,n3,x.2.2.1,x.2.2.2.1,x.2.2.2.2.1,x.2.2.2.2.2.1,x.2.2.2.2.2.2.1,x.2.2.2.2.2.2.2),b0.2.2.2.1,b0.2.2.2.2.1,b0.2.2.2.2.2.1,b0.2.2.2.2.2.2.1,b0.2.2.2.2.2.2.2.1,b0.2.2.2.2.2.2.2.2.1,b0.2.2.2.2.2.2.2.2.2.1,b0.2.2.2.2.2.2.2.2.2.2),0)))
 ((ix b0.2.2.2.2.2.1.length p2).bind fun j28 =>
 (b0.2.2.2.2.2.1[j28]?).bind fun x_1 =>
 some ((b0.1,b0.2.1,b0.2.2.1,b0.2.2.2.1,b0.2.2.2.2.1,b0.2.2.2.2.2.1.set j28 n3,b0.2.2.2.2.2.2.1,b0.2.2.2.2.2.2.2.1,b0.2.2.2.2.2.2.2.2.1,b0.2.2.2.2.2.2.2.2.2.1,b0.2.2.2.2.2.2.2.2.2.2),0))
def lL:List (FuncId × Fn):=(396,⟨[.val true cBridge true,.val false cNI false,.val false cNI false,.val false cNI false],[.val true cBridge (some true),.val false cNI (some true)],fun a=>hP a.1 a.2.1 a.2.2.1 a.2.2.2⟩) :: lK
theorem qp:Gd lL:=mkM qo 396 Tryz.f396 [] Tryz.func396
def bH (p0:Vtab) (i1:Vrow) (t6:Bool) (t7:Int) (b0:List Vrow):Option ((Bool × Int × List Vrow) ⊕ (Bool × List Vrow)) :=
 cond (decide (t7 < (p0.1.length:Int)))
 ((cond (!t6)
 ((at? p0.1 t7).bind fun x26 =>
 some (decide (x26.1 ≥ i1.1)))
 (some false)).bind fun t32 =>
 cond t32
 ((app b0 [i1]).bind fun zs37 =>
 (at? p0.1 t7).bind fun x42 =>
 cond (x42.1 != i1.1)
 ((at? p0.1 t7).bind fun x53 =>
 (app zs37 [x53]).bind fun zs56 =>
 some (.inl (true,w64 (t7 + 1),zs56)))
 (some (.inl (true,w64 (t7 + 1),zs37))))
 ((at? p0.1 t7).bind fun x42_1 =>
 cond (x42_1.1 != i1.1)
 ((at? p0.1 t7).bind fun x53_1 =>
 (app b0 [x53_1]).bind fun zs56_1 =>
 some (.inl (t6,w64 (t7 + 1),zs56_1)))
 (some (.inl (t6,w64 (t7 + 1),b0)))))
 (some (.inr (t6,b0)))
def bq (p0:Vtab) (i1:Vrow):Option Vtab :=
 (app ([]:List Int) p0.2).bind fun zs11 =>
 (loop (fun z=>bH p0 i1 z.1 z.2.1 z.2.2) (false,0,[])).bind fun d =>
 cond (!d.1)
 ((app d.2 [i1]).bind fun zs64 =>
 some (zs64,zs11))
 (some (d.2,zs11))
def lM:List (FuncId × Fn):=(363,⟨[.val true cVtab false,.val true cVrow false],[.val true cVtab (some true)],fun a=>bq a.1 a.2⟩) :: lL
theorem qq:Gd lM:=mkM qp 363 Tryz.f363 [(0,⟨⟨(6,false,[dB]) :: (7,false,[dI]) :: us 23 9 [],[(268288,.box [.own 1000000000,.same 266240]),(1000000000,.root cVrow true)]⟩,
 ⟨[(6,false,[dB])],[(268288,.box [.own 1000000300,.same 266240]),(1000000300,.root cVrow true)]⟩,none⟩)] Tryz.func363
def hU (b0:Bridge) (id1:Int) (n2:Int):Option (Bridge × Int) :=
 (bo (b0.2.2.2.2.1,b0.2.2.2.2.2.1) id1).bind fun t12 =>
 (cond (n2 == 4) (some (decide (t12 < 0))) (some false)).bind fun t19 =>
 (cond t19 (some (decide ((b0.2.2.2.2.1.length:Int) < 6))) (some false)).bind fun t26 =>
 cond t26
 ((bq (b0.2.2.2.2.1,b0.2.2.2.2.2.1) (id1,0,0)).bind fun t31 =>
 some ((b0.1,b0.2.1,b0.2.2.1,b0.2.2.2.1,t31.1,t31.2,b0.2.2.2.2.2.2.1,b0.2.2.2.2.2.2.2.1,b0.2.2.2.2.2.2.2.2.1,b0.2.2.2.2.2.2.2.2.2.1,b0.2.2.2.2.2.2.2.2.2.2),0))
 ((cond (n2 == 6) (some (decide (t12 ≥ 0))) (some false)).bind fun t40 =>
 cond t40
 ((cutIx b0.2.2.2.2.1.length 0 t12).bind fun p =>
 (app ([]:List Vrow) ((b0.2.2.2.2.1.take p.2).drop p.1)).bind fun zs47 =>
 (cutIx b0.2.2.2.2.1.length (w64 (t12 + 1)) (b0.2.2.2.2.1.length:Int)).bind fun p_1 =>
 (app zs47 ((b0.2.2.2.2.1.take p_1.2).drop p_1.1)).bind fun zs54 =>
 some ((b0.1,b0.2.1,b0.2.2.1,b0.2.2.2.1,zs54,b0.2.2.2.2.2.1,b0.2.2.2.2.2.2.1,b0.2.2.2.2.2.2.2.1,b0.2.2.2.2.2.2.2.2.1,b0.2.2.2.2.2.2.2.2.2.1,b0.2.2.2.2.2.2.2.2.2.2),0))
 (some (b0,2)))
def lN:List (FuncId × Fn):=(415,⟨[.val true cBridge true,.val false cNI false,.val false cNI false],[.val true cBridge (some true),.val false cNI (some true)],fun a=>hU a.1 a.2.1 a.2.2⟩) :: lM
theorem qr:Gd lN:=mkM qq 415 Tryz.f415 [] Tryz.func415
def gl (b0:Bridge) (c1:Int) (id2:Int) (n3:Int):Option (Bridge × Int) :=
 cond (c1 == 1)
 ((hU b0 id2 n3).bind fun t16 =>
 some t16)
 ((shl .i64 1 (IntKind.u64.wrap ((b0.2.2.1.length:Int)))).bind fun t24 =>
 (ae n3 0 (w64 (t24 - 1))).bind fun t26 =>
 cond (!t26)
 (some (b0,2))
 ((bo (b0.2.2.2.2.1,b0.2.2.2.2.2.1) id2).bind fun t35 =>
 (ix b0.2.2.2.2.1.length t35).bind fun j36 =>
 (b0.2.2.2.2.1[j36]?).bind fun x37 =>
 cond (c1 == 2)
 ((bq (b0.2.2.2.2.1,b0.2.2.2.2.2.1) (x37.1,n3,x37.2.2)).bind fun t47 =>
 some ((b0.1,b0.2.1,b0.2.2.1,b0.2.2.2.1,t47.1,t47.2,b0.2.2.2.2.2.2.1,b0.2.2.2.2.2.2.2.1,b0.2.2.2.2.2.2.2.2.1,b0.2.2.2.2.2.2.2.2.2.1,b0.2.2.2.2.2.2.2.2.2.2),0))
 ((bq (b0.2.2.2.2.1,b0.2.2.2.2.2.1) (x37.1,x37.2.1,n3)).bind fun t47_1 =>
 some ((b0.1,b0.2.1,b0.2.2.1,b0.2.2.2.1,t47_1.1,t47_1.2,b0.2.2.2.2.2.2.1,b0.2.2.2.2.2.2.2.1,b0.2.2.2.2.2.2.2.2.1,b0.2.2.2.2.2.2.2.2.2.1,b0.2.2.2.2.2.2.2.2.2.2),0))))
def lO:List (FuncId × Fn):=(397,⟨[.val true cBridge true,.val false cNI false,.val false cNI false,.val false cNI false],[.val true cBridge (some true),.val false cNI (some true)],fun a=>gl a.1 a.2.1 a.2.2.1 a.2.2.2⟩) :: lN
theorem qt:Gd lO:=mkM qr 397 Tryz.f397 [] Tryz.func397
def f0 (p0:Bridge) (i1:Bind):Option (Bridge × Int) :=
 (am p0).bind fun t9 =>
 (gj p0 i1.1).bind fun t13 =>
 cond (!t13)
 ((gk p0 i1.1).bind fun t18 =>
 cond t18 (some (t9,4)) (some (t9,3)))
 ((cut i1.1 3 (i1.1.length:Int)).bind fun t23 =>
 (at? t23 0).bind fun x25 =>
 cond (x25 == 1)
 (cond (i1.2.1 != 4)
 (some (t9,1))
 (let t34:=decide ((i1.2.2.2.1.length:Int) > 10)
 cond t34
 (some (t9,2))
 (some ((t9.1,i1.2.2.2.1,t9.2.2.1,t9.2.2.2.1,t9.2.2.2.2.1,t9.2.2.2.2.2.1,t9.2.2.2.2.2.2.1,t9.2.2.2.2.2.2.2.1,t9.2.2.2.2.2.2.2.2.1,t9.2.2.2.2.2.2.2.2.2.1,t9.2.2.2.2.2.2.2.2.2.2),0))))
 (cond (i1.2.1 != 2)
 (some (t9,1))
 ((at? t23 0).bind fun x52 =>
 cond (x52 == 2)
 ((at? t23 1).bind fun x57 =>
 (at? t23 2).bind fun x60 =>
 (hP t9 x57 (w64 (x60 - 1)) i1.2.2.1).bind fun t66 =>
 some t66)
 ((at? t23 1).bind fun x71 =>
 (at? t23 2).bind fun x74 =>
 (gl t9 x71 x74 i1.2.2.1).bind fun t79 =>
 some t79))))
def lP:List (FuncId × Fn):=(355,⟨[.val true cBridge false,.val true cBind false],[.val true cBridge (some true),.val false cNI (some true)],fun a=>f0 a.1 a.2⟩) :: lO
theorem qu:Gd lP:=mkM qt 355 Tryz.f355 [] Tryz.func355
def gm (a0:Vec) (b1:Vec):Option Bool :=
 cond (a0.1 != b1.1)
 (some (decide (a0.1 < b1.1)))
 (cond (a0.2.1 != b1.2.1)
 (some (decide (a0.2.1 < b1.2.1)))
 (cond (a0.2.2.2.1 != b1.2.2.2.1)
 (let t4:=decide (a0.2.2.2.1 < b1.2.2.2.1)
 some t4)
 (let t4_1:=decide (a0.2.2.2.2 < b1.2.2.2.2)
 some t4_1)))
def lQ:List (FuncId × Fn):=(409,⟨[.val true cVec false,.val true cVec false],[.val false cNB (some true)],fun a=>gm a.1 a.2⟩) :: lP
theorem qv:Gd lQ:=mkM qu 409 Tryz.f409 [] Tryz.func409
def hZ (v0:Vec) (cost1:Int):Option (Vec × Bool) :=
 (eS v0).bind fun t8 =>
 (cond (!t8)
 (some true)
 ((ae cost1 1 1000).bind fun t12 =>
 some (!t12))).bind fun t14 =>
 cond t14
 (some (v0,false))
 ((eS (v0.1,w64 (v0.2.1 + cost1),w64 (v0.2.2.1 + 1),v0.2.2.2.1,v0.2.2.2.2)).bind fun t27 =>
 cond (!t27)
 (some (v0,false))
 (some ((v0.1,w64 (v0.2.1 + cost1),w64 (v0.2.2.1 + 1),v0.2.2.2.1,v0.2.2.2.2),true)))
def lR:List (FuncId × Fn):=(418,⟨[.val true cVec false,.val false cNI false],[.val true cVec (some true),.val false cNB (some true)],fun a=>hZ a.1 a.2⟩) :: lQ
theorem qw:Gd lR:=mkM qv 418 Tryz.f418 [] Tryz.func418
def i0 (p0:Int) (i1:List Pt) (t8:Int) (t9:Int) (b0:Int) (b1:Int) (b2:Int) (b3:Int) (b4:Int) (b0_1:Int) (b1_1:Int) (b2_1:Int) (b3_1:Int) (b4_1:Int):Option ((Int × Int × Int × Int × Int × Int × Int × Int × Int × Int × Int × Int) ⊕ (Int × Int × Int × Int × Int × Int × Int × Int × Int × Int × Int)) :=
 cond (decide (t9 < (i1.length:Int)))
 ((at? i1 t9).bind fun x24 =>
 (cond (!x24.1)
 (some true)
 ((at? i1 t9).bind fun x31 =>
 some (!x31.2.2.1))).bind fun t35 =>
 cond t35
 (some (.inl (t8,w64 (t9 + 1),b0,b1,b2,b3,b4,b0_1,b1_1,b2_1,b3_1,b4_1)))
 ((at? i1 t9).bind fun x39 =>
 (at? i1 t9).bind fun x44 =>
 (hZ x39.2.2.2 x44.2.1).bind fun t47 =>
 (cond t47.2 (some (decide (t47.1.1 < p0))) (some false)).bind fun t56 =>
 (cond t56
 ((cond (decide (t8 < 0))
 (some true)
 ((gm t47.1 (b0_1,b1_1,b2_1,b3_1,b4_1)).bind fun t63 =>
 some t63)).bind fun t64 =>
 some t64)
 (some false)).bind fun t65 =>
 cond t65
 (some (.inl (t9,w64 (t9 + 1),t47.1.1,t47.1.2.1,t47.1.2.2.1,p0,0,t47.1.1,t47.1.2.1,t47.1.2.2.1,t47.1.2.2.2.1,t47.1.2.2.2.2)))
 (some (.inl (t8,w64 (t9 + 1),b0,b1,b2,b3,b4,b0_1,b1_1,b2_1,b3_1,b4_1)))))
 (some (.inr (t8,b0,b1,b2,b3,b4,b0_1,b1_1,b2_1,b3_1,b4_1)))
def f6 (p0:Int) (i1:List Pt):Option (Vec × Int) :=
 (loop (fun z=>i0 p0 i1 z.1 z.2.1 z.2.2.1 z.2.2.2.1 z.2.2.2.2.1 z.2.2.2.2.2.1 z.2.2.2.2.2.2.1 z.2.2.2.2.2.2.2.1 z.2.2.2.2.2.2.2.2.1 z.2.2.2.2.2.2.2.2.2.1 z.2.2.2.2.2.2.2.2.2.2.1 z.2.2.2.2.2.2.2.2.2.2.2) ((-1),0,p0,0,0,p0,0,0,0,0,0,0)).bind fun d =>
 some ((d.2.1,d.2.2.1,d.2.2.2.1,d.2.2.2.2.1,d.2.2.2.2.2.1),d.1)
def lS:List (FuncId × Fn):=(408,⟨[.val false cNI false,.val false (.one (.sl cPt)) false],[.val true cVec (some true),.val false cNI (some true)],fun a=>f6 a.1 a.2⟩) :: lR
theorem qx:Gd lS:=mkM qw 408 Tryz.f408 [(0,⟨⟨(8,false,[dI]) :: (9,false,[dI]) :: us 29 6 (us 52 4 (us 58 7 [])),[(266240,.box [dI,dI,dI,dI,dI]),(526336,.box [dI,dI,dI,dI,dI])]⟩,
 ⟨[(8,false,[dI])],[(266240,.box [dI,dI,dI,dI,dI]),(526336,.box [dI,dI,dI,dI,dI])]⟩,none⟩)] Tryz.func408
def gn (id0:Int) (l1:List Pt) (port2:Int):Option Vec :=
 (f6 id0 l1).bind fun t12 =>
 some (t12.1.1,t12.1.2.1,t12.1.2.2.1,t12.1.2.2.2.1,port2)
def lT:List (FuncId × Fn):=(410,⟨[.val false cNI false,.val false (.one (.sl cPt)) false,.val false cNI false],[.val true cVec (some true)],fun a=>gn a.1 a.2.1 a.2.2⟩) :: lS
theorem qy:Gd lT:=mkM qx 410 Tryz.f410 [] Tryz.func410
def f7 (id0:Int) (l1:List Pt) (port2:Int):Option Int :=
 (ae port2 0 (w64 ((l1.length:Int) - 1))).bind fun t13 =>
 (cond (!t13)
 (some true)
 ((at? l1 port2).bind fun x18 =>
 some (!x18.1))).bind fun t22 =>
 cond t22
 (some 4)
 ((f6 id0 l1).bind fun t26 =>
 cond (t26.2 == port2)
 (some 1)
 ((at? l1 port2).bind fun x36 =>
 (cond (!x36.2.2.1)
 (some true)
 ((gn id0 l1 port2).bind fun t44 =>
 (at? l1 port2).bind fun x47 =>
 (gm t44 x47.2.2.2).bind fun t50 =>
 some t50)).bind fun t51 =>
 cond t51 (some 2) (some 3)))
def lU:List (FuncId × Fn):=(382,⟨[.val false cNI false,.val false (.one (.sl cPt)) false,.val false cNI false],[.val false cNI (some true)],fun a=>f7 a.1 a.2.1 a.2.2⟩) :: lT
theorem qz:Gd lU:=mkM qy 382 Tryz.f382 [] Tryz.func382
def f8 (id0:Int) (l1:List Pt) (n5:Int) (i6:Int):Option ((Int × Int) ⊕ Int) :=
 (cond (decide (i6 < (l1.length:Int))) (some (decide (i6 < 6))) (some false)).bind fun t14 =>
 cond t14
 ((f7 id0 l1 i6).bind fun t20 =>
 cond (decide (t20 ≤ 2))
 ((shl .i64 1 (IntKind.u64.wrap (i6))).bind fun t25 =>
 some (.inl (bor .i64 n5 t25,w64 (i6 + 1))))
 (some (.inl (n5,w64 (i6 + 1)))))
 (some (.inr n5))
def gp (id0:Int) (l1:List Pt):Option Int :=
 (loop (fun z=>f8 id0 l1 z.1 z.2) (0,0)).bind fun d =>
 some d
def lV:List (FuncId × Fn):=(310,⟨[.val false cNI false,.val false (.one (.sl cPt)) false],[.val false cNI (some true)],fun a=>gp a.1 a.2⟩) :: lU
theorem qA:Gd lV:=mkM qz 310 Tryz.f310 [(0,⟨⟨[(5,false,[dI]),(6,false,[dI]),(12,false,[.undef]),(13,false,[.undef])],[]⟩,
 ⟨[(5,false,[dI])],[]⟩,none⟩)] Tryz.func310
def gq (n0:Int) (port1:Int):Option Bool :=
 (ae port1 0 7).bind fun t6 =>
 (cond t6
 ((shr .i64 n0 (IntKind.u64.wrap (port1))).bind fun t11 =>
 some ((band .i64 t11 1) == 1))
 (some false)).bind fun t14 =>
 some t14
def lW:List (FuncId × Fn):=(312,⟨[.val false cNI false,.val false cNI false],[.val false cNB (some true)],fun a=>gq a.1 a.2⟩) :: lV
theorem qB:Gd lW:=mkM qA 312 Tryz.f312 [] Tryz.func312
def dO (l0:List Fent) (port1:Int) (i6:Int) (out5:List Fent):Option ((Int × List Fent) ⊕ (List Fent)) :=
 cond (decide (i6 < (l0.length:Int)))
 ((at? l0 i6).bind fun x16 =>
 (cond x16.2.2.2.2
 (some true)
 ((at? l0 i6).bind fun x22 =>
 some (x22.2.2.1 != port1))).bind fun t27 =>
 cond t27
 ((at? l0 i6).bind fun x31 =>
 (app out5 [x31]).bind fun zs34 =>
 some (.inl (w64 (i6 + 1),zs34)))
 (some (.inl (w64 (i6 + 1),out5))))
 (some (.inr out5))
def gt (l0:List Fent) (port1:Int):Option (List Fent) :=
 (loop (fun z=>dO l0 port1 z.1 z.2) (0,([]:List Fent))).bind fun d =>
 some d
def lX:List (FuncId × Fn):=(398,⟨[.val false (.one (.sl cFent)) false,.val false cNI false],[.val false (.one (.sl cFent)) (some true)],fun a=>gt a.1 a.2⟩) :: lW
theorem qC:Gd lX:=mkM qB 398 Tryz.f398 [(0,⟨⟨(5,false,[.own 1000000000]) :: (6,false,[dI]) :: us 20 7 [],[(1000000000,.root cFent true)]⟩,
 ⟨[(5,false,[.own 1000000300])],[(1000000300,.root cFent true)]⟩,none⟩)] Tryz.func398
def gu (b0:Bridge) (t13:Int) (i4:Int) (b0_1:Int) (b1:List UInt8) (b6:Int) (b7:Int) (b8:Int) (b9:Int) (b10:Int) (b3:List Fent):Option ((Int × Int × List UInt8 × Int × Int × Int × Int × Int × List Fent) ⊕ (Int × List UInt8 × Int × Int × Int × Int × Int × List Fent)) :=
 cond (decide (i4 < (b0.2.2.1.length:Int)))
 ((gq t13 i4).bind fun t23 =>
 cond (!t23)
 ((gt b3 i4).bind fun t28 =>
 some (.inl (w64 (i4 + 1),b0_1,b1,b6,b7,b8,b9,b10,t28)))
 (some (.inl (w64 (i4 + 1),b0_1,b1,b6,b7,b8,b9,b10,b3))))
 (some (.inr (b0_1,b1,b6,b7,b8,b9,b10,b3)))
def bL (b0:Bridge):Option Bridge :=
 (aZ b0.2.2.2.2.2.2.2.2.2.2).bind fun t7 =>
 (gp b0.1 b0.2.2.1).bind fun t13 =>
 (loop (fun z=>gu b0 t13 z.1 z.2.1 z.2.2.1 z.2.2.2.1 z.2.2.2.2.1 z.2.2.2.2.2.1 z.2.2.2.2.2.2.1 z.2.2.2.2.2.2.2.1 z.2.2.2.2.2.2.2.2) (0,b0.1,b0.2.1,b0.2.2.2.2.2.2.1,b0.2.2.2.2.2.2.2.1,b0.2.2.2.2.2.2.2.2.1,b0.2.2.2.2.2.2.2.2.2.1,t7,b0.2.2.2.1)).bind fun d =>
 some (d.1,d.2.1,b0.2.2.1,d.2.2.2.2.2.2.2,b0.2.2.2.2.1,b0.2.2.2.2.2.1,d.2.2.1,d.2.2.2.1,d.2.2.2.2.1,d.2.2.2.2.2.1,d.2.2.2.2.2.2.1)
def lY:List (FuncId × Fn):=(356,⟨[.val true cBridge true],[.val true cBridge (some true)],fun a=>bL a⟩) :: lX
theorem qD:Gd lY:=mkM qC 356 Tryz.f356 [(0,⟨⟨[(4,false,[dI])],[(1024,.box [dI,dS,.same 3,.own 1000000000,.same 5,.same 6,dI,dI,dI,dI,dI]),(1000000000,.root cFent true)]⟩,
 ⟨[],[(1024,.box [dI,dS,.same 3,.own 1000000300,.same 5,.same 6,dI,dI,dI,dI,dI]),(1000000300,.root cFent true)]⟩,none⟩)] Tryz.func356
def fa (p0:Bridge) (i1:List Bind) (t8:Int) (t9:Int) (b0_2:Int) (b1_2:List UInt8) (b6_2:Int) (b7_2:Int) (b8_2:Int) (b9_2:Int) (b10_2:Int):Option ((Int × Int × List UInt8 × Int × Int × Int × Int × Int) ⊕ ((Int × List UInt8 × Int × Int × Int × Int × Int) ⊕ (Int × Int × Int × List UInt8 × Int × Int × Int × Int × Int × List Pt × List Fent × List Vrow × List Int))) :=
 cond (decide (t9 < t8))
 ((at? i1 t9).bind fun x36 =>
 (at? i1 t8).bind fun x41 =>
 (cU x36.1 x41.1).bind fun t44 =>
 cond t44
 ((am p0).bind fun t46 =>
 some (.inr (.inr (5,w64 (t8 + 1),t46.1,t46.2.1,t46.2.2.2.2.2.2.1,t46.2.2.2.2.2.2.2.1,t46.2.2.2.2.2.2.2.2.1,t46.2.2.2.2.2.2.2.2.2.1,t46.2.2.2.2.2.2.2.2.2.2,t46.2.2.1,t46.2.2.2.1,t46.2.2.2.2.1,t46.2.2.2.2.2.1))))
 (some (.inl (w64 (t9 + 1),b0_2,b1_2,b6_2,b7_2,b8_2,b9_2,b10_2))))
 (some (.inr (.inl (b0_2,b1_2,b6_2,b7_2,b8_2,b9_2,b10_2))))
def gv (p0:Bridge) (i1:List Bind) (t8:Int) (b0:Int) (b1:List UInt8) (b6:Int) (b7:Int) (b8:Int) (b9:Int) (b10:Int) (b0_1:Int) (b1_1:List UInt8) (b6_1:Int) (b7_1:Int) (b8_1:Int) (b9_1:Int) (b10_1:Int) (b2:List Pt) (b3:List Fent) (b4:List Vrow) (b5:List Int) (b2_1:List Pt) (b3_1:List Fent) (b4_1:List Vrow) (b5_1:List Int):Option ((Int × Int × List UInt8 × Int × Int × Int × Int × Int × Int × List UInt8 × Int × Int × Int × Int × Int × List Pt × List Fent × List Vrow × List Int × List Pt × List Fent × List Vrow × List Int) ⊕ ((Int × List UInt8 × Int × Int × Int × Int × Int × Int × List UInt8 × Int × Int × Int × Int × Int × List Pt × List Fent × List Vrow × List Int × List Pt × List Fent × List Vrow × List Int) ⊕ (Int × Int × Int × List UInt8 × Int × Int × Int × Int × Int × List Pt × List Fent × List Vrow × List Int))) :=
 cond (decide (t8 < (i1.length:Int)))
 ((loop (fun z=>fa p0 i1 t8 z.1 z.2.1 z.2.2.1 z.2.2.2.1 z.2.2.2.2.1 z.2.2.2.2.2.1 z.2.2.2.2.2.2.1 z.2.2.2.2.2.2.2) (0,b0,b1,b6,b7,b8,b9,b10)).bind (Sum.elim (fun d =>
 (at? i1 t8).bind fun x53 =>
 (f0 (b0_1,b1_1,b2_1,b3_1,b4_1,b5_1,b6_1,b7_1,b8_1,b9_1,b10_1) x53).bind fun t55 =>
 cond (t55.2 != 0)
 ((am p0).bind fun t61 =>
 some (.inr (.inr (t55.2,w64 (t8 + 1),t61.1,t61.2.1,t61.2.2.2.2.2.2.1,t61.2.2.2.2.2.2.2.1,t61.2.2.2.2.2.2.2.2.1,t61.2.2.2.2.2.2.2.2.2.1,t61.2.2.2.2.2.2.2.2.2.2,t61.2.2.1,t61.2.2.2.1,t61.2.2.2.2.1,t61.2.2.2.2.2.1))))
 (some (.inl (w64 (t8 + 1),d.1,d.2.1,d.2.2.1,d.2.2.2.1,d.2.2.2.2.1,d.2.2.2.2.2.1,d.2.2.2.2.2.2,t55.1.1,t55.1.2.1,t55.1.2.2.2.2.2.2.1,t55.1.2.2.2.2.2.2.2.1,t55.1.2.2.2.2.2.2.2.2.1,t55.1.2.2.2.2.2.2.2.2.2.1,t55.1.2.2.2.2.2.2.2.2.2.2,b2,b3,b4,b5,t55.1.2.2.1,t55.1.2.2.2.1,t55.1.2.2.2.2.1,t55.1.2.2.2.2.2.1)))) (fun r=>some (.inr (.inr r)))))
 (some (.inr (.inl (b0,b1,b6,b7,b8,b9,b10,b0_1,b1_1,b6_1,b7_1,b8_1,b9_1,b10_1,b2,b3,b4,b5,b2_1,b3_1,b4_1,b5_1))))
def gw (p0:Bridge) (i1:List Bind):Option (Bridge × Int × Int) :=
 (am p0).bind fun t13 =>
 (aR p0).bind fun t15 =>
 (cond (!t15) (some (decide ((i1.length:Int) > 0))) (some false)).bind fun t21 =>
 cond t21
 (some (t13,3,1))
 ((loop (fun z=>gv p0 i1 z.1 z.2.1 z.2.2.1 z.2.2.2.1 z.2.2.2.2.1 z.2.2.2.2.2.1 z.2.2.2.2.2.2.1 z.2.2.2.2.2.2.2.1 z.2.2.2.2.2.2.2.2.1 z.2.2.2.2.2.2.2.2.2.1 z.2.2.2.2.2.2.2.2.2.2.1 z.2.2.2.2.2.2.2.2.2.2.2.1 z.2.2.2.2.2.2.2.2.2.2.2.2.1 z.2.2.2.2.2.2.2.2.2.2.2.2.2.1 z.2.2.2.2.2.2.2.2.2.2.2.2.2.2.1 z.2.2.2.2.2.2.2.2.2.2.2.2.2.2.2.1 z.2.2.2.2.2.2.2.2.2.2.2.2.2.2.2.2.1 z.2.2.2.2.2.2.2.2.2.2.2.2.2.2.2.2.2.1 z.2.2.2.2.2.2.2.2.2.2.2.2.2.2.2.2.2.2.1 z.2.2.2.2.2.2.2.2.2.2.2.2.2.2.2.2.2.2.2.1 z.2.2.2.2.2.2.2.2.2.2.2.2.2.2.2.2.2.2.2.2.1 z.2.2.2.2.2.2.2.2.2.2.2.2.2.2.2.2.2.2.2.2.2.1 z.2.2.2.2.2.2.2.2.2.2.2.2.2.2.2.2.2.2.2.2.2.2) (0,0,[],0,0,0,0,0,t13.1,t13.2.1,t13.2.2.2.2.2.2.1,t13.2.2.2.2.2.2.2.1,t13.2.2.2.2.2.2.2.2.1,t13.2.2.2.2.2.2.2.2.2.1,t13.2.2.2.2.2.2.2.2.2.2,[],[],[],[],t13.2.2.1,t13.2.2.2.1,t13.2.2.2.2.1,t13.2.2.2.2.2.1)).bind (Sum.elim (fun d_1 =>
 cond ((i1.length:Int) == 0)
 (some ((d_1.2.2.2.2.2.2.2.1,d_1.2.2.2.2.2.2.2.2.1,d_1.2.2.2.2.2.2.2.2.2.2.2.2.2.2.2.2.2.2.1,d_1.2.2.2.2.2.2.2.2.2.2.2.2.2.2.2.2.2.2.2.1,d_1.2.2.2.2.2.2.2.2.2.2.2.2.2.2.2.2.2.2.2.2.1,d_1.2.2.2.2.2.2.2.2.2.2.2.2.2.2.2.2.2.2.2.2.2,d_1.2.2.2.2.2.2.2.2.2.1,d_1.2.2.2.2.2.2.2.2.2.2.1,d_1.2.2.2.2.2.2.2.2.2.2.2.1,d_1.2.2.2.2.2.2.2.2.2.2.2.2.1,d_1.2.2.2.2.2.2.2.2.2.2.2.2.2.1),0,0))
 ((aN d_1.2.2.2.2.2.2.2.2.2.2.2.2.2.2.2.2.2.2.2.2 (d_1.2.2.2.2.2.2.2.2.2.2.2.2.2.2.2.2.2.2.1.length:Int)).bind fun t75 =>
 cond (!t75)
 ((am p0).bind fun t78 =>
 some (t78,5,(i1.length:Int)))
 ((bL (d_1.2.2.2.2.2.2.2.1,d_1.2.2.2.2.2.2.2.2.1,d_1.2.2.2.2.2.2.2.2.2.2.2.2.2.2.2.2.2.2.1,d_1.2.2.2.2.2.2.2.2.2.2.2.2.2.2.2.2.2.2.2.1,d_1.2.2.2.2.2.2.2.2.2.2.2.2.2.2.2.2.2.2.2.2.1,d_1.2.2.2.2.2.2.2.2.2.2.2.2.2.2.2.2.2.2.2.2.2,d_1.2.2.2.2.2.2.2.2.2.1,d_1.2.2.2.2.2.2.2.2.2.2.1,d_1.2.2.2.2.2.2.2.2.2.2.2.1,d_1.2.2.2.2.2.2.2.2.2.2.2.2.1,d_1.2.2.2.2.2.2.2.2.2.2.2.2.2.1)).bind fun t82 =>
 some (t82,0,0)))) (fun r_1=>some ((r_1.2.2.1,r_1.2.2.2.1,r_1.2.2.2.2.2.2.2.2.2.1,r_1.2.2.2.2.2.2.2.2.2.2.1,r_1.2.2.2.2.2.2.2.2.2.2.2.1,r_1.2.2.2.2.2.2.2.2.2.2.2.2,r_1.2.2.2.2.1,r_1.2.2.2.2.2.1,r_1.2.2.2.2.2.2.1,r_1.2.2.2.2.2.2.2.1,r_1.2.2.2.2.2.2.2.2.1),r_1.1,r_1.2.1))))
def lZ:List (FuncId × Fn):=(243,⟨[.val true cBridge false,.val false (.one (.sl cBind)) false],[.val true cBridge (some true),.val false cNI (some true),.val false cNI (some true)],fun a=>gw a.1 a.2⟩) :: lY
theorem qE:Gd lZ:=mkM qD 243 Tryz.f243 [(0,⟨⟨[(8,false,[dI])],[(2048,.box [dI,dS,.own 1000000000,.own 1000000001,.own 1000000002,.own 1000000003,dI,dI,dI,dI,dI]),(265216,.box [dI,dS,.own 1000000004,.own 1000000005,.own 1000000006,.own 1000000007,dI,dI,dI,dI,dI]),(1000000000,.root cPt true),(1000000001,.root cFent true),(1000000002,.root cVrow true),(1000000003,.root cNI true),(1000000004,.root cPt true),(1000000005,.root cFent true),(1000000006,.root cVrow true),(1000000007,.root cNI true)]⟩,
 ⟨[],[(2048,.box [dI,dS,.own 1000000300,.own 1000000301,.own 1000000302,.own 1000000303,dI,dI,dI,dI,dI]),(265216,.box [dI,dS,.own 1000000304,.own 1000000305,.own 1000000306,.own 1000000307,dI,dI,dI,dI,dI]),(1000000300,.root cPt true),(1000000301,.root cFent true),(1000000302,.root cVrow true),(1000000303,.root cNI true),(1000000304,.root cPt true),(1000000305,.root cFent true),(1000000306,.root cVrow true),(1000000307,.root cNI true)]⟩,some ⟨[(5,false,[dI]),(6,false,[dI])],[(2048,.box [dI,dS,.own 1000000600,.own 1000000601,.own 1000000602,.own 1000000603,dI,dI,dI,dI,dI]),(1000000600,.root cPt true),(1000000601,.root cFent true),(1000000602,.root cVrow true),(1000000603,.root cNI true)]⟩⟩),
 (2,⟨⟨[(9,false,[dI])],[(2048,.box [dI,dS,.same 1000000000,.same 1000000001,.same 1000000002,.same 1000000003,dI,dI,dI,dI,dI])]⟩,
 ⟨[],[(2048,.box [dI,dS,.same 1000000000,.same 1000000001,.same 1000000002,.same 1000000003,dI,dI,dI,dI,dI])]⟩,some ⟨[(5,false,[dI]),(6,false,[dI])],[(2048,.box [dI,dS,.own 1000002600,.own 1000002601,.own 1000002602,.own 1000002603,dI,dI,dI,dI,dI]),(1000002600,.root cPt true),(1000002601,.root cFent true),(1000002602,.root cVrow true),(1000002603,.root cNI true)]⟩⟩)] Tryz.func243
def fb (b0:Bridge) (p1:Pdu):Option (Bridge × Pdu) :=
 (cP p1.2.2.2.2).bind fun t14 =>
 (gw b0 p1.2.2.2.2).bind fun t20 =>
 (dN (162,p1.2.1,t20.2.1,t20.2.2,t14)).bind fun t29 =>
 (cond (!t29) (some true) (some (t20.2.1 != 0))).bind fun t34 =>
 cond t34
 ((am b0).bind fun t36 =>
 (cS (162,p1.2.1,t20.2.1,t20.2.2,t14) false).bind fun t38 =>
 some (t36,t38))
 (some (t20.1,(162,p1.2.1,t20.2.1,t20.2.2,t14)))
def m5:List (FuncId × Fn):=(127,⟨[.val true cBridge false,.val true cPdu false],[.val true cBridge (some true),.val true cPdu (some true)],fun a=>fb a.1 a.2⟩) :: lZ
theorem qF:Gd m5:=mkM qE 127 Tryz.f127 [] Tryz.func127
def af (l0:List Int):Option (List Int) :=
 (app ([1,3,1]:List Int) l0).bind fun zs5 =>
 some zs5
def m6:List (FuncId × Fn):=(342,⟨[.val false cNN false],[.val false cNN (some true)],fun a=>af a⟩) :: m5
theorem qG:Gd m6:=mkM qF 342 Tryz.f342 [] Tryz.func342
def ah (n0:Int):Option Val :=
 some (2,n0,[],[])
def m7:List (FuncId × Fn):=(262,⟨[.val false cNI false],[.val true cVal (some true)],fun a=>ah a⟩) :: m6
theorem qH:Gd m7:=mkM qG 262 Tryz.f262 [] Tryz.func262
def aj (out0:List Bind) (name1:List Int) (n2:Int):Option (List Bind) :=
 (af name1).bind fun t9 =>
 (ah n2).bind fun t11 =>
 (app out0 [(t9,t11.1,t11.2.1,t11.2.2.1,t11.2.2.2)]).bind fun zs14 =>
 some zs14
def m8:List (FuncId × Fn):=(389,⟨[.val false (.one (.sl cBind)) true,.val false cNN false,.val false cNI false],[.val false (.one (.sl cBind)) (some true)],fun a=>aj a.1 a.2.1 a.2.2⟩) :: m7
theorem qI:Gd m8:=mkM qH 389 Tryz.f389 [] Tryz.func389
def gx (b0:Bridge) (c1:Int) (p2:Int):Option Int :=
 cond (c1 == 1)
 ((at? b0.2.2.1 p2).bind fun x13 =>
 cond x13.1 (some 1) (some 0))
 (cond (c1 == 2)
 ((at? b0.2.2.1 p2).bind fun x21 =>
 some x21.2.1)
 (cond (c1 == 3)
 ((f7 b0.1 b0.2.2.1 p2).bind fun t31 =>
 some t31)
 ((at? b0.2.2.2.2.2.1 p2).bind fun x36 =>
 some x36)))
def m9:List (FuncId × Fn):=(390,⟨[.val true cBridge false,.val false cNI false,.val false cNI false],[.val false cNI (some true)],fun a=>gx a.1 a.2.1 a.2.2⟩) :: m8
theorem qJ:Gd m9:=mkM qI 390 Tryz.f390 [] Tryz.func390
def ia (r0:Vrow) (c1:Int):Option Int :=
 cond (c1 == 1) (some 1) (cond (c1 == 2) (some r0.2.1) (some r0.2.2))
def ma:List (FuncId × Fn):=(391,⟨[.val true cVrow false,.val false cNI false],[.val false cNI (some true)],fun a=>ia a.1 a.2⟩) :: m9
theorem qK:Gd ma:=mkM qJ 391 Tryz.f391 [] Tryz.func391
def ib (p0:Bridge) (t4:Int) (t5:Int) (t3_1:List Bind):Option ((Int × List Bind) ⊕ (List Bind)) :=
 cond (decide (t5 < (p0.2.2.1.length:Int)))
 ((gx p0 t4 t5).bind fun t59 =>
 (aj t3_1 [2,t4,w64 (t5 + 1)] t59).bind fun t60 =>
 some (.inl (w64 (t5 + 1),t60)))
 (some (.inr t3_1))
def ic (p0:Bridge) (t4:Int) (t3:List Bind):Option ((Int × List Bind) ⊕ (List Bind)) :=
 cond (decide (t4 ≤ 4))
 ((loop (fun z=>ib p0 t4 z.1 z.2) (0,t3)).bind fun d =>
 some (.inl (w64 (t4 + 1),d)))
 (some (.inr t3))
def ie (p0:Bridge) (t6:Int) (t7:Int) (t3_5:List Bind):Option ((Int × List Bind) ⊕ (List Bind)) :=
 cond (decide (t7 < (p0.2.2.2.2.1.length:Int)))
 ((at? p0.2.2.2.2.1 t7).bind fun x79 =>
 (at? p0.2.2.2.2.1 t7).bind fun x87 =>
 (ia x87 t6).bind fun t90 =>
 (aj t3_5 [3,t6,x79.1] t90).bind fun t91 =>
 some (.inl (w64 (t7 + 1),t91)))
 (some (.inr t3_5))
def fc (p0:Bridge) (t6:Int) (t3_4:List Bind):Option ((Int × List Bind) ⊕ (List Bind)) :=
 cond (decide (t6 ≤ 3))
 ((loop (fun z=>ie p0 t6 z.1 z.2) (0,t3_4)).bind fun d_2 =>
 some (.inl (w64 (t6 + 1),d_2)))
 (some (.inr t3_4))
def ig (p0:Bridge) (t8:Int) (t3_8:List Bind):Option ((Int × List Bind) ⊕ (List Bind)) :=
 cond (decide (t8 < (p0.2.2.2.1.length:Int)))
 ((at? p0.2.2.2.1 t8).bind fun x103 =>
 (at? p0.2.2.2.1 t8).bind fun x109 =>
 (at? p0.2.2.2.1 t8).bind fun x116 =>
 (aj t3_8 [4,1,x103.1,x109.2.1] (w64 (x116.2.2.1 + 1))).bind fun t120 =>
 some (.inl (w64 (t8 + 1),t120)))
 (some (.inr t3_8))
def cV (p0:Bridge):Option (List Bind) :=
 (aR p0).bind fun t10 =>
 cond (!t10)
 (some ([]:List Bind))
 ((af ([1,1]:List Int)).bind fun t14 =>
 (aj ([(t14,4,0,p0.2.1,[])]) ([1,2]:List Int) p0.2.2.2.2.2.2.1).bind fun t24 =>
 (aj t24 ([1,3]:List Int) p0.2.2.2.2.2.2.2.1).bind fun t29 =>
 (aj t29 ([1,4]:List Int) p0.2.2.2.2.2.2.2.2.1).bind fun t34 =>
 (aj t34 ([1,5]:List Int) p0.2.2.2.2.2.2.2.2.2.1).bind fun t39 =>
 (loop (fun z=>ic p0 z.1 z.2) (1,t39)).bind fun d_1 =>
 (loop (fun z=>fc p0 z.1 z.2) (1,d_1)).bind fun d_3 =>
 (loop (fun z=>ig p0 z.1 z.2) (0,d_3)).bind fun d_4 =>
 some d_4)
def mb:List (FuncId × Fn):=(341,⟨[.val true cBridge false],[.val false (.one (.sl cBind)) (some true)],fun a=>cV a⟩) :: ma
theorem qL:Gd mb:=mkM qK 341 Tryz.f341 [(0,⟨⟨[(3,false,[.own 1000000000]),(4,false,[dI])],[(1000000000,.root cBind true)]⟩,
 ⟨[(3,false,[.own 1000000300])],[(1000000300,.root cBind true)]⟩,none⟩),
 (2,⟨⟨[(3,false,[.own 1000002000]),(5,false,[dI])],[(1000002000,.root cBind true)]⟩,
 ⟨[(3,false,[.own 1000002300])],[(1000002300,.root cBind true)]⟩,none⟩),
 (4,⟨⟨[(3,false,[.own 1000004000]),(6,false,[dI])],[(1000004000,.root cBind true)]⟩,
 ⟨[(3,false,[.own 1000004300])],[(1000004300,.root cBind true)]⟩,none⟩),
 (6,⟨⟨[(3,false,[.own 1000006000]),(7,false,[dI])],[(1000006000,.root cBind true)]⟩,
 ⟨[(3,false,[.own 1000006300])],[(1000006300,.root cBind true)]⟩,none⟩),
 (8,⟨⟨[(3,false,[.own 1000008000]),(8,false,[dI])],[(1000008000,.root cBind true)]⟩,
 ⟨[(3,false,[.own 1000008300])],[(1000008300,.root cBind true)]⟩,none⟩)] Tryz.func341
def qM (a0:List Int) (b1:List Int) (i5:Int):Option (Int ⊕ (Unit ⊕ Bool)) :=
 (cond (decide (i5 < (a0.length:Int))) (some (decide (i5 < (b1.length:Int)))) (some false)).bind fun t15 =>
 cond t15
 ((at? a0 i5).bind fun x20 =>
 (at? b1 i5).bind fun x24 =>
 cond (x20 != x24)
 ((at? a0 i5).bind fun x29 =>
 (at? b1 i5).bind fun x33 =>
 some (.inr (.inr (decide (x29 < x33)))))
 (some (.inl (w64 (i5 + 1)))))
 (some (.inr (.inl ())))
def ii (a0:List Int) (b1:List Int):Option Bool :=
 (loop (fun z=>qM a0 b1 z) 0).bind (Sum.elim (fun d =>
 let t4:=decide ((a0.length:Int) < (b1.length:Int))
 some t4) (fun r=>some r))
def mc:List (FuncId × Fn):=(399,⟨[.val false cNN false,.val false cNN false],[.val false cNB (some true)],fun a=>ii a.1 a.2⟩) :: mb
theorem qN:Gd mc:=mkM qL 399 Tryz.f399 [(0,⟨⟨(5,false,[dI]) :: us 11 4 [],[]⟩,
 ⟨[],[]⟩,some ⟨[(4,false,[dB])],[]⟩⟩)] Tryz.func399
def ij (o1:List Int) (t8:List Bind) (i6:Int) (b1:Int) (b2:Int) (b3:List UInt8) (b0_1:List Int) (b4:List Int):Option ((Int × Int × Int × List UInt8 × List Int × List Int) ⊕ ((Int × Int × List UInt8 × List Int × List Int) ⊕ (List Int × Int × Int × List UInt8 × List Int))) :=
 cond (decide (i6 < (t8.length:Int)))
 ((ix t8.length i6).bind fun j18 =>
 (t8[j18]?).bind fun x20 =>
 (ii o1 x20.1).bind fun t21 =>
 cond t21
 ((ix t8.length i6).bind fun j24 =>
 (t8[j24]?).bind fun x25 =>
 some (.inr (.inr x25)))
 (some (.inl (w64 (i6 + 1),b1,b2,b3,b0_1,b4))))
 (some (.inr (.inl (b1,b2,b3,b0_1,b4))))
def gy (b0:Bridge) (o1:List Int):Option Bind :=
 (cV b0).bind fun t8 =>
 (loop (fun z=>ij o1 t8 z.1 z.2.1 z.2.2.1 z.2.2.2.1 z.2.2.2.2.1 z.2.2.2.2.2) (0,0,0,[],[],[])).bind (Sum.elim (fun d =>
 (app ([]:List Int) o1).bind fun zs28 =>
 some (zs28,130,0,[],[])) (fun r=>some r))
def md:List (FuncId × Fn):=(357,⟨[.val true cBridge false,.val false cNN false],[.val true cBind none],fun a=>gy a.1 a.2⟩) :: mc
theorem qO:Gd md:=mkM qN 357 Tryz.f357 [(0,⟨⟨[(6,false,[dI])],[(2048,.box [.own 1000000000,dI,dI,dS,.own 1000000001]),(1000000000,.root cNI true),(1000000001,.root cNI true)]⟩,
 ⟨[],[(2048,.box [.own 1000000300,dI,dI,dS,.own 1000000301]),(1000000300,.root cNI true),(1000000301,.root cNI true)]⟩,some ⟨[],[(2048,.box [.dat (.sl cNI),dI,dI,dS,.dat (.sl cNI)])]⟩⟩)] Tryz.func357
def fe (b0:Bridge) (from1:List Bind) (i6:Int) (out5:List Bind):Option ((Int × List Bind) ⊕ (List Bind)) :=
 cond (decide (i6 < (from1.length:Int)))
 ((at? from1 i6).bind fun x16 =>
 cond (x16.2.1 == 130)
 ((at? from1 i6).bind fun x24 =>
 (app out5 [x24]).bind fun zs27 =>
 some (.inl (w64 (i6 + 1),zs27)))
 ((at? from1 i6).bind fun x32 =>
 (gy b0 x32.1).bind fun t35 =>
 (app out5 [t35]).bind fun zs37 =>
 some (.inl (w64 (i6 + 1),zs37))))
 (some (.inr out5))
def br (b0:Bridge) (from1:List Bind):Option (List Bind) :=
 (loop (fun z=>fe b0 from1 z.1 z.2) (0,([]:List Bind))).bind fun d =>
 some d
def me:List (FuncId × Fn):=(244,⟨[.val true cBridge false,.val false (.one (.sl cBind)) false],[.val false (.one (.sl cBind)) (some false)],fun a=>br a.1 a.2⟩) :: md
theorem qP:Gd me:=mkM qO 244 Tryz.f244 [(0,⟨⟨[(5,false,[.own 1000000000]),(6,false,[dI])],[(1000000000,.root cBind false)]⟩,
 ⟨[(5,false,[.own 1000000300])],[(1000000300,.root cBind false)]⟩,none⟩)] Tryz.func244
def ff (l0:List Bind) (i4:Int) (out3:List Bind):Option ((Int × List Bind) ⊕ (List Bind)) :=
 cond (decide (i4 < (l0.length:Int)))
 ((at? l0 i4).bind fun x15 =>
 (app out3 ([(x15.1,5,0,[],[])])).bind fun zs21 =>
 some (.inl (w64 (i4 + 1),zs21)))
 (some (.inr out3))
def cW (l0:List Bind):Option (List Bind) :=
 (loop (fun z=>ff l0 z.1 z.2) (0,([]:List Bind))).bind fun d =>
 some d
def mf:List (FuncId × Fn):=(245,⟨[.val false (.one (.sl cBind)) false],[.val false (.one (.sl cBind)) (some false)],fun a=>cW a⟩) :: me
theorem qQ:Gd mf:=mkM qP 245 Tryz.f245 [(0,⟨⟨[(3,false,[.own 1000000000]),(4,false,[dI])],[(1000000000,.root cBind false)]⟩,
 ⟨[(3,false,[.own 1000000300])],[(1000000300,.root cBind false)]⟩,none⟩)] Tryz.func245
def bI (b0:Bridge) (p1:Pdu) (told8:List Bind) (i9:Int) (out7:List Bind):Option ((List Bind × Int × List Bind) ⊕ (List Bind)) :=
 (cond (decide (i9 < p1.2.2.2.1)) (some (decide ((told8.length:Int) > 0))) (some false)).bind fun t39 =>
 (cond t39 (some (decide ((out7.length:Int) < 10))) (some false)).bind fun t44 =>
 cond t44
 ((br b0 told8).bind fun t49 =>
 (app out7 t49).bind fun zs52 =>
 some (.inl (t49,w64 (i9 + 1),zs52)))
 (some (.inr out7))
def qR (b0:Bridge) (p1:Pdu) (told8_1:List Bind) (i9_1:Int) (out7_2:List Bind):Option ((List Bind × Int × List Bind) ⊕ (List Bind)) :=
 (cond (decide (i9_1 < p1.2.2.2.1)) (some (decide ((told8_1.length:Int) > 0))) (some false)).bind fun t39_1 =>
 (cond t39_1 (some (decide ((out7_2.length:Int) < 10))) (some false)).bind fun t44_1 =>
 cond t44_1
 ((br b0 told8_1).bind fun t49_1 =>
 (app out7_2 t49_1).bind fun zs52_1 =>
 some (.inl (t49_1,w64 (i9_1 + 1),zs52_1)))
 (some (.inr out7_2))
def gz (b0:Bridge) (p1:Pdu):Option (List Bind) :=
 cond (decide (p1.2.2.1 > (p1.2.2.2.2.length:Int)))
 (let k5:=(p1.2.2.2.2.length:Int)
 (cW p1.2.2.2.2).bind fun t22 =>
 (cutIx t22.length 0 k5).bind fun p =>
 (br b0 ((t22.take p.2).drop p.1)).bind fun t27 =>
 (cut t22 k5 (t22.length:Int)).bind fun t30 =>
 (loop (fun z=>bI b0 p1 z.1 z.2.1 z.2.2) (t30,0,t27)).bind fun d =>
 cond (decide ((d.length:Int) > 10))
 ((cutIx d.length 0 10).bind fun p_1 =>
 some ((d.take p_1.2).drop p_1.1))
 (some d))
 ((cW p1.2.2.2.2).bind fun t22_1 =>
 (cutIx t22_1.length 0 p1.2.2.1).bind fun p_2 =>
 (br b0 ((t22_1.take p_2.2).drop p_2.1)).bind fun t27_1 =>
 (cut t22_1 p1.2.2.1 (t22_1.length:Int)).bind fun t30_1 =>
 (loop (fun z=>qR b0 p1 z.1 z.2.1 z.2.2) (t30_1,0,t27_1)).bind fun d_1 =>
 cond (decide ((d_1.length:Int) > 10))
 ((cutIx d_1.length 0 10).bind fun p_3 =>
 some ((d_1.take p_3.2).drop p_3.1))
 (some d_1))
def mg:List (FuncId × Fn):=(246,⟨[.val true cBridge false,.val true cPdu false],[.val false (.one (.sl cBind)) (some false)],fun a=>gz a.1 a.2⟩) :: mf
theorem qS:Gd mg:=mkM qQ 246 Tryz.f246 [(0,⟨⟨(7,false,[.own 1000000000]) :: (8,false,[.dat (.sl cBind)]) :: (9,false,[dI]) :: us 36 3 (us 41 3 []),[(1000000000,.root cBind false)]⟩,
 ⟨[(7,false,[.own 1000000300])],[(1000000300,.root cBind false)]⟩,none⟩)] Tryz.func246
def il (o1:List Int) (t8:List Bind) (i6:Int) (b0_1:Int) (b1:Int) (b2:List UInt8) (b3:List Int):Option ((Int × Int × Int × List UInt8 × List Int) ⊕ ((Int × Int × List UInt8 × List Int) ⊕ (Int × Int × List UInt8 × List Int))) :=
 cond (decide (i6 < (t8.length:Int)))
 ((ix t8.length i6).bind fun j17 =>
 (t8[j17]?).bind fun x19 =>
 (cU x19.1 o1).bind fun t21 =>
 cond t21
 ((ix t8.length i6).bind fun j24 =>
 (t8[j24]?).bind fun x26 =>
 some (.inr (.inr x26.2)))
 (some (.inl (w64 (i6 + 1),b0_1,b1,b2,b3))))
 (some (.inr (.inl (b0_1,b1,b2,b3))))
def gA (b0:Bridge) (o1:List Int):Option Val :=
 (cV b0).bind fun t8 =>
 (loop (fun z=>il o1 t8 z.1 z.2.1 z.2.2.1 z.2.2.2.1 z.2.2.2.2) (0,0,0,[],[])).bind (Sum.elim (fun d =>
 some (128,0,[],[])) (fun r=>some r))
def mh:List (FuncId × Fn):=(247,⟨[.val true cBridge false,.val false cNN false],[.val true cVal none],fun a=>gA a.1 a.2⟩) :: mg
theorem qT:Gd mh:=mkM qS 247 Tryz.f247 [(0,⟨⟨[(6,false,[dI])],[(2048,.box [dI,dI,dS,.own 1000000000]),(1000000000,.root cNI true)]⟩,
 ⟨[],[(2048,.box [dI,dI,dS,.own 1000000300]),(1000000300,.root cNI true)]⟩,some ⟨[],[(2048,.box [dI,dI,dS,.dat (.sl cNI)])]⟩⟩)] Tryz.func247
def dP (b0:Bridge) (p1:Pdu) (i6:Int) (out5:List Bind):Option ((Int × List Bind) ⊕ (List Bind)) :=
 cond (decide (i6 < (p1.2.2.2.2.length:Int)))
 ((at? p1.2.2.2.2 i6).bind fun x34 =>
 (app ([]:List Int) x34.1).bind fun zs37 =>
 (at? p1.2.2.2.2 i6).bind fun x42 =>
 (gA b0 x42.1).bind fun t45 =>
 (app out5 [(zs37,t45.1,t45.2.1,t45.2.2.1,t45.2.2.2)]).bind fun zs48 =>
 some (.inl (w64 (i6 + 1),zs48)))
 (some (.inr out5))
def gB (b0:Bridge) (p1:Pdu):Option (List Bind) :=
 cond (p1.1 == 161)
 ((cW p1.2.2.2.2).bind fun t14 =>
 (br b0 t14).bind fun t15 =>
 some t15)
 (cond (p1.1 == 165)
 ((gz b0 p1).bind fun t20 =>
 some t20)
 ((loop (fun z=>dP b0 p1 z.1 z.2) (0,([]:List Bind))).bind fun d =>
 some d))
def mi:List (FuncId × Fn):=(129,⟨[.val true cBridge false,.val true cPdu false],[.val false (.one (.sl cBind)) (some false)],fun a=>gB a.1 a.2⟩) :: mh
theorem qU:Gd mi:=mkM qT 129 Tryz.f129 [(1,⟨⟨[(5,false,[.own 1000001000]),(6,false,[dI])],[(1000001000,.root cBind false)]⟩,
 ⟨[(5,false,[.own 1000001300])],[(1000001300,.root cBind false)]⟩,none⟩)] Tryz.func129
def gC (b0:Bridge) (p1:Pdu):Option (Bridge × Pdu × Bool) :=
 (gZ b0 p1).bind fun t12 =>
 cond (!t12)
 ((am b0).bind fun t15 =>
 some (t15,(0,0,0,0,[]),false))
 (cond (p1.1 == 163)
 ((fb b0 p1).bind fun t23 =>
 some (t23.1,t23.2,true))
 ((gB b0 p1).bind fun t32 =>
 (cP t32).bind fun t33 =>
 (am b0).bind fun t36 =>
 (cS (162,p1.2.1,0,0,t33) (p1.1 == 165)).bind fun t41 =>
 some (t36,t41,true)))
def mj:List (FuncId × Fn):=(31,⟨[.val true cBridge false,.val true cPdu false],[.val true cBridge (some true),.val true cPdu (some true),.val false cNB (some true)],fun a=>gC a.1 a.2⟩) :: mi
theorem qV:Gd mj:=mkM qU 31 Tryz.f31 [] Tryz.func31
def cX (p0:List Int) (i1:Int):Option (Int × (List Int) × Int × Bool) :=
 (cond (decide (i1 < 0)) (some true) (some (decide (i1 ≥ (p0.length:Int))))).bind fun t17 =>
 (cond t17 (some true) (some (decide ((w64 (i1 + 1)) ≥ (p0.length:Int))))).bind fun t24 =>
 cond t24
 (some (0,([]:List Int),0,false))
 ((at? p0 (w64 (i1 + 1))).bind fun x29 =>
 cond (decide ((w64 (x29)) > 127))
 ((cond ((w64 (x29)) != 129) (some true) (some (decide ((w64 (i1 + 2)) ≥ (p0.length:Int))))).bind fun t43 =>
 (cond t43
 (some true)
 ((at? p0 (w64 (i1 + 2))).bind fun x47 =>
 some (decide (x47 < 128)))).bind fun t50 =>
 cond t50
 (some (0,([]:List Int),0,false))
 ((at? p0 (w64 (i1 + 2))).bind fun x54 =>
 (cond (decide ((w64 (x54)) > 250))
 (some true)
 (some (decide ((w64 (x54)) > (w64 ((p0.length:Int) - (w64 ((w64 (i1 + 2)) + 1)))))))).bind fun t68 =>
 cond t68
 (some (0,([]:List Int),0,false))
 ((at? p0 i1).bind fun x72 =>
 (cut p0 (w64 ((w64 (i1 + 2)) + 1)) (w64 ((w64 ((w64 (i1 + 2)) + 1)) + (w64 (x54))))).bind fun t81 =>
 (app ([]:List Int) t81).bind fun zs82 =>
 let t6:=w64 ((w64 ((w64 (i1 + 2)) + 1)) + (w64 (x54)))
 some (w64 (x72),zs82,t6,true))))
 ((cond (decide ((w64 (x29)) > 250))
 (some true)
 (some (decide ((w64 (x29)) > (w64 ((p0.length:Int) - (w64 (i1 + 2)))))))).bind fun t68_1 =>
 cond t68_1
 (some (0,([]:List Int),0,false))
 ((at? p0 i1).bind fun x72_1 =>
 (cut p0 (w64 (i1 + 2)) (w64 ((w64 (i1 + 2)) + (w64 (x29))))).bind fun t81_1 =>
 (app ([]:List Int) t81_1).bind fun zs82_1 =>
 let t6_1:=w64 ((w64 (i1 + 2)) + (w64 (x29)))
 some (w64 (x72_1),zs82_1,t6_1,true))))
def ml:List (FuncId × Fn):=(293,⟨[.val false cNY false,.val false cNI false],[.val false cNI (some true),.val false cNY (some true),.val false cNI (some true),.val false cNB (some true)],fun a=>cX a.1 a.2⟩) :: mj
theorem qW:Gd ml:=mkM qV 293 Tryz.f293 [] Tryz.func293
def bJ (r0:L4Reader) (tag1:Int):Option (L4Reader × List Int) :=
 (cX r0.1 r0.2.1).bind fun t18 =>
 (cond r0.2.2 (some true) (some (!t18.2.2.2))).bind fun t30 =>
 (cond t30 (some true) (some (t18.1 != tag1))).bind fun t35 =>
 cond t35
 (some ((r0.1,r0.2.1,true),([]:List Int)))
 (some ((r0.1,t18.2.2.1,r0.2.2),t18.2.1))
def mn:List (FuncId × Fn):=(295,⟨[.ptr cL4Reader none,.val false cNI false],[.val false cNY (some true)],fun a=>bJ a.1 a.2⟩) :: ml
theorem qX:Gd mn:=mkM qW 295 Tryz.f295 [] Tryz.func295
def dQ (b0:List Int) (n4:Int) (i5:Int):Option ((Int × Int) ⊕ Int) :=
 cond (decide (i5 < (b0.length:Int)))
 ((at? b0 i5).bind fun x28 =>
 let n4_1:=bor .i64 (w64 (n4 * 2 ^ 8)) (w64 (x28))
 some (.inl (n4_1,w64 (i5 + 1))))
 (some (.inr n4))
def dR (b0:List Int) (n4_3:Int) (i5_1:Int):Option ((Int × Int) ⊕ Int) :=
 cond (decide (i5_1 < (b0.length:Int)))
 ((at? b0 i5_1).bind fun x28_1 =>
 let n4_4:=bor .i64 (w64 (n4_3 * 2 ^ 8)) (w64 (x28_1))
 some (.inl (n4_4,w64 (i5_1 + 1))))
 (some (.inr n4_3))
def fg (b0:List Int):Option (Int × Bool) :=
 (ae (b0.length:Int) 1 4).bind fun t8 =>
 cond (!t8)
 (some (0,false))
 ((at? b0 0).bind fun x11 =>
 cond (decide ((w64 (x11)) > 127))
 ((loop (fun z=>dQ b0 z.1 z.2) (w64 ((w64 (x11)) - 256),1)).bind fun d =>
 (aQ d).bind fun t33 =>
 cond ((t33.length:Int) != (b0.length:Int)) (some (0,false)) (some (d,true)))
 ((loop (fun z=>dR b0 z.1 z.2) (w64 (x11),1)).bind fun d_1 =>
 (aQ d_1).bind fun t33_1 =>
 cond ((t33_1.length:Int) != (b0.length:Int)) (some (0,false)) (some (d_1,true))))
def mo:List (FuncId × Fn):=(377,⟨[.val false cNY false],[.val false cNI (some true),.val false cNB (some true)],fun a=>fg a⟩) :: mn
theorem qY:Gd mo:=mkM qX 377 Tryz.f377 [(0,⟨⟨[(4,false,[dI]),(5,false,[dI])],[]⟩,
 ⟨[(4,false,[dI])],[]⟩,none⟩)] Tryz.func377
def cY (r0:L4Reader):Option (L4Reader × Int) :=
 (bJ r0 2).bind fun t7 =>
 (fg t7.2).bind fun t8 =>
 (cond t7.1.2.2 (some true) (some (!t8.2))).bind fun t19 =>
 some ((t7.1.1,t7.1.2.1,t19),t8.1)
def mp:List (FuncId × Fn):=(294,⟨[.ptr cL4Reader none],[.val false cNI (some true)],fun a=>cY a⟩) :: mo
theorem qZ:Gd mp:=mkM qY 294 Tryz.f294 [] Tryz.func294
def aG (p0:List Int) (t5_1:Int) (t6:Int) (t7:Int) (t8:Bool):Option ((Int × Int × Int × Bool) ⊕ (Int × Int × Int × Bool)) :=
 (cond t8 (some (decide (t5_1 < (p0.length:Int)))) (some false)).bind fun t25 =>
 (cond t25 (some (decide (t7 < 4))) (some false)).bind fun t29 =>
 cond t29
 ((at? p0 t5_1).bind fun x34 =>
 let t6_1:=bor .i64 (w64 (t6 * 2 ^ 7)) (w64 (band .u8 x34 127))
 (at? p0 t5_1).bind fun x41 =>
 some (.inl (w64 (t5_1 + 1),t6_1,w64 (t7 + 1),decide (x41 > 127))))
 (some (.inr (t5_1,t6,t7,t8)))
def ar (p0:List Int) (t5:Int) (t4:List Int):Option ((Int × List Int) ⊕ ((Int × List Int) ⊕ (Bool × List Int))) :=
 (cond (decide (t5 < (p0.length:Int))) (some (decide ((t4.length:Int) ≤ 10))) (some false)).bind fun t18 =>
 cond t18
 ((loop (fun z=>aG p0 z.1 z.2.1 z.2.2.1 z.2.2.2) (t5,0,0,true)).bind fun d =>
 (cond d.2.2.2
 (some true)
 ((dM d.2.1).bind fun t51 =>
 some ((t51.length:Int) != d.2.2.1))).bind fun t55 =>
 cond t55
 (some (.inr (.inr (false,([]:List Int)))))
 ((app t4 [d.2.1]).bind fun zs60 =>
 some (.inl (d.1,zs60))))
 (some (.inr (.inl (t5,t4))))
def ch (p0:List Int):Option ((List Int) × Bool) :=
 (loop (fun z=>ar p0 z.1 z.2) (0,([]:List Int))).bind (Sum.elim (fun d_1 =>
 (cond (d_1.1 != (p0.length:Int))
 (some true)
 ((bE d_1.2).bind fun t67 =>
 some (!t67))).bind fun t69 =>
 cond t69 (some (([]:List Int),false)) (some (d_1.2,true))) (fun r=>some (r.2,r.1)))
def mq:List (FuncId × Fn):=(405,⟨[.val false cNY false],[.val false cNN (some true),.val false cNB (some true)],fun a=>ch a⟩) :: mp
theorem r7:Gd mq:=mkM qZ 405 Tryz.f405 [(0,⟨⟨(4,false,[.own 1000000000]) :: (5,false,[dI]) :: us 15 3 (us 21 4 (us 27 2 (us 50 5 []))),[(1000000000,.root cNI true)]⟩,
 ⟨[(4,false,[.own 1000000300]),(5,false,[dI])],[(1000000300,.root cNI true)]⟩,some ⟨[(2,false,[.own 1000000600]),(3,false,[dB])],[(1000000600,.root cNI true)]⟩⟩),
 (2,⟨⟨(5,false,[dI]) :: (6,false,[dI]) :: (7,false,[dI]) :: (8,false,[dB]) :: us 21 4 (us 27 2 []),[]⟩,
 ⟨(5,false,[dI]) :: (6,false,[dI]) :: (7,false,[dI]) :: (8,false,[dB]) :: us 21 4 (us 27 2 []),[]⟩,none⟩)] Tryz.func405
def gD (b0:List Int) (at1:Int):Option (Val × Int × Bool) :=
 (cX b0 at1).bind fun t16 =>
 cond (t16.1 == 2)
 ((fg t16.2.1).bind fun t31 =>
 (cond (!t16.2.2.2) (some true) (some (!t31.2))).bind fun t53 =>
 (cond t53
 (some true)
 ((bp (t16.1,t31.1,[],[])).bind fun t56 =>
 some (!t56))).bind fun t58 =>
 cond t58
 (some ((0,0,[],[]),0,false))
 (some ((t16.1,t31.1,[],[]),t16.2.2.1,true)))
 (cond (t16.1 == 4)
 ((cond (!t16.2.2.2) (some true) (some (!true))).bind fun t53_1 =>
 (cond t53_1
 (some true)
 ((bp (t16.1,0,bytesOf t16.2.1,[])).bind fun t56_1 =>
 some (!t56_1))).bind fun t58_1 =>
 cond t58_1
 (some ((0,0,[],[]),0,false))
 (some ((t16.1,0,bytesOf t16.2.1,[]),t16.2.2.1,true)))
 (cond (t16.1 == 6)
 ((ch t16.2.1).bind fun t44 =>
 (cond (!t16.2.2.2) (some true) (some (!t44.2))).bind fun t53_2 =>
 (cond t53_2
 (some true)
 ((bp (t16.1,0,[],t44.1)).bind fun t56_2 =>
 some (!t56_2))).bind fun t58_2 =>
 cond t58_2
 (some ((0,0,[],[]),0,false))
 (some ((t16.1,0,[],t44.1),t16.2.2.1,true)))
 (let is12:=(t16.2.1.length:Int) == 0
 (cond (!t16.2.2.2) (some true) (some (!is12))).bind fun t53_3 =>
 (cond t53_3
 (some true)
 ((bp (t16.1,0,[],[])).bind fun t56_3 =>
 some (!t56_3))).bind fun t58_3 =>
 cond t58_3
 (some ((0,0,[],[]),0,false))
 (some ((t16.1,0,[],[]),t16.2.2.1,true)))))
def mr:List (FuncId × Fn):=(406,⟨[.val false cNY false,.val false cNI false],[.val true cVal (some true),.val false cNI (some true),.val false cNB (some true)],fun a=>gD a.1 a.2⟩) :: mq
theorem r8:Gd mr:=mkM r7 406 Tryz.f406 [] Tryz.func406
def gE (b0:List Int):Option (Bind × Bool) :=
 (bJ (b0,0,false) 6).bind fun t15 =>
 (ch t15.2).bind fun t16 =>
 (gD b0 t15.1.2.1).bind fun t25 =>
 (cond t15.1.2.2 (some true) (some (!t16.2))).bind fun t36 =>
 (cond t36 (some true) (some (!t25.2.2))).bind fun t40 =>
 (cond t40 (some true) (some (t25.2.1 != (b0.length:Int)))).bind fun t46 =>
 cond t46
 (some (([],0,0,[],[]),false))
 (some ((t16.1,t25.1.1,t25.1.2.1,t25.1.2.2.1,t25.1.2.2.2),true))
def mt:List (FuncId × Fn):=(378,⟨[.val false cNY false],[.val true cBind (some true),.val false cNB (some true)],fun a=>gE a⟩) :: mr
theorem r9:Gd mt:=mkM r8 378 Tryz.f378 [] Tryz.func378
def au (b0:List Int) (b1:Int) (b2:Bool) (b0_1:Int) (b1_1:Int) (b2_1:Int) (b3:Int) (b0_2:List Int) (b1_2:Int) (b2_2:Bool) (b4:List Bind):Option ((List Int × Int × Bool × Int × Int × Int × Int × List Int × Int × Bool × List Bind) ⊕ (List Int × Int × Bool × Int × Int × Int × Int × List Int × Int × Bool × List Bind)) :=
 (cond (!b2) (some (decide (b1_2 < (b0_2.length:Int)))) (some false)).bind fun t54 =>
 (cond t54 (some (decide ((b4.length:Int) ≤ 10))) (some false)).bind fun t60 =>
 cond t60
 ((bJ (b0_2,b1_2,b2_2) 48).bind fun t63 =>
 (gE t63.2).bind fun t64 =>
 (cond t63.1.2.2 (some true) (some (!t64.2))).bind fun t75 =>
 (app b4 [t64.1]).bind fun zs82 =>
 some (.inl (b0,b1,t75,b0_1,b1_1,b2_1,b3,t63.1.1,t63.1.2.1,t63.1.2.2,zs82)))
 (some (.inr (b0,b1,b2,b0_1,b1_1,b2_1,b3,b0_2,b1_2,b2_2,b4)))
def gF (p0:List Int):Option (Pdu × Bool) :=
 (cX p0 0).bind fun t15 =>
 (cY (t15.2.1,0,false)).bind fun t26 =>
 (cY t26.1).bind fun t29 =>
 (cY t29.1).bind fun t32 =>
 (bJ t32.1 48).bind fun t35 =>
 (loop (fun z=>au z.1 z.2.1 z.2.2.1 z.2.2.2.1 z.2.2.2.2.1 z.2.2.2.2.2.1 z.2.2.2.2.2.2.1 z.2.2.2.2.2.2.2.1 z.2.2.2.2.2.2.2.2.1 z.2.2.2.2.2.2.2.2.2.1 z.2.2.2.2.2.2.2.2.2.2) (t35.1.1,t35.1.2.1,t35.1.2.2,t15.1,t26.2,t29.2,t32.2,t35.2,0,false,[])).bind fun d =>
 (cond (!t15.2.2.2) (some true) (some (t15.2.2.1 != (p0.length:Int)))).bind fun t91 =>
 (cond t91 (some true) (some d.2.2.1)).bind fun t97 =>
 (cond t97 (some true) (some (d.2.1 != (t15.2.1.length:Int)))).bind fun t106 =>
 (cond t106
 (some true)
 (some (d.2.2.2.2.2.2.2.2.1 != (d.2.2.2.2.2.2.2.1.length:Int)))).bind fun t118 =>
 (cond t118
 (some true)
 ((bG (d.2.2.2.1,d.2.2.2.2.1,d.2.2.2.2.2.1,d.2.2.2.2.2.2.1,d.2.2.2.2.2.2.2.2.2.2)).bind fun t121 =>
 some (!t121))).bind fun t123 =>
 cond t123
 (some ((0,0,0,0,[]),false))
 (some ((d.2.2.2.1,d.2.2.2.2.1,d.2.2.2.2.2.1,d.2.2.2.2.2.2.1,d.2.2.2.2.2.2.2.2.2.2),true))
def mu:List (FuncId × Fn):=(296,⟨[.val false cNY false],[.val true cPdu (some true),.val false cNB (some true)],fun a=>gF a⟩) :: mt
theorem ra:Gd mu:=mkM r9 296 Tryz.f296 [(0,⟨⟨us 44 10 (us 56 4 (us 73 2 [])),[(527360,.box [.dat (.sl (.one (.int .u8))),dI,dB]),(789504,.box [dI,dI,dI,dI,.own 1000000000]),(1839104,.box [.dat (.sl (.one (.int .u8))),dI,dB]),(1000000000,.root cBind true)]⟩,
 ⟨[],[(527360,.box [.dat (.sl (.one (.int .u8))),dI,dB]),(789504,.box [dI,dI,dI,dI,.own 1000000300]),(1839104,.box [.dat (.sl (.one (.int .u8))),dI,dB]),(1000000300,.root cBind true)]⟩,none⟩)] Tryz.func296
def cG (p0:List UInt8) (i1:List Int):Option (Pdu × Int) :=
 (cX i1 0).bind fun t17 =>
 (cY (t17.2.1,0,false)).bind fun t26 =>
 (bJ t26.1 4).bind fun t28 =>
 (cond (!t17.2.2.2) (some true) (some (t17.1 != 48))).bind fun t34 =>
 (cond t34 (some true) (some (t17.2.2.1 != (i1.length:Int)))).bind fun t40 =>
 (cond t40 (some true) (some t28.1.2.2)).bind fun t46 =>
 cond t46
 (some ((0,0,0,0,[]),1))
 (cond (t26.2 != 1)
 (some ((0,0,0,0,[]),2))
 (cond (!((bytesOf t28.2) == p0))
 (some ((0,0,0,0,[]),3))
 ((cut t17.2.1 t28.1.2.1 (t17.2.1.length:Int)).bind fun t62 =>
 (gF t62).bind fun t63 =>
 cond (!t63.2) (some ((0,0,0,0,[]),1)) (some (t63.1,0)))))
def mw:List (FuncId × Fn):=(191,⟨[.val false cNS false,.val false cNY false],[.val true cPdu (some true),.val false cNI (some true)],fun a=>cG a.1 a.2⟩) :: mu
theorem rb:Gd mw:=mkM ra 191 Tryz.f191 [] Tryz.func191
def fh (a0:Agent) (k1:Int):Option Agent :=
 (ix a0.2.2.2.2.2.2.2.2.2.2.2.2.1.length k1).bind fun j9 =>
 (a0.2.2.2.2.2.2.2.2.2.2.2.2.1[j9]?).bind fun x =>
 (am (a0.1,a0.2.1,a0.2.2.1,a0.2.2.2.1,a0.2.2.2.2.1,a0.2.2.2.2.2.1,a0.2.2.2.2.2.2.1,a0.2.2.2.2.2.2.2.1,a0.2.2.2.2.2.2.2.2.1,a0.2.2.2.2.2.2.2.2.2.1,a0.2.2.2.2.2.2.2.2.2.2.1)).bind fun t20 =>
 (ix (a0.2.2.2.2.2.2.2.2.2.2.2.2.1.set j9 (x.1,x.2.1,1,x.2.2.2.1,x.2.2.2.2.1,x.2.2.2.2.2.1,x.2.2.2.2.2.2.1,x.2.2.2.2.2.2.2.1,x.2.2.2.2.2.2.2.2.1,x.2.2.2.2.2.2.2.2.2.1,x.2.2.2.2.2.2.2.2.2.2.1,x.2.2.2.2.2.2.2.2.2.2.2.1,x.2.2.2.2.2.2.2.2.2.2.2.2.1,x.2.2.2.2.2.2.2.2.2.2.2.2.2.1,x.2.2.2.2.2.2.2.2.2.2.2.2.2.2.1,x.2.2.2.2.2.2.2.2.2.2.2.2.2.2.2.1,x.2.2.2.2.2.2.2.2.2.2.2.2.2.2.2.2.1,x.2.2.2.2.2.2.2.2.2.2.2.2.2.2.2.2.2.1,x.2.2.2.2.2.2.2.2.2.2.2.2.2.2.2.2.2.2.1,x.2.2.2.2.2.2.2.2.2.2.2.2.2.2.2.2.2.2.2.1,x.2.2.2.2.2.2.2.2.2.2.2.2.2.2.2.2.2.2.2.2)).length k1).bind fun j21 =>
 ((a0.2.2.2.2.2.2.2.2.2.2.2.2.1.set j9 (x.1,x.2.1,1,x.2.2.2.1,x.2.2.2.2.1,x.2.2.2.2.2.1,x.2.2.2.2.2.2.1,x.2.2.2.2.2.2.2.1,x.2.2.2.2.2.2.2.2.1,x.2.2.2.2.2.2.2.2.2.1,x.2.2.2.2.2.2.2.2.2.2.1,x.2.2.2.2.2.2.2.2.2.2.2.1,x.2.2.2.2.2.2.2.2.2.2.2.2.1,x.2.2.2.2.2.2.2.2.2.2.2.2.2.1,x.2.2.2.2.2.2.2.2.2.2.2.2.2.2.1,x.2.2.2.2.2.2.2.2.2.2.2.2.2.2.2.1,x.2.2.2.2.2.2.2.2.2.2.2.2.2.2.2.2.1,x.2.2.2.2.2.2.2.2.2.2.2.2.2.2.2.2.2.1,x.2.2.2.2.2.2.2.2.2.2.2.2.2.2.2.2.2.2.1,x.2.2.2.2.2.2.2.2.2.2.2.2.2.2.2.2.2.2.2.1,x.2.2.2.2.2.2.2.2.2.2.2.2.2.2.2.2.2.2.2.2))[j21]?).bind fun x_1 =>
 (ix ((a0.2.2.2.2.2.2.2.2.2.2.2.2.1.set j9 (x.1,x.2.1,1,x.2.2.2.1,x.2.2.2.2.1,x.2.2.2.2.2.1,x.2.2.2.2.2.2.1,x.2.2.2.2.2.2.2.1,x.2.2.2.2.2.2.2.2.1,x.2.2.2.2.2.2.2.2.2.1,x.2.2.2.2.2.2.2.2.2.2.1,x.2.2.2.2.2.2.2.2.2.2.2.1,x.2.2.2.2.2.2.2.2.2.2.2.2.1,x.2.2.2.2.2.2.2.2.2.2.2.2.2.1,x.2.2.2.2.2.2.2.2.2.2.2.2.2.2.1,x.2.2.2.2.2.2.2.2.2.2.2.2.2.2.2.1,x.2.2.2.2.2.2.2.2.2.2.2.2.2.2.2.2.1,x.2.2.2.2.2.2.2.2.2.2.2.2.2.2.2.2.2.1,x.2.2.2.2.2.2.2.2.2.2.2.2.2.2.2.2.2.2.1,x.2.2.2.2.2.2.2.2.2.2.2.2.2.2.2.2.2.2.2.1,x.2.2.2.2.2.2.2.2.2.2.2.2.2.2.2.2.2.2.2.2)).set j21 (x_1.1,x_1.2.1,x_1.2.2.1,x_1.2.2.2.1,x_1.2.2.2.2.1,x_1.2.2.2.2.2.1,x_1.2.2.2.2.2.2.1,x_1.2.2.2.2.2.2.2.1,t20.1,t20.2.1,t20.2.2.1,t20.2.2.2.1,t20.2.2.2.2.1,t20.2.2.2.2.2.1,t20.2.2.2.2.2.2.1,t20.2.2.2.2.2.2.2.1,t20.2.2.2.2.2.2.2.2.1,t20.2.2.2.2.2.2.2.2.2.1,t20.2.2.2.2.2.2.2.2.2.2,x_1.2.2.2.2.2.2.2.2.2.2.2.2.2.2.2.2.2.2.2.1,x_1.2.2.2.2.2.2.2.2.2.2.2.2.2.2.2.2.2.2.2.2)).length k1).bind fun j28 =>
 (((a0.2.2.2.2.2.2.2.2.2.2.2.2.1.set j9 (x.1,x.2.1,1,x.2.2.2.1,x.2.2.2.2.1,x.2.2.2.2.2.1,x.2.2.2.2.2.2.1,x.2.2.2.2.2.2.2.1,x.2.2.2.2.2.2.2.2.1,x.2.2.2.2.2.2.2.2.2.1,x.2.2.2.2.2.2.2.2.2.2.1,x.2.2.2.2.2.2.2.2.2.2.2.1,x.2.2.2.2.2.2.2.2.2.2.2.2.1,x.2.2.2.2.2.2.2.2.2.2.2.2.2.1,x.2.2.2.2.2.2.2.2.2.2.2.2.2.2.1,x.2.2.2.2.2.2.2.2.2.2.2.2.2.2.2.1,x.2.2.2.2.2.2.2.2.2.2.2.2.2.2.2.2.1,x.2.2.2.2.2.2.2.2.2.2.2.2.2.2.2.2.2.1,x.2.2.2.2.2.2.2.2.2.2.2.2.2.2.2.2.2.2.1,x.2.2.2.2.2.2.2.2.2.2.2.2.2.2.2.2.2.2.2.1,x.2.2.2.2.2.2.2.2.2.2.2.2.2.2.2.2.2.2.2.2)).set j21 (x_1.1,x_1.2.1,x_1.2.2.1,x_1.2.2.2.1,x_1.2.2.2.2.1,x_1.2.2.2.2.2.1,x_1.2.2.2.2.2.2.1,x_1.2.2.2.2.2.2.2.1,t20.1,t20.2.1,t20.2.2.1,t20.2.2.2.1,t20.2.2.2.2.1,t20.2.2.2.2.2.1,t20.2.2.2.2.2.2.1,t20.2.2.2.2.2.2.2.1,t20.2.2.2.2.2.2.2.2.1,t20.2.2.2.2.2.2.2.2.2.1,t20.2.2.2.2.2.2.2.2.2.2,x_1.2.2.2.2.2.2.2.2.2.2.2.2.2.2.2.2.2.2.2.1,x_1.2.2.2.2.2.2.2.2.2.2.2.2.2.2.2.2.2.2.2.2))[j28]?).bind fun x_2 =>
 some (a0.1,a0.2.1,a0.2.2.1,a0.2.2.2.1,a0.2.2.2.2.1,a0.2.2.2.2.2.1,a0.2.2.2.2.2.2.1,a0.2.2.2.2.2.2.2.1,a0.2.2.2.2.2.2.2.2.1,a0.2.2.2.2.2.2.2.2.2.1,a0.2.2.2.2.2.2.2.2.2.2.1,a0.2.2.2.2.2.2.2.2.2.2.2.1,((a0.2.2.2.2.2.2.2.2.2.2.2.2.1.set j9 (x.1,x.2.1,1,x.2.2.2.1,x.2.2.2.2.1,x.2.2.2.2.2.1,x.2.2.2.2.2.2.1,x.2.2.2.2.2.2.2.1,x.2.2.2.2.2.2.2.2.1,x.2.2.2.2.2.2.2.2.2.1,x.2.2.2.2.2.2.2.2.2.2.1,x.2.2.2.2.2.2.2.2.2.2.2.1,x.2.2.2.2.2.2.2.2.2.2.2.2.1,x.2.2.2.2.2.2.2.2.2.2.2.2.2.1,x.2.2.2.2.2.2.2.2.2.2.2.2.2.2.1,x.2.2.2.2.2.2.2.2.2.2.2.2.2.2.2.1,x.2.2.2.2.2.2.2.2.2.2.2.2.2.2.2.2.1,x.2.2.2.2.2.2.2.2.2.2.2.2.2.2.2.2.2.1,x.2.2.2.2.2.2.2.2.2.2.2.2.2.2.2.2.2.2.1,x.2.2.2.2.2.2.2.2.2.2.2.2.2.2.2.2.2.2.2.1,x.2.2.2.2.2.2.2.2.2.2.2.2.2.2.2.2.2.2.2.2)).set j21 (x_1.1,x_1.2.1,x_1.2.2.1,x_1.2.2.2.1,x_1.2.2.2.2.1,x_1.2.2.2.2.2.1,x_1.2.2.2.2.2.2.1,x_1.2.2.2.2.2.2.2.1,t20.1,t20.2.1,t20.2.2.1,t20.2.2.2.1,t20.2.2.2.2.1,t20.2.2.2.2.2.1,t20.2.2.2.2.2.2.1,t20.2.2.2.2.2.2.2.1,t20.2.2.2.2.2.2.2.2.1,t20.2.2.2.2.2.2.2.2.2.1,t20.2.2.2.2.2.2.2.2.2.2,x_1.2.2.2.2.2.2.2.2.2.2.2.2.2.2.2.2.2.2.2.1,x_1.2.2.2.2.2.2.2.2.2.2.2.2.2.2.2.2.2.2.2.2)).set j28 (x_2.1,x_2.2.1,x_2.2.2.1,x_2.2.2.2.1,x_2.2.2.2.2.1,x_2.2.2.2.2.2.1,x_2.2.2.2.2.2.2.1,x_2.2.2.2.2.2.2.2.1,x_2.2.2.2.2.2.2.2.2.1,x_2.2.2.2.2.2.2.2.2.2.1,x_2.2.2.2.2.2.2.2.2.2.2.1,x_2.2.2.2.2.2.2.2.2.2.2.2.1,x_2.2.2.2.2.2.2.2.2.2.2.2.2.1,x_2.2.2.2.2.2.2.2.2.2.2.2.2.2.1,x_2.2.2.2.2.2.2.2.2.2.2.2.2.2.2.1,x_2.2.2.2.2.2.2.2.2.2.2.2.2.2.2.2.1,x_2.2.2.2.2.2.2.2.2.2.2.2.2.2.2.2.2.1,x_2.2.2.2.2.2.2.2.2.2.2.2.2.2.2.2.2.2.1,x_2.2.2.2.2.2.2.2.2.2.2.2.2.2.2.2.2.2.2.1,0,x_2.2.2.2.2.2.2.2.2.2.2.2.2.2.2.2.2.2.2.2.2),a0.2.2.2.2.2.2.2.2.2.2.2.2.2.1,a0.2.2.2.2.2.2.2.2.2.2.2.2.2.2)
def my:List (FuncId × Fn):=(379,⟨[.ptr cAgent (some false),.val false cNI false],[],fun a=>fh a.1 a.2⟩) :: mw
theorem re:Gd my:=mkM rb 379 Tryz.f379 [] Tryz.func379
def dU (a0:Agent) (k1:Int):Option Agent :=
 (cutIx a0.2.2.2.2.2.2.2.2.2.2.2.2.1.length 0 k1).bind fun p =>
 (app ([]:List Job) ((a0.2.2.2.2.2.2.2.2.2.2.2.2.1.take p.2).drop p.1)).bind fun zs12 =>
 (cutIx a0.2.2.2.2.2.2.2.2.2.2.2.2.1.length (w64 (k1 + 1)) (a0.2.2.2.2.2.2.2.2.2.2.2.2.1.length:Int)).bind fun p_1 =>
 (app zs12 ((a0.2.2.2.2.2.2.2.2.2.2.2.2.1.take p_1.2).drop p_1.1)).bind fun zs20 =>
 some (a0.1,a0.2.1,a0.2.2.1,a0.2.2.2.1,a0.2.2.2.2.1,a0.2.2.2.2.2.1,a0.2.2.2.2.2.2.1,a0.2.2.2.2.2.2.2.1,a0.2.2.2.2.2.2.2.2.1,a0.2.2.2.2.2.2.2.2.2.1,a0.2.2.2.2.2.2.2.2.2.2.1,a0.2.2.2.2.2.2.2.2.2.2.2.1,zs20,a0.2.2.2.2.2.2.2.2.2.2.2.2.2.1,a0.2.2.2.2.2.2.2.2.2.2.2.2.2.2)
def mz:List (FuncId × Fn):=(380,⟨[.ptr cAgent (some false),.val false cNI false],[],fun a=>dU a.1 a.2⟩) :: my
theorem rf:Gd mz:=mkM re 380 Tryz.f380 [] Tryz.func380
def dV (p0:Agent) (i1:Int):Option Agent :=
 (ix p0.2.2.2.2.2.2.2.2.2.2.2.2.1.length i1).bind fun j16 =>
 (p0.2.2.2.2.2.2.2.2.2.2.2.2.1[j16]?).bind fun x18 =>
 (cG p0.2.2.2.2.2.2.2.2.2.2.2.1 x18.2.1).bind fun t19 =>
 (cond (t19.2 == 0) (some (t19.1.1 != 162)) (some false)).bind fun t28 =>
 cond t28
 ((ix p0.2.2.2.2.2.2.2.2.2.2.2.2.1.length i1).bind fun j35 =>
 (p0.2.2.2.2.2.2.2.2.2.2.2.2.1[j35]?).bind fun x =>
 (fh (p0.1,p0.2.1,p0.2.2.1,p0.2.2.2.1,p0.2.2.2.2.1,p0.2.2.2.2.2.1,p0.2.2.2.2.2.2.1,p0.2.2.2.2.2.2.2.1,p0.2.2.2.2.2.2.2.2.1,p0.2.2.2.2.2.2.2.2.2.1,p0.2.2.2.2.2.2.2.2.2.2.1,p0.2.2.2.2.2.2.2.2.2.2.2.1,p0.2.2.2.2.2.2.2.2.2.2.2.2.1.set j35 (x.1,x.2.1,x.2.2.1,t19.1.1,t19.1.2.1,t19.1.2.2.1,t19.1.2.2.2.1,t19.1.2.2.2.2,x.2.2.2.2.2.2.2.2.1,x.2.2.2.2.2.2.2.2.2.1,x.2.2.2.2.2.2.2.2.2.2.1,x.2.2.2.2.2.2.2.2.2.2.2.1,x.2.2.2.2.2.2.2.2.2.2.2.2.1,x.2.2.2.2.2.2.2.2.2.2.2.2.2.1,x.2.2.2.2.2.2.2.2.2.2.2.2.2.2.1,x.2.2.2.2.2.2.2.2.2.2.2.2.2.2.2.1,x.2.2.2.2.2.2.2.2.2.2.2.2.2.2.2.2.1,x.2.2.2.2.2.2.2.2.2.2.2.2.2.2.2.2.2.1,x.2.2.2.2.2.2.2.2.2.2.2.2.2.2.2.2.2.2.1,x.2.2.2.2.2.2.2.2.2.2.2.2.2.2.2.2.2.2.2.1,x.2.2.2.2.2.2.2.2.2.2.2.2.2.2.2.2.2.2.2.2),p0.2.2.2.2.2.2.2.2.2.2.2.2.2.1,p0.2.2.2.2.2.2.2.2.2.2.2.2.2.2) i1).bind fun t39 =>
 some t39)
 (cond (t19.2 == 3)
 ((aZ p0.2.2.2.2.2.2.2.2.1).bind fun t48 =>
 (dU (p0.1,p0.2.1,p0.2.2.1,p0.2.2.2.1,p0.2.2.2.2.1,p0.2.2.2.2.2.1,p0.2.2.2.2.2.2.1,p0.2.2.2.2.2.2.2.1,t48,p0.2.2.2.2.2.2.2.2.2.1,p0.2.2.2.2.2.2.2.2.2.2.1,p0.2.2.2.2.2.2.2.2.2.2.2.1,p0.2.2.2.2.2.2.2.2.2.2.2.2.1,p0.2.2.2.2.2.2.2.2.2.2.2.2.2.1,p0.2.2.2.2.2.2.2.2.2.2.2.2.2.2) i1).bind fun t64 =>
 some t64)
 ((aZ p0.2.2.2.2.2.2.2.1).bind fun t58 =>
 (dU (p0.1,p0.2.1,p0.2.2.1,p0.2.2.2.1,p0.2.2.2.2.1,p0.2.2.2.2.2.1,p0.2.2.2.2.2.2.1,t58,p0.2.2.2.2.2.2.2.2.1,p0.2.2.2.2.2.2.2.2.2.1,p0.2.2.2.2.2.2.2.2.2.2.1,p0.2.2.2.2.2.2.2.2.2.2.2.1,p0.2.2.2.2.2.2.2.2.2.2.2.2.1,p0.2.2.2.2.2.2.2.2.2.2.2.2.2.1,p0.2.2.2.2.2.2.2.2.2.2.2.2.2.2) i1).bind fun t64_1 =>
 some t64_1))
def mC:List (FuncId × Fn):=(298,⟨[.ptr cAgent (some false),.val false cNI false],[],fun a=>dV a.1 a.2⟩) :: mz
theorem rj:Gd mC:=mkM rf 298 Tryz.f298 [] Tryz.func298
def dW (a0:Agent) (k1:Int) (p2:Pdu):Option (Agent × List Done) :=
 (ix a0.2.2.2.2.2.2.2.2.2.2.2.2.1.length k1).bind fun j13 =>
 (a0.2.2.2.2.2.2.2.2.2.2.2.2.1[j13]?).bind fun x15 =>
 (dU a0 k1).bind fun t21 =>
 some (t21,[(x15.1,p2.1,p2.2.1,p2.2.2.1,p2.2.2.2.1,p2.2.2.2.2)])
def mD:List (FuncId × Fn):=(300,⟨[.ptr cAgent (some false),.val false cNI false,.val true cPdu false],[.val false (.one (.sl cDone)) (some false)],fun a=>dW a.1 a.2.1 a.2.2⟩) :: mC
theorem rk:Gd mD:=mkM rj 300 Tryz.f300 [] Tryz.func300
def gG (p0:Agent) (i1:Int):Option (Agent × List Done) :=
 (ix p0.2.2.2.2.2.2.2.2.2.2.2.2.1.length i1).bind fun j14 =>
 (p0.2.2.2.2.2.2.2.2.2.2.2.2.1[j14]?).bind fun x15 =>
 cond (p0.2.2.2.2.2.2.2.2.2.2.1 == x15.2.2.2.2.2.2.2.2.2.2.2.2.2.2.2.2.2.2.1)
 ((fb (p0.1,p0.2.1,p0.2.2.1,p0.2.2.2.1,p0.2.2.2.2.1,p0.2.2.2.2.2.1,p0.2.2.2.2.2.2.1,p0.2.2.2.2.2.2.2.1,p0.2.2.2.2.2.2.2.2.1,p0.2.2.2.2.2.2.2.2.2.1,p0.2.2.2.2.2.2.2.2.2.2.1) (x15.2.2.2.1,x15.2.2.2.2.1,x15.2.2.2.2.2.1,x15.2.2.2.2.2.2.1,x15.2.2.2.2.2.2.2.1)).bind fun t32 =>
 (dW (t32.1.1,t32.1.2.1,t32.1.2.2.1,t32.1.2.2.2.1,t32.1.2.2.2.2.1,t32.1.2.2.2.2.2.1,t32.1.2.2.2.2.2.2.1,t32.1.2.2.2.2.2.2.2.1,t32.1.2.2.2.2.2.2.2.2.1,t32.1.2.2.2.2.2.2.2.2.2.1,t32.1.2.2.2.2.2.2.2.2.2.2,p0.2.2.2.2.2.2.2.2.2.2.2.1,p0.2.2.2.2.2.2.2.2.2.2.2.2.1,p0.2.2.2.2.2.2.2.2.2.2.2.2.2.1,p0.2.2.2.2.2.2.2.2.2.2.2.2.2.2) i1 t32.2).bind fun t42 =>
 some t42)
 (cond (decide (x15.2.2.2.2.2.2.2.2.2.2.2.2.2.2.2.2.2.2.2.2 ≥ 3))
 ((cP x15.2.2.2.2.2.2.2.1).bind fun t52 =>
 (cS (162,x15.2.2.2.2.1,6,1,t52) false).bind fun t57 =>
 (dW p0 i1 t57).bind fun t58 =>
 some t58)
 ((ix p0.2.2.2.2.2.2.2.2.2.2.2.2.1.length i1).bind fun j67 =>
 (p0.2.2.2.2.2.2.2.2.2.2.2.2.1[j67]?).bind fun x =>
 (fh (p0.1,p0.2.1,p0.2.2.1,p0.2.2.2.1,p0.2.2.2.2.1,p0.2.2.2.2.2.1,p0.2.2.2.2.2.2.1,p0.2.2.2.2.2.2.2.1,p0.2.2.2.2.2.2.2.2.1,p0.2.2.2.2.2.2.2.2.2.1,p0.2.2.2.2.2.2.2.2.2.2.1,p0.2.2.2.2.2.2.2.2.2.2.2.1,p0.2.2.2.2.2.2.2.2.2.2.2.2.1.set j67 (x.1,x.2.1,x.2.2.1,x.2.2.2.1,x.2.2.2.2.1,x.2.2.2.2.2.1,x.2.2.2.2.2.2.1,x.2.2.2.2.2.2.2.1,x.2.2.2.2.2.2.2.2.1,x.2.2.2.2.2.2.2.2.2.1,x.2.2.2.2.2.2.2.2.2.2.1,x.2.2.2.2.2.2.2.2.2.2.2.1,x.2.2.2.2.2.2.2.2.2.2.2.2.1,x.2.2.2.2.2.2.2.2.2.2.2.2.2.1,x.2.2.2.2.2.2.2.2.2.2.2.2.2.2.1,x.2.2.2.2.2.2.2.2.2.2.2.2.2.2.2.1,x.2.2.2.2.2.2.2.2.2.2.2.2.2.2.2.2.1,x.2.2.2.2.2.2.2.2.2.2.2.2.2.2.2.2.2.1,x.2.2.2.2.2.2.2.2.2.2.2.2.2.2.2.2.2.2.1,x.2.2.2.2.2.2.2.2.2.2.2.2.2.2.2.2.2.2.2.1,w64 (x15.2.2.2.2.2.2.2.2.2.2.2.2.2.2.2.2.2.2.2.2 + 1)),p0.2.2.2.2.2.2.2.2.2.2.2.2.2.1,p0.2.2.2.2.2.2.2.2.2.2.2.2.2.2) i1).bind fun t71 =>
 some (t71,([]:List Done))))
def mE:List (FuncId × Fn):=(299,⟨[.ptr cAgent (some false),.val false cNI false],[.val false (.one (.sl cDone)) (some false)],fun a=>gG a.1 a.2⟩) :: mD
theorem rl:Gd mE:=mkM rk 299 Tryz.f299 [] Tryz.func299
def gH (p0:Agent) (i1:Int):Option (Agent × List Done) :=
 (ix p0.2.2.2.2.2.2.2.2.2.2.2.2.1.length i1).bind fun j14 =>
 (p0.2.2.2.2.2.2.2.2.2.2.2.2.1[j14]?).bind fun x15 =>
 cond (x15.2.2.1 == 0)
 ((dV p0 i1).bind fun t35 =>
 some (t35,([]:List Done)))
 ((cond (x15.2.2.1 == 1)
 (some (decide (x15.2.2.2.2.2.2.2.2.2.2.2.2.2.2.2.2.2.2.2.1 < (x15.2.2.2.2.2.2.2.1.length:Int))))
 (some false)).bind fun t48 =>
 cond t48
 ((ix p0.2.2.2.2.2.2.2.2.2.2.2.2.1.length i1).bind fun j57 =>
 (p0.2.2.2.2.2.2.2.2.2.2.2.2.1[j57]?).bind fun x =>
 some ((p0.1,p0.2.1,p0.2.2.1,p0.2.2.2.1,p0.2.2.2.2.1,p0.2.2.2.2.2.1,p0.2.2.2.2.2.2.1,p0.2.2.2.2.2.2.2.1,p0.2.2.2.2.2.2.2.2.1,p0.2.2.2.2.2.2.2.2.2.1,p0.2.2.2.2.2.2.2.2.2.2.1,p0.2.2.2.2.2.2.2.2.2.2.2.1,p0.2.2.2.2.2.2.2.2.2.2.2.2.1.set j57 (x.1,x.2.1,x.2.2.1,x.2.2.2.1,x.2.2.2.2.1,x.2.2.2.2.2.1,x.2.2.2.2.2.2.1,x.2.2.2.2.2.2.2.1,x.2.2.2.2.2.2.2.2.1,x.2.2.2.2.2.2.2.2.2.1,x.2.2.2.2.2.2.2.2.2.2.1,x.2.2.2.2.2.2.2.2.2.2.2.1,x.2.2.2.2.2.2.2.2.2.2.2.2.1,x.2.2.2.2.2.2.2.2.2.2.2.2.2.1,x.2.2.2.2.2.2.2.2.2.2.2.2.2.2.1,x.2.2.2.2.2.2.2.2.2.2.2.2.2.2.2.1,x.2.2.2.2.2.2.2.2.2.2.2.2.2.2.2.2.1,x.2.2.2.2.2.2.2.2.2.2.2.2.2.2.2.2.2.1,x.2.2.2.2.2.2.2.2.2.2.2.2.2.2.2.2.2.2.1,w64 (x15.2.2.2.2.2.2.2.2.2.2.2.2.2.2.2.2.2.2.2.1 + 1),x.2.2.2.2.2.2.2.2.2.2.2.2.2.2.2.2.2.2.2.2),p0.2.2.2.2.2.2.2.2.2.2.2.2.2.1,p0.2.2.2.2.2.2.2.2.2.2.2.2.2.2),([]:List Done)))
 (cond (x15.2.2.1 == 1)
 ((ix p0.2.2.2.2.2.2.2.2.2.2.2.2.1.length i1).bind fun j68 =>
 (p0.2.2.2.2.2.2.2.2.2.2.2.2.1[j68]?).bind fun x_1 =>
 some ((p0.1,p0.2.1,p0.2.2.1,p0.2.2.2.1,p0.2.2.2.2.1,p0.2.2.2.2.2.1,p0.2.2.2.2.2.2.1,p0.2.2.2.2.2.2.2.1,p0.2.2.2.2.2.2.2.2.1,p0.2.2.2.2.2.2.2.2.2.1,p0.2.2.2.2.2.2.2.2.2.2.1,p0.2.2.2.2.2.2.2.2.2.2.2.1,p0.2.2.2.2.2.2.2.2.2.2.2.2.1.set j68 (x_1.1,x_1.2.1,2,x_1.2.2.2.1,x_1.2.2.2.2.1,x_1.2.2.2.2.2.1,x_1.2.2.2.2.2.2.1,x_1.2.2.2.2.2.2.2.1,x_1.2.2.2.2.2.2.2.2.1,x_1.2.2.2.2.2.2.2.2.2.1,x_1.2.2.2.2.2.2.2.2.2.2.1,x_1.2.2.2.2.2.2.2.2.2.2.2.1,x_1.2.2.2.2.2.2.2.2.2.2.2.2.1,x_1.2.2.2.2.2.2.2.2.2.2.2.2.2.1,x_1.2.2.2.2.2.2.2.2.2.2.2.2.2.2.1,x_1.2.2.2.2.2.2.2.2.2.2.2.2.2.2.2.1,x_1.2.2.2.2.2.2.2.2.2.2.2.2.2.2.2.2.1,x_1.2.2.2.2.2.2.2.2.2.2.2.2.2.2.2.2.2.1,x_1.2.2.2.2.2.2.2.2.2.2.2.2.2.2.2.2.2.2.1,x_1.2.2.2.2.2.2.2.2.2.2.2.2.2.2.2.2.2.2.2.1,x_1.2.2.2.2.2.2.2.2.2.2.2.2.2.2.2.2.2.2.2.2),p0.2.2.2.2.2.2.2.2.2.2.2.2.2.1,p0.2.2.2.2.2.2.2.2.2.2.2.2.2.2),([]:List Done)))
 (cond (x15.2.2.2.1 == 163)
 ((gG p0 i1).bind fun t77 =>
 some t77)
 ((gC (x15.2.2.2.2.2.2.2.2.1,x15.2.2.2.2.2.2.2.2.2.1,x15.2.2.2.2.2.2.2.2.2.2.1,x15.2.2.2.2.2.2.2.2.2.2.2.1,x15.2.2.2.2.2.2.2.2.2.2.2.2.1,x15.2.2.2.2.2.2.2.2.2.2.2.2.2.1,x15.2.2.2.2.2.2.2.2.2.2.2.2.2.2.1,x15.2.2.2.2.2.2.2.2.2.2.2.2.2.2.2.1,x15.2.2.2.2.2.2.2.2.2.2.2.2.2.2.2.2.1,x15.2.2.2.2.2.2.2.2.2.2.2.2.2.2.2.2.2.1,x15.2.2.2.2.2.2.2.2.2.2.2.2.2.2.2.2.2.2.1) (x15.2.2.2.1,x15.2.2.2.2.1,x15.2.2.2.2.2.1,x15.2.2.2.2.2.2.1,x15.2.2.2.2.2.2.2.1)).bind fun t21 =>
 (dW p0 i1 t21.2.1).bind fun t28 =>
 some t28))))
def mF:List (FuncId × Fn):=(199,⟨[.ptr cAgent (some false),.val false cNI false],[.val false (.one (.sl cDone)) (some false)],fun a=>gH a.1 a.2⟩) :: mE
theorem rm:Gd mF:=mkM rl 199 Tryz.f199 [] Tryz.func199
def ba (a0:Agent) (k1:Int):Option (Agent × List Done) :=
 (eX a0).bind fun t9 =>
 (cE a0).bind fun t11 =>
 (cond (!t11)
 (some true)
 ((ae k1 0 (w64 ((a0.2.2.2.2.2.2.2.2.2.2.2.2.1.length:Int) - 1))).bind fun t19 =>
 some (!t19))).bind fun t21 =>
 cond t21
 (some (t9,([]:List Done)))
 ((gH t9 k1).bind fun t25 =>
 some t25)
def mG:List (FuncId × Fn):=(77,⟨[.val true cAgent false,.val false cNI false],[.val true cAgent (some false),.val false (.one (.sl cDone)) (some false)],fun a=>ba a.1 a.2⟩) :: mF
theorem rn:Gd mG:=mkM rm 77 Tryz.f77 [] Tryz.func77
def fC (b0:Bridge) (word1:List UInt8):Option Agent :=
 (aR b0).bind fun t6 =>
 (cond (!t6) (some true) (some (decide ((word1.length:Int) > 20)))).bind fun t12 =>
 cond t12
 (some (0,[],[],[],[],[],0,0,0,0,0,[],[],0,0))
 ((am b0).bind fun t15 =>
 some (t15.1,t15.2.1,t15.2.2.1,t15.2.2.2.1,t15.2.2.2.2.1,t15.2.2.2.2.2.1,t15.2.2.2.2.2.2.1,t15.2.2.2.2.2.2.2.1,t15.2.2.2.2.2.2.2.2.1,t15.2.2.2.2.2.2.2.2.2.1,t15.2.2.2.2.2.2.2.2.2.2,word1,[],0,0))
def mH:List (FuncId × Fn):=(86,⟨[.val true cBridge false,.val false cNS false],[.val true cAgent (some true)],fun a=>fC a.1 a.2⟩) :: mG
theorem rp:Gd mH:=mkM rn 86 Tryz.f86 [] Tryz.func86
def cZ (c0:L1Cur):Option (L1Cur × Int) :=
 let x3:=band .i64 (bxor .i64 ((w64 ((w64 (c0.2.2 * 6364136223846793005)) + 1442695040888963407)).fdiv (2 ^ 33)) ((w64 ((w64 (c0.2.2 * 6364136223846793005)) + 1442695040888963407)).fdiv (2 ^ 47))) 255
 cond (decide (c0.2.1 < (c0.1.length:Int)))
 ((at? c0.1 c0.2.1).bind fun x44 =>
 let x3_1:=band .i64 (w64 (x3 + (w64 (x44)))) 255
 some ((c0.1,w64 (c0.2.1 + 1),w64 ((w64 (c0.2.2 * 6364136223846793005)) + 1442695040888963407)),x3_1))
 (some ((c0.1,c0.2.1,w64 ((w64 (c0.2.2 * 6364136223846793005)) + 1442695040888963407)),x3))
def mI:List (FuncId × Fn):=(256,⟨[.ptr cL1Cur none],[.val false cNI (some true)],fun a=>cZ a⟩) :: mH
theorem rq:Gd mI:=mkM rp 256 Tryz.f256 [] Tryz.func256
def aa (c0:L1Cur) (n1:Int):Option (L1Cur × Int) :=
 cond (decide (n1 ≤ 0))
 (some (c0,0))
 (cond (decide (n1 ≤ 256))
 ((cZ c0).bind fun t13 =>
 (rem t13.2 n1).bind fun t15 =>
 some (t13.1,t15))
 ((cZ c0).bind fun t17 =>
 (cZ t17.1).bind fun t19 =>
 (cZ t19.1).bind fun t21 =>
 (rem (w64 ((w64 ((w64 (t17.2 * 65536)) + (w64 (t19.2 * 256)))) + t21.2)) n1).bind fun t30 =>
 some (t21.1,t30)))
def mJ:List (FuncId × Fn):=(140,⟨[.ptr cL1Cur none,.val false cNI false],[.val false cNI (some true)],fun a=>aa a.1 a.2⟩) :: mI
theorem rr:Gd mJ:=mkM rq 140 Tryz.f140 [] Tryz.func140
def bK (c0:L1Cur) (n1:Int):Option (L1Cur × Bool) :=
 (aa c0 n1).bind fun t7 =>
 some (t7.1,t7.2 == 0)
def mK:List (FuncId × Fn):=(143,⟨[.ptr cL1Cur none,.val false cNI false],[.val false cNB (some true)],fun a=>bK a.1 a.2⟩) :: mJ
theorem ru:Gd mK:=mkM rr 143 Tryz.f143 [] Tryz.func143
def bt (c0:L1Cur) (list1:List (List UInt8)):Option (L1Cur × List UInt8) :=
 (aa c0 (list1.length:Int)).bind fun t9 =>
 (at? list1 t9.2).bind fun x10 =>
 some (t9.1,x10)
def mL:List (FuncId × Fn):=(176,⟨[.ptr cL1Cur none,.val false (.one (.sl cNS)) false],[.val false cNS (some true)],fun a=>bt a.1 a.2⟩) :: mK
theorem rz:Gd mL:=mkM ru 176 Tryz.f176 [] Tryz.func176
def ai (c0:L1Cur) (list1:List Int):Option (L1Cur × Int) :=
 (aa c0 (list1.length:Int)).bind fun t9 =>
 (at? list1 t9.2).bind fun x10 =>
 some (t9.1,x10)
def mM:List (FuncId × Fn):=(198,⟨[.ptr cL1Cur none,.val false cNN false],[.val false cNI (some true)],fun a=>ai a.1 a.2⟩) :: mL
theorem rA:Gd mM:=mkM rz 198 Tryz.f198 [] Tryz.func198
def dX (ports0:Int) (i5:Int) (b1:List Int):Option ((Int × List Int) ⊕ (List Int)) :=
 cond (decide (i5 < ports0))
 ((app b1 ([1]:List Int)).bind fun zs27 =>
 some (.inl (w64 (i5 + 1),zs27)))
 (some (.inr b1))
def fi (ports0:Int):Option Vtab :=
 (ae ports0 1 6).bind fun t7 =>
 cond (!t7)
 (some ([],[]))
 ((shl .i64 1 (IntKind.u64.wrap (ports0))).bind fun t12 =>
 (loop (fun z=>dX ports0 z.1 z.2) (0,[])).bind fun d =>
 some ([(1,w64 (t12 - 1),w64 (t12 - 1))],d))
def mN:List (FuncId × Fn):=(333,⟨[.val false cNI false],[.val true cVtab (some true)],fun a=>fi a⟩) :: mM
theorem rB:Gd mN:=mkM rA 333 Tryz.f333 [(0,⟨⟨[(5,false,[dI])],[(1054720,.box [.same 1052672,.own 1000000000]),(1000000000,.root cNI true)]⟩,
 ⟨[],[(1054720,.box [.same 1052672,.own 1000000300]),(1000000300,.root cNI true)]⟩,none⟩)] Tryz.func333
def dY (ports1:Int) (i6:Int) (b0:Int) (b1:List UInt8) (b6:Int) (b7:Int) (b8:Int) (b9:Int) (b10:Int) (b2:List Pt) (b3:List Fent):Option ((Int × Int × List UInt8 × Int × Int × Int × Int × Int × List Pt × List Fent) ⊕ (Int × List UInt8 × Int × Int × Int × Int × Int × List Pt × List Fent)) :=
 cond (decide (i6 < ports1))
 ((app b2 [(false,1,false,0,0,0,0,0)]).bind fun zs29 =>
 some (.inl (w64 (i6 + 1),b0,b1,b6,b7,b8,b9,b10,zs29,b3)))
 (some (.inr (b0,b1,b6,b7,b8,b9,b10,b2,b3)))
def fj (id0:Int) (ports1:Int):Option Bridge :=
 (ae id0 1 99).bind fun t8 =>
 (cond (!t8)
 (some true)
 ((ae ports1 1 6).bind fun t12 =>
 some (!t12))).bind fun t14 =>
 cond t14
 (some (0,[],[],[],[],[],0,0,0,0,0))
 ((fi ports1).bind fun t18 =>
 (loop (fun z=>dY ports1 z.1 z.2.1 z.2.2.1 z.2.2.2.1 z.2.2.2.2.1 z.2.2.2.2.2.1 z.2.2.2.2.2.2.1 z.2.2.2.2.2.2.2.1 z.2.2.2.2.2.2.2.2.1 z.2.2.2.2.2.2.2.2.2) (0,id0,[],0,0,0,0,0,[],[])).bind fun d =>
 some (d.1,d.2.1,d.2.2.2.2.2.2.2.1,d.2.2.2.2.2.2.2.2,t18.1,t18.2,d.2.2.1,d.2.2.2.1,d.2.2.2.2.1,d.2.2.2.2.2.1,d.2.2.2.2.2.2.1))
def mO:List (FuncId × Fn):=(224,⟨[.val false cNI false,.val false cNI false],[.val true cBridge (some true)],fun a=>fj a.1 a.2⟩) :: mN
theorem rC:Gd mO:=mkM rB 224 Tryz.f224 [(0,⟨⟨[(6,false,[dI])],[(791552,.box [dI,dS,.own 1000000000,.own 1000000001,.same 789504,.same 789505,dI,dI,dI,dI,dI]),(1000000000,.root cPt true),(1000000001,.root cFent true)]⟩,
 ⟨[],[(791552,.box [dI,dS,.own 1000000300,.own 1000000301,.same 789504,.same 789505,dI,dI,dI,dI,dI]),(1000000300,.root cPt true),(1000000301,.root cFent true)]⟩,none⟩)] Tryz.func224
def gI (c0:L1Cur):Option (L1Cur × Vec) :=
 (aa c0 5).bind fun t4 =>
 (ai t4.1 ([0,1,2,5,10,100]:List Int)).bind fun t8 =>
 (ai t8.1 ([0,1,2,9,10]:List Int)).bind fun t11 =>
 (aa t11.1 5).bind fun t13 =>
 (aa t13.1 4).bind fun t16 =>
 some (t16.1,(w64 (1 + t4.2),t8.2,t11.2,w64 (1 + t13.2),t16.2))
def mP:List (FuncId × Fn):=(307,⟨[.ptr cL1Cur none],[.val true cVec (some true)],fun a=>gI a⟩) :: mO
theorem rD:Gd mP:=mkM rC 307 Tryz.f307 [] Tryz.func307
def dZ (n1:Int) (i6:Int) (b0:List Int) (b1:Int) (b2:Int) (out5:List Pt):Option ((Int × List Int × Int × Int × List Pt) ⊕ (List Int × Int × Int × List Pt)) :=
 cond (decide (i6 < n1))
 ((bK (b0,b1,b2) 4).bind fun t15 =>
 (ai t15.1 ([1,1,2,5,10]:List Int)).bind fun t19 =>
 cond (!t15.2)
 ((bK t19.1 4).bind fun t25 =>
 cond (!t25.2)
 ((gI t25.1).bind fun t30 =>
 (app out5 [(!t15.2,t19.2,true,t30.2.1,t30.2.2.1,t30.2.2.2.1,t30.2.2.2.2.1,t30.2.2.2.2.2)]).bind fun zs35 =>
 some (.inl (w64 (i6 + 1),t30.1.1,t30.1.2.1,t30.1.2.2,zs35)))
 ((app out5 [(!t15.2,t19.2,false,0,0,0,0,0)]).bind fun zs35_1 =>
 some (.inl (w64 (i6 + 1),t25.1.1,t25.1.2.1,t25.1.2.2,zs35_1))))
 ((app out5 [(!t15.2,t19.2,false,0,0,0,0,0)]).bind fun zs35_2 =>
 some (.inl (w64 (i6 + 1),t19.1.1,t19.1.2.1,t19.1.2.2,zs35_2))))
 (some (.inr (b0,b1,b2,out5)))
def fk (c0:L1Cur) (n1:Int):Option (L1Cur × List Pt) :=
 (loop (fun z=>dZ n1 z.1 z.2.1 z.2.2.1 z.2.2.2.1 z.2.2.2.2) (0,c0.1,c0.2.1,c0.2.2,([]:List Pt))).bind fun d =>
 some ((d.1,d.2.1,d.2.2.1),d.2.2.2)
def mQ:List (FuncId × Fn):=(225,⟨[.ptr cL1Cur none,.val false cNI false],[.val false (.one (.sl cPt)) (some true)],fun a=>fk a.1 a.2⟩) :: mP
theorem rE:Gd mQ:=mkM rD 225 Tryz.f225 [(0,⟨⟨(5,false,[.own 1000000000]) :: (6,false,[dI]) :: us 24 3 [],[(1,.box [.dat (.sl (.one (.int .u8))),dI,dI]),(1000000000,.root cPt true)]⟩,
 ⟨[(5,false,[.own 1000000300])],[(1,.box [.dat (.sl (.one (.int .u8))),dI,dI]),(1000000300,.root cPt true)]⟩,none⟩)] Tryz.func225
def e9 (x0:Vtab) (v1:Vtab):Option (Vtab × Bool) :=
 (aN x0 (v1.2.length:Int)).bind fun t10 =>
 cond (!t10)
 ((aO v1).bind fun t13 =>
 some (t13,false))
 (some (x0,true))
def mR:List (FuncId × Fn):=(388,⟨[.val true cVtab true,.val true cVtab false],[.val true cVtab (some true),.val false cNB (some true)],fun a=>e9 a.1 a.2⟩) :: mQ
theorem rF:Gd mR:=mkM rE 388 Tryz.f388 [] Tryz.func388
def fm (v0:Vtab) (port1:Int) (id2:Int):Option (Vtab × Bool) :=
 (aN v0 (v0.2.length:Int)).bind fun t13 =>
 (cond (!t13)
 (some true)
 ((ae port1 0 (w64 ((v0.2.length:Int) - 1))).bind fun t21 =>
 some (!t21))).bind fun t23 =>
 cond t23
 ((aO v0).bind fun t25 =>
 some (t25,false))
 ((aO v0).bind fun t27 =>
 (ix t27.2.length port1).bind fun j32 =>
 (t27.2[j32]?).bind fun x =>
 (e9 (t27.1,t27.2.set j32 id2) v0).bind fun t35 =>
 some t35)
def mS:List (FuncId × Fn):=(334,⟨[.val true cVtab false,.val false cNI false,.val false cNI false],[.val true cVtab (some true),.val false cNB (some true)],fun a=>fm a.1 a.2.1 a.2.2⟩) :: mR
theorem rG:Gd mS:=mkM rF 334 Tryz.f334 [] Tryz.func334
def fo (v0:Vtab) (id1:Int):Option (Vtab × Bool) :=
 (bo v0 id1).bind fun t10 =>
 (aN v0 (v0.2.length:Int)).bind fun t15 =>
 (cond (!t15) (some true) (some (decide (t10 < 0)))).bind fun t20 =>
 cond t20
 ((aO v0).bind fun t22 =>
 some (t22,false))
 ((aO v0).bind fun t24 =>
 (cut v0.1 0 t10).bind fun t29 =>
 (app ([]:List Vrow) t29).bind fun zs30 =>
 (cut v0.1 (w64 (t10 + 1)) (v0.1.length:Int)).bind fun t35 =>
 (app zs30 t35).bind fun zs36 =>
 (e9 (zs36,t24.2) v0).bind fun t40 =>
 some t40)
def mT:List (FuncId × Fn):=(335,⟨[.val true cVtab false,.val false cNI false],[.val true cVtab (some true),.val false cNB (some true)],fun a=>fo a.1 a.2⟩) :: mS
theorem rH:Gd mT:=mkM rG 335 Tryz.f335 [] Tryz.func335
def fp (v0:Vtab) (r1:Vrow):Option (Vtab × Bool) :=
 (aN v0 (v0.2.length:Int)).bind fun t10 =>
 cond (!t10)
 ((aO v0).bind fun t13 =>
 some (t13,false))
 ((bq v0 r1).bind fun t16 =>
 (e9 t16 v0).bind fun t18 =>
 some t18)
def mU:List (FuncId × Fn):=(336,⟨[.val true cVtab false,.val true cVrow false],[.val true cVtab (some true),.val false cNB (some true)],fun a=>fp a.1 a.2⟩) :: mT
theorem rI:Gd mU:=mkM rH 336 Tryz.f336 [] Tryz.func336
def gJ (c0:L1Cur) (ports1:Int):Option (L1Cur × Vrow) :=
 (shl .i64 1 (IntKind.u64.wrap (ports1))).bind fun t9 =>
 (aa c0 (w64 ((w64 (t9 - 1)) + 1))).bind fun t14 =>
 (ai t14.1 ([1,2,3,2]:List Int)).bind fun t17 =>
 (aa t17.1 (w64 ((w64 (t9 - 1)) + 1))).bind fun t23 =>
 some (t23.1,(t17.2,t14.2,band .i64 t14.2 t23.2))
def mV:List (FuncId × Fn):=(337,⟨[.ptr cL1Cur none,.val false cNI false],[.val true cVrow (some true)],fun a=>gJ a.1 a.2⟩) :: mU
theorem rJ:Gd mV:=mkM rI 337 Tryz.f337 [] Tryz.func337
def ee (ports1:Int) (i6:Int) (b0:List Int) (b1:Int) (b2:Int) (b0_1:List Vrow) (b1_1:List Int):Option ((Int × List Int × Int × Int × List Vrow × List Int) ⊕ (List Int × Int × Int × List Vrow × List Int)) :=
 cond (decide (i6 > 0))
 ((aa (b0,b1,b2) 4).bind fun t16 =>
 cond (t16.2 == 0)
 ((aa t16.1 ports1).bind fun t31 =>
 (aa t31.1 3).bind fun t33 =>
 (fm (b0_1,b1_1) t31.2 (w64 (1 + t33.2))).bind fun t35 =>
 some (.inl (w64 (i6 - 1),t33.1.1,t33.1.2.1,t33.1.2.2,t35.1.1,t35.1.2)))
 (cond (t16.2 == 1)
 ((aa t16.1 2).bind fun t43 =>
 (fo (b0_1,b1_1) (w64 (2 + t43.2))).bind fun t45 =>
 some (.inl (w64 (i6 - 1),t43.1.1,t43.1.2.1,t43.1.2.2,t45.1.1,t45.1.2)))
 ((gJ t16.1 ports1).bind fun t21 =>
 (fp (b0_1,b1_1) t21.2).bind fun t22 =>
 some (.inl (w64 (i6 - 1),t21.1.1,t21.1.2.1,t21.1.2.2,t22.1.1,t22.1.2)))))
 (some (.inr (b0,b1,b2,b0_1,b1_1)))
def fq (c0:L1Cur) (ports1:Int):Option (L1Cur × Vtab) :=
 (fi ports1).bind fun t8 =>
 (aa c0 6).bind fun t10 =>
 (loop (fun z=>ee ports1 z.1 z.2.1 z.2.2.1 z.2.2.2.1 z.2.2.2.2.1 z.2.2.2.2.2) (t10.2,t10.1.1,t10.1.2.1,t10.1.2.2,t8.1,t8.2)).bind fun d =>
 some ((d.1,d.2.1,d.2.2.1),d.2.2.2)
def mW:List (FuncId × Fn):=(226,⟨[.ptr cL1Cur none,.val false cNI false],[.val true cVtab (some true)],fun a=>fq a.1 a.2⟩) :: mV
theorem rK:Gd mW:=mkM rJ 226 Tryz.f226 [(0,⟨⟨[(6,false,[dI])],[(1,.box [.dat (.sl (.one (.int .u8))),dI,dI]),(265216,.box [.own 1000000000,.own 1000000001]),(1000000000,.root cVrow true),(1000000001,.root cNI true)]⟩,
 ⟨[],[(1,.box [.dat (.sl (.one (.int .u8))),dI,dI]),(265216,.box [.own 1000000300,.own 1000000301]),(1000000300,.root cVrow true),(1000000301,.root cNI true)]⟩,none⟩)] Tryz.func226
def da (p0:List Fent) (i1:Fent) (t6:Bool) (t7:Int) (t5:List Fent):Option ((Bool × Int × List Fent) ⊕ (Bool × List Fent)) :=
 cond (decide (t7 < (p0.length:Int)))
 ((cond (!t6)
 ((at? p0 t7).bind fun x20 =>
 (bZ x20 i1.1 i1.2.1).bind fun t26 =>
 some (!t26))
 (some false)).bind fun t28 =>
 cond t28
 ((app t5 [i1]).bind fun zs32 =>
 (at? p0 t7).bind fun x35 =>
 (cond (x35.1 != i1.1)
 (some true)
 ((at? p0 t7).bind fun x44 =>
 some (x44.2.1 != i1.2.1))).bind fun t50 =>
 cond t50
 ((at? p0 t7).bind fun x54 =>
 (app zs32 [x54]).bind fun zs57 =>
 some (.inl (true,w64 (t7 + 1),zs57)))
 (some (.inl (true,w64 (t7 + 1),zs32))))
 ((at? p0 t7).bind fun x35_1 =>
 (cond (x35_1.1 != i1.1)
 (some true)
 ((at? p0 t7).bind fun x44_1 =>
 some (x44_1.2.1 != i1.2.1))).bind fun t50_1 =>
 cond t50_1
 ((at? p0 t7).bind fun x54_1 =>
 (app t5 [x54_1]).bind fun zs57_1 =>
 some (.inl (t6,w64 (t7 + 1),zs57_1)))
 (some (.inl (t6,w64 (t7 + 1),t5)))))
 (some (.inr (t6,t5)))
def fr (p0:List Fent) (i1:Fent):Option (List Fent) :=
 (loop (fun z=>da p0 i1 z.1 z.2.1 z.2.2) (false,0,([]:List Fent))).bind fun d =>
 cond (!d.1)
 ((app d.2 [i1]).bind fun zs63 =>
 some zs63)
 (some d.2)
def mX:List (FuncId × Fn):=(339,⟨[.val false (.one (.sl cFent)) false,.val true cFent false],[.val false (.one (.sl cFent)) (some true)],fun a=>fr a.1 a.2⟩) :: mW
theorem rL:Gd mX:=mkM rK 339 Tryz.f339 [(0,⟨⟨(5,false,[.own 1000000000]) :: (6,false,[dB]) :: (7,false,[dI]) :: us 18 10 (us 42 8 []),[(1000000000,.root cFent true)]⟩,
 ⟨[(5,false,[.own 1000000300]),(6,false,[dB])],[(1000000300,.root cFent true)]⟩,none⟩)] Tryz.func339
def gK (l0:List Fent) (tag1:Int) (mac2:Int) (port3:Int):Option (List Fent) :=
 (cg l0 tag1 mac2).bind fun t18 =>
 (cO l0).bind fun t20 =>
 (cond (!t20)
 (some true)
 ((cN (tag1,mac2,port3,0,false)).bind fun t24 =>
 some (!t24))).bind fun t26 =>
 (cond t26
 (some true)
 ((cond (decide (t18 ≥ 0))
 ((at? l0 t18).bind fun x33 =>
 some x33.2.2.2.2)
 (some false)).bind fun t36 =>
 some t36)).bind fun t37 =>
 (cond t37
 (some true)
 ((cond (decide (t18 < 0)) (some (decide ((l0.length:Int) ≥ 12))) (some false)).bind fun t45 =>
 some t45)).bind fun t46 =>
 cond t46
 ((ca l0).bind fun t48 =>
 some t48)
 ((fr l0 (tag1,mac2,port3,0,false)).bind fun t51 =>
 some t51)
def mY:List (FuncId × Fn):=(227,⟨[.val false (.one (.sl cFent)) false,.val false cNI false,.val false cNI false,.val false cNI false],[.val false (.one (.sl cFent)) (some true)],fun a=>gK a.1 a.2.1 a.2.2.1 a.2.2.2⟩) :: mX
theorem rM:Gd mY:=mkM rL 227 Tryz.f227 [] Tryz.func227
def ef (c0:L1Cur):Option (L1Cur × Int) :=
 (ai c0 ([11,12,13,14]:List Int)).bind fun t5 =>
 some t5
def mZ:List (FuncId × Fn):=(228,⟨[.ptr cL1Cur none],[.val false cNI (some true)],fun a=>ef a⟩) :: mY
theorem rN:Gd mZ:=mkM rM 228 Tryz.f228 [] Tryz.func228
def ft (l0:List Fent) (tag1:Int) (mac2:Int) (port3:Int):Option ((List Fent) × Bool) :=
 (cO l0).bind fun t16 =>
 (cond (!t16)
 (some true)
 ((cN (tag1,mac2,port3,0,true)).bind fun t20 =>
 some (!t20))).bind fun t22 =>
 (cond t22
 (some true)
 ((cg l0 tag1 mac2).bind fun t27 =>
 (cond (decide (t27 < 0)) (some (decide ((l0.length:Int) ≥ 12))) (some false)).bind fun t33 =>
 some t33)).bind fun t34 =>
 cond t34
 ((ca l0).bind fun t36 =>
 some (t36,false))
 ((fr l0 (tag1,mac2,port3,0,true)).bind fun t39 =>
 some (t39,true))
def na:List (FuncId × Fn):=(229,⟨[.val false (.one (.sl cFent)) false,.val false cNI false,.val false cNI false,.val false cNI false],[.val false (.one (.sl cFent)) (some true),.val false cNB (some true)],fun a=>ft a.1 a.2.1 a.2.2.1 a.2.2.2⟩) :: mZ
theorem rO:Gd na:=mkM rN 229 Tryz.f229 [] Tryz.func229
def eg (t7:L1Cur × Int) (t5:Int) (b0:List Int) (b1:Int) (b2:Int) (b0_1:Int) (b1_1:List UInt8) (b6:Int) (b7:Int) (b8:Int) (b9:Int) (b10:Int) (b3:List Fent):Option ((Int × List Int × Int × Int × Int × List UInt8 × Int × Int × Int × Int × Int × List Fent) ⊕ (List Int × Int × Int × Int × List UInt8 × Int × Int × Int × Int × Int × List Fent)) :=
 cond (decide (t5 > 0))
 ((aa (b0,b1,b2) 3).bind fun t35 =>
 (ef t35.1).bind fun t38 =>
 (aa t38.1 (w64 (1 + t7.2))).bind fun t41 =>
 (gK b3 (w64 (1 + t35.2)) t38.2 t41.2).bind fun t42 =>
 some (.inl (w64 (t5 - 1),t41.1.1,t41.1.2.1,t41.1.2.2,b0_1,b1_1,b6,b7,b8,b9,b10,t42)))
 (some (.inr (b0,b1,b2,b0_1,b1_1,b6,b7,b8,b9,b10,b3)))
def fB (p0:L1Cur):Option (L1Cur × Bridge) :=
 (aa p0 4).bind fun t7 =>
 (aa t7.1 5).bind fun t10 =>
 (fj (w64 (1 + t10.2)) (w64 (1 + t7.2))).bind fun t13 =>
 (bt t10.1 ([[],[121,97,114,100],[98,49]]:List (List UInt8))).bind fun t16 =>
 (fk t16.1 (w64 (1 + t7.2))).bind fun t20 =>
 (fq t20.1 (w64 (1 + t7.2))).bind fun t24 =>
 (aa t24.1 6).bind fun t27 =>
 (loop (fun z=>eg t7 z.1 z.2.1 z.2.2.1 z.2.2.2.1 z.2.2.2.2.1 z.2.2.2.2.2.1 z.2.2.2.2.2.2.1 z.2.2.2.2.2.2.2.1 z.2.2.2.2.2.2.2.2.1 z.2.2.2.2.2.2.2.2.2.1 z.2.2.2.2.2.2.2.2.2.2.1 z.2.2.2.2.2.2.2.2.2.2.2) (t27.2,t27.1.1,t27.1.2.1,t27.1.2.2,t13.1,t16.2,t13.2.2.2.2.2.2.1,t13.2.2.2.2.2.2.2.1,t13.2.2.2.2.2.2.2.2.1,t13.2.2.2.2.2.2.2.2.2.1,t13.2.2.2.2.2.2.2.2.2.2,t13.2.2.2.1)).bind fun d =>
 (bK (d.1,d.2.1,d.2.2.1) 3).bind fun t45 =>
 cond t45.2
 ((ef t45.1).bind fun t50 =>
 (aa t50.1 (w64 (1 + t7.2))).bind fun t53 =>
 (ft d.2.2.2.2.2.2.2.2.2.2 1 t50.2 t53.2).bind fun t54 =>
 (aa t53.1 5).bind fun t59 =>
 (ai t59.1 ([0,1,5,1000000]:List Int)).bind fun t63 =>
 some (t63.1,(d.2.2.2.1,d.2.2.2.2.1,t20.2,t54.1,t24.2.1,t24.2.2,t59.2,d.2.2.2.2.2.2.1,d.2.2.2.2.2.2.2.1,d.2.2.2.2.2.2.2.2.1,t63.2)))
 ((aa t45.1 5).bind fun t59_1 =>
 (ai t59_1.1 ([0,1,5,1000000]:List Int)).bind fun t63_1 =>
 some (t63_1.1,(d.2.2.2.1,d.2.2.2.2.1,t20.2,d.2.2.2.2.2.2.2.2.2.2,t24.2.1,t24.2.2,t59_1.2,d.2.2.2.2.2.2.1,d.2.2.2.2.2.2.2.1,d.2.2.2.2.2.2.2.2.1,t63_1.2)))
def nb:List (FuncId × Fn):=(117,⟨[.ptr cL1Cur none],[.val true cBridge (some true)],fun a=>fB a⟩) :: na
theorem rP:Gd nb:=mkM rO 117 Tryz.f117 [(0,⟨⟨[(5,false,[dI])],[(1,.box [.dat (.sl (.one (.int .u8))),dI,dI]),(530432,.box [dI,dS,.same 1051712,.own 1000000000,.same 1313856,.same 1313857,dI,dI,dI,dI,dI]),(1000000000,.root cFent true)]⟩,
 ⟨[],[(1,.box [.dat (.sl (.one (.int .u8))),dI,dI]),(530432,.box [dI,dS,.same 1051712,.own 1000000300,.same 1313856,.same 1313857,dI,dI,dI,dI,dI]),(1000000300,.root cFent true)]⟩,none⟩)] Tryz.func117
def eh (i4:Int) (b0:List Int) (b1:Int) (b2:Int) (out3:List Int):Option ((Int × List Int × Int × Int × List Int) ⊕ (List Int × Int × Int × List Int)) :=
 cond (decide (i4 > 0))
 ((ai (b0,b1,b2) ([0,1,2,3,127,128,16384,100000]:List Int)).bind fun t16 =>
 (app out3 [t16.2]).bind fun zs18 =>
 some (.inl (w64 (i4 - 1),t16.1.1,t16.1.2.1,t16.1.2.2,zs18)))
 (some (.inr (b0,b1,b2,out3)))
def aH (c0:L1Cur):Option (L1Cur × List Int) :=
 (aa c0 6).bind fun t7 =>
 (loop (fun z=>eh z.1 z.2.1 z.2.2.1 z.2.2.2.1 z.2.2.2.2) (w64 (1 + t7.2),t7.1.1,t7.1.2.1,t7.1.2.2,([]:List Int))).bind fun d =>
 some ((d.1,d.2.1,d.2.2.1),d.2.2.2)
def nc:List (FuncId × Fn):=(144,⟨[.ptr cL1Cur none],[.val false cNN (some true)],fun a=>aH a⟩) :: nb
theorem rQ:Gd nc:=mkM rP 144 Tryz.f144 [(0,⟨⟨[(3,false,[.own 1000000000]),(4,false,[dI])],[(1,.box [.dat (.sl (.one (.int .u8))),dI,dI]),(1000000000,.root cNI true)]⟩,
 ⟨[(3,false,[.own 1000000300])],[(1,.box [.dat (.sl (.one (.int .u8))),dI,dI]),(1000000300,.root cNI true)]⟩,none⟩)] Tryz.func144
def cn (c0:L1Cur):Option (L1Cur × Int) :=
 (aa c0 1000).bind fun t5 =>
 (ai t5.1 [0,1,(-1),127,128,(-128),(-129),255,256,32767,32768,(-32769),8388608,2147483647,(-2147483648),2147483648,(-2147483649),9223372036854775807,(-9223372036854775808),t5.2]).bind fun t7 =>
 some t7
def nd:List (FuncId × Fn):=(264,⟨[.ptr cL1Cur none],[.val false cNI (some true)],fun a=>cn a⟩) :: nc
theorem rR:Gd nd:=mkM rQ 264 Tryz.f264 [] Tryz.func264
def ay (c0:L1Cur):Option (L1Cur × Val) :=
 (aa c0 6).bind fun t4 =>
 cond (t4.2 == 0)
 (some (t4.1,(5,0,[],[])))
 (cond (t4.2 == 1)
 (cond (t4.2 == 1)
 ((cn t4.1).bind fun t12 =>
 (aw t12.2).bind fun t13 =>
 (ah t13).bind fun t14 =>
 some (t12.1,t14))
 (cond (t4.2 == 3)
 ((bt t4.1 ([[],[97],[121,97,114,100],[0]]:List (List UInt8))).bind fun t19 =>
 some (t19.1,(4,0,t19.2,[])))
 (cond (t4.2 == 4)
 ((aH t4.1).bind fun t24 =>
 some (t24.1,(6,0,[],t24.2)))
 ((ai t4.1 ([128,130]:List Int)).bind fun t28 =>
 some (t28.1,(t28.2,0,[],[]))))))
 (cond (t4.2 == 2)
 ((cn t4.1).bind fun t12_1 =>
 (aw t12_1.2).bind fun t13_1 =>
 (ah t13_1).bind fun t14_1 =>
 some (t12_1.1,t14_1))
 (cond (t4.2 == 3)
 ((bt t4.1 ([[],[97],[121,97,114,100],[0]]:List (List UInt8))).bind fun t19_1 =>
 some (t19_1.1,(4,0,t19_1.2,[])))
 (cond (t4.2 == 4)
 ((aH t4.1).bind fun t24_1 =>
 some (t24_1.1,(6,0,[],t24_1.2)))
 ((ai t4.1 ([128,130]:List Int)).bind fun t28_1 =>
 some (t28_1.1,(t28_1.2,0,[],[])))))))
def ne:List (FuncId × Fn):=(145,⟨[.ptr cL1Cur none],[.val true cVal (some true)],fun a=>ay a⟩) :: nd
theorem rS:Gd ne:=mkM rR 145 Tryz.f145 [] Tryz.func145
def av (c0:L1Cur) (b1:Bridge):Option (L1Cur × List Int) :=
 (cV b1).bind fun t7 =>
 cond (decide ((t7.length:Int) > 0))
 ((bK c0 4).bind fun t13 =>
 cond (!t13.2)
 ((aa t13.1 (t7.length:Int)).bind fun t21 =>
 (ix t7.length t21.2).bind fun j22 =>
 (t7[j22]?).bind fun x24 =>
 (app ([]:List Int) x24.1).bind fun zs25 =>
 some (t21.1,zs25))
 ((aa t13.1 8).bind fun t27 =>
 cond (t27.2 == 0)
 (some (t27.1,([0]:List Int)))
 (cond (t27.2 == 1)
 (some (t27.1,([1,3,1]:List Int)))
 (cond (t27.2 == 2)
 ((af ([2,2,9]:List Int)).bind fun t37 =>
 some (t27.1,t37))
 (cond (t27.2 == 3)
 ((aa t27.1 9).bind fun t41 =>
 (af [3,1,w64 (1 + t41.2)]).bind fun t44 =>
 some (t41.1,t44))
 (cond (t27.2 == 4)
 ((af ([2,2]:List Int)).bind fun t48 =>
 some (t27.1,t48))
 (cond (t27.2 == 5)
 ((af ([9]:List Int)).bind fun t52 =>
 some (t27.1,t52))
 (cond (t27.2 == 6)
 ((af ([4,1,2,11]:List Int)).bind fun t56 =>
 some (t27.1,t56))
 ((aH t27.1).bind fun t58 =>
 some t58)))))))))
 ((aa c0 8).bind fun t27_1 =>
 cond (t27_1.2 == 0)
 (some (t27_1.1,([0]:List Int)))
 (cond (t27_1.2 == 1)
 (some (t27_1.1,([1,3,1]:List Int)))
 (cond (t27_1.2 == 2)
 ((af ([2,2,9]:List Int)).bind fun t37_1 =>
 some (t27_1.1,t37_1))
 (cond (t27_1.2 == 3)
 ((aa t27_1.1 9).bind fun t41_1 =>
 (af [3,1,w64 (1 + t41_1.2)]).bind fun t44_1 =>
 some (t41_1.1,t44_1))
 (cond (t27_1.2 == 4)
 ((af ([2,2]:List Int)).bind fun t48_1 =>
 some (t27_1.1,t48_1))
 (cond (t27_1.2 == 5)
 ((af ([9]:List Int)).bind fun t52_1 =>
 some (t27_1.1,t52_1))
 (cond (t27_1.2 == 6)
 ((af ([4,1,2,11]:List Int)).bind fun t56_1 =>
 some (t27_1.1,t56_1))
 ((aH t27_1.1).bind fun t58_1 =>
 some t58_1))))))))
def iq:List (FuncId × Fn):=(231,⟨[.ptr cL1Cur none,.val true cBridge false],[.val false cNN (some true)],fun a=>av a.1 a.2⟩) :: ne
theorem nh:Gd iq:=mkM rS 231 Tryz.f231 [] Tryz.func231
def fu (p0:L1Cur) (i1:Bridge):Option (L1Cur × Bind) :=
 (aa p0 (w64 ((i1.2.2.1.length:Int) + 1))).bind fun t12 =>
 (shl .i64 1 (IntKind.u64.wrap ((i1.2.2.1.length:Int)))).bind fun t18 =>
 (aa t12.1 10).bind fun t21 =>
 cond (t21.2 == 0)
 ((af ([1,1]:List Int)).bind fun t25 =>
 (bt t21.1 ([[110,101,119],[],[101,108,101,118,101,110,45,98,121,116,101]]:List (List UInt8))).bind fun t28 =>
 some (t28.1,(t25,4,0,t28.2,[])))
 (cond (t21.2 == 1)
 (cond (t21.2 == 1)
 ((af [2,2,w64 (1 + t12.2)]).bind fun t36 =>
 (ai t21.1 ([1,5,1000,0,1001]:List Int)).bind fun t39 =>
 (ah t39.2).bind fun t40 =>
 some (t39.1,(t36,t40.1,t40.2.1,t40.2.2.1,t40.2.2.2)))
 (cond (t21.2 == 3)
 ((af [2,4,w64 (1 + t12.2)]).bind fun t46 =>
 (aa t21.1 4).bind fun t48 =>
 (ah (w64 (1 + t48.2))).bind fun t50 =>
 some (t48.1,(t46,t50.1,t50.2.1,t50.2.2.1,t50.2.2.2)))
 (cond (t21.2 == 4)
 (cond (t21.2 == 4)
 ((aa t21.1 4).bind fun t56 =>
 (af [3,1,w64 (1 + t56.2)]).bind fun t59 =>
 (ai t56.1 ([4,4,6,1]:List Int)).bind fun t62 =>
 (ah t62.2).bind fun t63 =>
 some (t62.1,(t59,t63.1,t63.2.1,t63.2.2.1,t63.2.2.2)))
 (cond (t21.2 == 6)
 (cond (t21.2 == 6)
 ((aa t21.1 4).bind fun t69 =>
 (af [3,2,w64 (1 + t69.2)]).bind fun t72 =>
 (aa t69.1 (w64 ((w64 (t18 - 1)) + 2))).bind fun t76 =>
 (ah t76.2).bind fun t77 =>
 some (t76.1,(t72,t77.1,t77.2.1,t77.2.2.1,t77.2.2.2)))
 (cond (t21.2 == 8)
 ((aa t21.1 4).bind fun t82 =>
 (af [3,3,w64 (1 + t82.2)]).bind fun t85 =>
 (aa t82.1 (w64 ((w64 (t18 - 1)) + 1))).bind fun t89 =>
 (ah t89.2).bind fun t90 =>
 some (t89.1,(t85,t90.1,t90.2.1,t90.2.2.1,t90.2.2.2)))
 ((av t21.1 i1).bind fun t94 =>
 (ay t94.1).bind fun t96 =>
 some (t96.1,(t94.2,t96.2.1,t96.2.2.1,t96.2.2.2.1,t96.2.2.2.2)))))
 (cond (t21.2 == 7)
 ((aa t21.1 4).bind fun t69_1 =>
 (af [3,2,w64 (1 + t69_1.2)]).bind fun t72_1 =>
 (aa t69_1.1 (w64 ((w64 (t18 - 1)) + 2))).bind fun t76_1 =>
 (ah t76_1.2).bind fun t77_1 =>
 some (t76_1.1,(t72_1,t77_1.1,t77_1.2.1,t77_1.2.2.1,t77_1.2.2.2)))
 (cond (t21.2 == 8)
 ((aa t21.1 4).bind fun t82_1 =>
 (af [3,3,w64 (1 + t82_1.2)]).bind fun t85_1 =>
 (aa t82_1.1 (w64 ((w64 (t18 - 1)) + 1))).bind fun t89_1 =>
 (ah t89_1.2).bind fun t90_1 =>
 some (t89_1.1,(t85_1,t90_1.1,t90_1.2.1,t90_1.2.2.1,t90_1.2.2.2)))
 ((av t21.1 i1).bind fun t94_1 =>
 (ay t94_1.1).bind fun t96_1 =>
 some (t96_1.1,(t94_1.2,t96_1.2.1,t96_1.2.2.1,t96_1.2.2.2.1,t96_1.2.2.2.2)))))))
 (cond (t21.2 == 5)
 ((aa t21.1 4).bind fun t56_1 =>
 (af [3,1,w64 (1 + t56_1.2)]).bind fun t59_1 =>
 (ai t56_1.1 ([4,4,6,1]:List Int)).bind fun t62_1 =>
 (ah t62_1.2).bind fun t63_1 =>
 some (t62_1.1,(t59_1,t63_1.1,t63_1.2.1,t63_1.2.2.1,t63_1.2.2.2)))
 (cond (t21.2 == 6)
 (cond (t21.2 == 6)
 ((aa t21.1 4).bind fun t69_2 =>
 (af [3,2,w64 (1 + t69_2.2)]).bind fun t72_2 =>
 (aa t69_2.1 (w64 ((w64 (t18 - 1)) + 2))).bind fun t76_2 =>
 (ah t76_2.2).bind fun t77_2 =>
 some (t76_2.1,(t72_2,t77_2.1,t77_2.2.1,t77_2.2.2.1,t77_2.2.2.2)))
 (cond (t21.2 == 8)
 ((aa t21.1 4).bind fun t82_2 =>
 (af [3,3,w64 (1 + t82_2.2)]).bind fun t85_2 =>
 (aa t82_2.1 (w64 ((w64 (t18 - 1)) + 1))).bind fun t89_2 =>
 (ah t89_2.2).bind fun t90_2 =>
 some (t89_2.1,(t85_2,t90_2.1,t90_2.2.1,t90_2.2.2.1,t90_2.2.2.2)))
 ((av t21.1 i1).bind fun t94_2 =>
 (ay t94_2.1).bind fun t96_2 =>
 some (t96_2.1,(t94_2.2,t96_2.2.1,t96_2.2.2.1,t96_2.2.2.2.1,t96_2.2.2.2.2)))))
 (cond (t21.2 == 7)
 ((aa t21.1 4).bind fun t69_3 =>
 (af [3,2,w64 (1 + t69_3.2)]).bind fun t72_3 =>
 (aa t69_3.1 (w64 ((w64 (t18 - 1)) + 2))).bind fun t76_3 =>
 (ah t76_3.2).bind fun t77_3 =>
 some (t76_3.1,(t72_3,t77_3.1,t77_3.2.1,t77_3.2.2.1,t77_3.2.2.2)))
 (cond (t21.2 == 8)
 ((aa t21.1 4).bind fun t82_3 =>
 (af [3,3,w64 (1 + t82_3.2)]).bind fun t85_3 =>
 (aa t82_3.1 (w64 ((w64 (t18 - 1)) + 1))).bind fun t89_3 =>
 (ah t89_3.2).bind fun t90_3 =>
 some (t89_3.1,(t85_3,t90_3.1,t90_3.2.1,t90_3.2.2.1,t90_3.2.2.2)))
 ((av t21.1 i1).bind fun t94_3 =>
 (ay t94_3.1).bind fun t96_3 =>
 some (t96_3.1,(t94_3.2,t96_3.2.1,t96_3.2.2.1,t96_3.2.2.2.1,t96_3.2.2.2.2))))))))))
 (cond (t21.2 == 2)
 ((af [2,2,w64 (1 + t12.2)]).bind fun t36_1 =>
 (ai t21.1 ([1,5,1000,0,1001]:List Int)).bind fun t39_1 =>
 (ah t39_1.2).bind fun t40_1 =>
 some (t39_1.1,(t36_1,t40_1.1,t40_1.2.1,t40_1.2.2.1,t40_1.2.2.2)))
 (cond (t21.2 == 3)
 ((af [2,4,w64 (1 + t12.2)]).bind fun t46_1 =>
 (aa t21.1 4).bind fun t48_1 =>
 (ah (w64 (1 + t48_1.2))).bind fun t50_1 =>
 some (t48_1.1,(t46_1,t50_1.1,t50_1.2.1,t50_1.2.2.1,t50_1.2.2.2)))
 (cond (t21.2 == 4)
 (cond (t21.2 == 4)
 ((aa t21.1 4).bind fun t56_2 =>
 (af [3,1,w64 (1 + t56_2.2)]).bind fun t59_2 =>
 (ai t56_2.1 ([4,4,6,1]:List Int)).bind fun t62_2 =>
 (ah t62_2.2).bind fun t63_2 =>
 some (t62_2.1,(t59_2,t63_2.1,t63_2.2.1,t63_2.2.2.1,t63_2.2.2.2)))
 (cond (t21.2 == 6)
 (cond (t21.2 == 6)
 ((aa t21.1 4).bind fun t69_4 =>
 (af [3,2,w64 (1 + t69_4.2)]).bind fun t72_4 =>
 (aa t69_4.1 (w64 ((w64 (t18 - 1)) + 2))).bind fun t76_4 =>
 (ah t76_4.2).bind fun t77_4 =>
 some (t76_4.1,(t72_4,t77_4.1,t77_4.2.1,t77_4.2.2.1,t77_4.2.2.2)))
 (cond (t21.2 == 8)
 ((aa t21.1 4).bind fun t82_4 =>
 (af [3,3,w64 (1 + t82_4.2)]).bind fun t85_4 =>
 (aa t82_4.1 (w64 ((w64 (t18 - 1)) + 1))).bind fun t89_4 =>
 (ah t89_4.2).bind fun t90_4 =>
 some (t89_4.1,(t85_4,t90_4.1,t90_4.2.1,t90_4.2.2.1,t90_4.2.2.2)))
 ((av t21.1 i1).bind fun t94_4 =>
 (ay t94_4.1).bind fun t96_4 =>
 some (t96_4.1,(t94_4.2,t96_4.2.1,t96_4.2.2.1,t96_4.2.2.2.1,t96_4.2.2.2.2)))))
 (cond (t21.2 == 7)
 ((aa t21.1 4).bind fun t69_5 =>
 (af [3,2,w64 (1 + t69_5.2)]).bind fun t72_5 =>
 (aa t69_5.1 (w64 ((w64 (t18 - 1)) + 2))).bind fun t76_5 =>
 (ah t76_5.2).bind fun t77_5 =>
 some (t76_5.1,(t72_5,t77_5.1,t77_5.2.1,t77_5.2.2.1,t77_5.2.2.2)))
 (cond (t21.2 == 8)
 ((aa t21.1 4).bind fun t82_5 =>
 (af [3,3,w64 (1 + t82_5.2)]).bind fun t85_5 =>
 (aa t82_5.1 (w64 ((w64 (t18 - 1)) + 1))).bind fun t89_5 =>
 (ah t89_5.2).bind fun t90_5 =>
 some (t89_5.1,(t85_5,t90_5.1,t90_5.2.1,t90_5.2.2.1,t90_5.2.2.2)))
 ((av t21.1 i1).bind fun t94_5 =>
 (ay t94_5.1).bind fun t96_5 =>
 some (t96_5.1,(t94_5.2,t96_5.2.1,t96_5.2.2.1,t96_5.2.2.2.1,t96_5.2.2.2.2)))))))
 (cond (t21.2 == 5)
 ((aa t21.1 4).bind fun t56_3 =>
 (af [3,1,w64 (1 + t56_3.2)]).bind fun t59_3 =>
 (ai t56_3.1 ([4,4,6,1]:List Int)).bind fun t62_3 =>
 (ah t62_3.2).bind fun t63_3 =>
 some (t62_3.1,(t59_3,t63_3.1,t63_3.2.1,t63_3.2.2.1,t63_3.2.2.2)))
 (cond (t21.2 == 6)
 (cond (t21.2 == 6)
 ((aa t21.1 4).bind fun t69_6 =>
 (af [3,2,w64 (1 + t69_6.2)]).bind fun t72_6 =>
 (aa t69_6.1 (w64 ((w64 (t18 - 1)) + 2))).bind fun t76_6 =>
 (ah t76_6.2).bind fun t77_6 =>
 some (t76_6.1,(t72_6,t77_6.1,t77_6.2.1,t77_6.2.2.1,t77_6.2.2.2)))
 (cond (t21.2 == 8)
 ((aa t21.1 4).bind fun t82_6 =>
 (af [3,3,w64 (1 + t82_6.2)]).bind fun t85_6 =>
 (aa t82_6.1 (w64 ((w64 (t18 - 1)) + 1))).bind fun t89_6 =>
 (ah t89_6.2).bind fun t90_6 =>
 some (t89_6.1,(t85_6,t90_6.1,t90_6.2.1,t90_6.2.2.1,t90_6.2.2.2)))
 ((av t21.1 i1).bind fun t94_6 =>
 (ay t94_6.1).bind fun t96_6 =>
 some (t96_6.1,(t94_6.2,t96_6.2.1,t96_6.2.2.1,t96_6.2.2.2.1,t96_6.2.2.2.2)))))
 (cond (t21.2 == 7)
 ((aa t21.1 4).bind fun t69_7 =>
 (af [3,2,w64 (1 + t69_7.2)]).bind fun t72_7 =>
 (aa t69_7.1 (w64 ((w64 (t18 - 1)) + 2))).bind fun t76_7 =>
 (ah t76_7.2).bind fun t77_7 =>
 some (t76_7.1,(t72_7,t77_7.1,t77_7.2.1,t77_7.2.2.1,t77_7.2.2.2)))
 (cond (t21.2 == 8)
 ((aa t21.1 4).bind fun t82_7 =>
 (af [3,3,w64 (1 + t82_7.2)]).bind fun t85_7 =>
 (aa t82_7.1 (w64 ((w64 (t18 - 1)) + 1))).bind fun t89_7 =>
 (ah t89_7.2).bind fun t90_7 =>
 some (t89_7.1,(t85_7,t90_7.1,t90_7.2.1,t90_7.2.2.1,t90_7.2.2.2)))
 ((av t21.1 i1).bind fun t94_7 =>
 (ay t94_7.1).bind fun t96_7 =>
 some (t96_7.1,(t94_7.2,t96_7.2.1,t96_7.2.2.1,t96_7.2.2.2.1,t96_7.2.2.2.2)))))))))))
end
end Go.V.W
