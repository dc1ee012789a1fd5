/- The law FnExactWorkAll: part of the proof that for every input it returns true. No condition. -/
import Derived.Test.YthcdcolihokdmaaGreatV4
import Derived.Test.YthcdcolihokdmaaGreatProg
import Derived.Test.YthcdcolihokdmaaGreatChecked
import Derived.KernelRfl
set_option linter.unusedVariables false
set_option linter.unusedSimpArgs false
namespace Go.V.W
open Go.Proofs
noncomputable section
def us:Nat->Nat->List (Nat×Bool×List vv)->List (Nat×Bool×List vv)|_,0,l=>l|a,n+1,l=>(a,false,[.undef])::us (a+1) n l
@[reducible] def tW:Cs:=.one (.int .i64)
@[reducible] def uF:Cs:=.one .bool
@[reducible] def vh:Cs:=.one (.sl (.one (.int .u8)))
@[reducible] def vW:Cs:=.one (.sl (.one (.int .i64)))
@[reducible] def Pr:Cs:=.one .str
@[reducible] def dI:vv:=.dat (.int .i64)
@[reducible] def dB:vv:=.dat .bool
@[reducible] def dS:vv:=.dat .str
@[reducible] def ur:Cs:=.cons (.int .i64) (.cons (.int .i64) (.cons (.int .i64) (.cons (.int .i64) uF)))
@[reducible] def uQ:Cs:=.cons (.int .i64) (.cons (.int .i64) tW)
@[reducible] def wB:Cs:=.cons (.sl uQ) vW
@[reducible] def yF:Cs:=.cons (.int .i64) (.cons (.int .i64) (.cons (.int .i64) (.cons (.int .i64) tW)))
@[reducible] def vP:Cs:=.cons .bool (.cons (.int .i64) (.cons .bool (.cons (.int .i64) (.cons (.int .i64) (.cons (.int .i64) (.cons (.int .i64) tW))))))
@[reducible] def uf:Cs:=.cons (.int .i64) (.cons .str (.cons (.sl vP) (.cons (.sl ur) (.cons (.sl uQ) (.cons (.sl tW) (.cons (.int .i64) (.cons (.int .i64) (.cons (.int .i64) (.cons (.int .i64) tW)))))))))
@[reducible] def xU:Cs:=.cons (.int .i64) (.cons (.int .i64) (.cons .str vW))
@[reducible] def u9:Cs:=.cons (.sl tW) (.cons (.int .i64) (.cons (.int .i64) (.cons .str vW)))
@[reducible] def vY:Cs:=.cons (.int .i64) (.cons (.int .i64) (.cons (.int .i64) (.cons (.int .i64) (.one (.sl u9)))))
@[reducible] def vJ:Cs:=.cons (.int .i64) (.cons (.sl (.one (.int .u8))) (.cons (.int .i64) (.cons (.int .i64) (.cons (.int .i64) (.cons (.int .i64) (.cons (.int .i64) (.cons (.sl u9) (.cons (.int .i64) (.cons .str (.cons (.sl vP) (.cons (.sl ur) (.cons (.sl uQ) (.cons (.sl tW) (.cons (.int .i64) (.cons (.int .i64) (.cons (.int .i64) (.cons (.int .i64) (.cons (.int .i64) (.cons (.int .i64) tW)))))))))))))))))))
@[reducible] def uP:Cs:=.cons (.int .i64) (.cons .str (.cons (.sl vP) (.cons (.sl ur) (.cons (.sl uQ) (.cons (.sl tW) (.cons (.int .i64) (.cons (.int .i64) (.cons (.int .i64) (.cons (.int .i64) (.cons (.int .i64) (.cons .str (.cons (.sl vJ) (.cons (.int .i64) tW)))))))))))))
@[reducible] def AL:Cs:=.cons (.sl (.one (.int .u8))) (.cons (.int .i64) uF)
@[reducible] def wU:Cs:=.cons (.int .i64) (.cons (.int .i64) (.cons (.int .i64) (.cons (.int .i64) (.cons (.int .i64) (.one (.sl u9))))))
abbrev u0:Type:=Int×Int×Int×Int×Bool
abbrev ub:Type:=Int×Int×Int
abbrev vi:Type:=List ub×List Int
abbrev zz:Type:=Int×Int×Int×Int×Int
abbrev Pt:Type:=Bool×Int×Bool×Int×Int×Int×Int×Int
abbrev tQ:Type:=Int×List UInt8×List Pt×List u0×List ub×List Int×Int×Int×Int×Int×Int
abbrev wN:Type:=Int×Int×List UInt8×List Int
abbrev tS:Type:=List Int×Int×Int×List UInt8×List Int
abbrev uq:Type:=Int×Int×Int×Int×List tS
abbrev ut:Type:=Int×List Int×Int×Int×Int×Int×Int×List tS×Int×List UInt8×List Pt×List u0×List ub×List Int×Int×Int×Int×Int×Int×Int×Int
abbrev ue:Type:=Int×List UInt8×List Pt×List u0×List ub×List Int×Int×Int×Int×Int×Int×List UInt8×List ut×Int×Int
abbrev AM:Type:=List Int×Int×Bool
abbrev uY:Type:=Int×Int×Int×Int×Int×List tS
def tis:List (Nat×uo):=[(2,⟨false,.one (.int .i64),[],0⟩),
 (3,⟨false,.one (.int .i64),[],0⟩),
 (4,⟨false,.one .bool,[],0⟩),
 (5,⟨false,.one (.int .u8),[],0⟩),
 (6,⟨false,.one (.int .u8),[],0⟩),
 (9,⟨false,.one .str,[],0⟩),
 (10,⟨false,.one .str,[],0⟩),
 (11,⟨false,.one .str,[],0⟩),
 (12,⟨false,.one (.int .u64),[],0⟩),
 (21,⟨false,.one (.int .i32),[],0⟩),
 (22,⟨false,.one (.sl (.one (.int .u8))),[],5⟩),
 (24,⟨false,.one (.sl vP),[],239⟩),
 (25,⟨false,.one (.sl ur),[],320⟩),
 (26,⟨false,.one (.sl uQ),[],322⟩),
 (27,⟨false,.one (.sl tW),[],3⟩),
 (28,⟨true,wB,[(26,0),(27,1)],0⟩),
 (29,⟨true,wB,[(26,0),(27,1)],0⟩),
 (30,⟨true,uf,[(3,0),(9,1),(24,2),(25,3),(29,4),(3,6),(3,7),(3,8),(3,9),(3,10)],0⟩),
 (31,⟨true,uf,[(3,0),(9,1),(24,2),(25,3),(29,4),(3,6),(3,7),(3,8),(3,9),(3,10)],0⟩),
 (32,⟨false,.one (.sl vJ),[],148⟩),
 (33,⟨true,uP,[(31,0),(9,11),(32,12),(3,13),(3,14)],0⟩),
 (34,⟨true,uP,[(31,0),(9,11),(32,12),(3,13),(3,14)],0⟩),
 (39,⟨false,.one (.sl u9),[],209⟩),
 (40,⟨true,vY,[(3,0),(3,1),(3,2),(3,3),(39,4)],0⟩),
 (41,⟨true,vY,[(3,0),(3,1),(3,2),(3,3),(39,4)],0⟩),
 (44,⟨false,.one (.sl wU),[],49⟩),
 (48,⟨true,wU,[(3,0),(41,1)],0⟩),
 (49,⟨true,wU,[(3,0),(41,1)],0⟩),
 (50,⟨false,.one (.sl uf),[],83⟩),
 (51,⟨false,.one (.sl (.cons (.int .i64) (.cons (.int .i64) (.cons (.int .i64) tW)))),[],232⟩),
 (52,⟨false,.one (.sl (.cons (.int .i64) (.cons .bool (.cons (.int .i64) (.cons (.int .i64) (.cons (.int .i64) (.cons (.int .i64) tW))))))),[],237⟩),
 (53,⟨true,.cons (.sl uf) (.cons (.sl (.cons (.int .i64) (.cons (.int .i64) (.cons (.int .i64) tW)))) (.one (.sl (.cons (.int .i64) (.cons .bool (.cons (.int .i64) (.cons (.int .i64) (.cons (.int .i64) (.cons (.int .i64) tW))))))))),[(50,0),(51,1),(52,2)],0⟩),
 (54,⟨true,.cons (.sl uf) (.cons (.sl (.cons (.int .i64) (.cons (.int .i64) (.cons (.int .i64) tW)))) (.one (.sl (.cons (.int .i64) (.cons .bool (.cons (.int .i64) (.cons (.int .i64) (.cons (.int .i64) (.cons (.int .i64) tW))))))))),[(50,0),(51,1),(52,2)],0⟩),
 (55,⟨true,.cons (.int .i64) (.cons (.int .i64) (.cons (.int .i64) vh)),[(3,0),(3,1),(3,2),(22,3)],0⟩),
 (56,⟨true,.cons (.int .i64) (.cons (.int .i64) (.cons (.int .i64) vh)),[(3,0),(3,1),(3,2),(22,3)],0⟩),
 (59,⟨false,.one (.sl uf),[],31⟩),
 (60,⟨false,.one (.sl (.cons (.int .i64) (.cons (.int .i64) (.cons (.int .i64) tW)))),[],230⟩),
 (61,⟨false,.one (.sl (.cons (.int .i64) (.cons .bool (.cons (.int .i64) (.cons (.int .i64) (.cons (.int .i64) (.cons (.int .i64) tW))))))),[],234⟩),
 (62,⟨true,.cons (.sl uf) (.cons (.sl (.cons (.int .i64) (.cons (.int .i64) (.cons (.int .i64) tW)))) (.one (.sl (.cons (.int .i64) (.cons .bool (.cons (.int .i64) (.cons (.int .i64) (.cons (.int .i64) (.cons (.int .i64) tW))))))))),[(59,0),(60,1),(61,2)],0⟩),
 (63,⟨true,.cons (.sl uf) (.cons (.sl (.cons (.int .i64) (.cons (.int .i64) (.cons (.int .i64) tW)))) (.one (.sl (.cons (.int .i64) (.cons .bool (.cons (.int .i64) (.cons (.int .i64) (.cons (.int .i64) (.cons (.int .i64) tW))))))))),[(59,0),(60,1),(61,2)],0⟩),
 (64,⟨false,.one (.sl (.cons (.int .i64) (.cons (.int .i64) (.cons (.int .i64) (.cons (.int .i64) (.cons (.int .i64) vh)))))),[],169⟩),
 (68,⟨true,.cons (.int .i64) (.cons (.int .i64) (.cons (.int .i64) vh)),[(3,0),(3,1),(3,2),(22,3)],0⟩),
 (77,⟨false,.one (.sl vP),[],332⟩),
 (78,⟨false,.one (.sl ur),[],334⟩),
 (79,⟨false,.one (.sl uQ),[],372⟩),
 (80,⟨true,wB,[(79,0),(27,1)],0⟩),
 (81,⟨true,wB,[(79,0),(27,1)],0⟩),
 (82,⟨true,uf,[(3,0),(9,1),(77,2),(78,3),(81,4),(3,6),(3,7),(3,8),(3,9),(3,10)],0⟩),
 (83,⟨true,uf,[(3,0),(9,1),(77,2),(78,3),(81,4),(3,6),(3,7),(3,8),(3,9),(3,10)],0⟩),
 (84,⟨false,.one (.sl vJ),[],263⟩),
 (85,⟨true,uP,[(83,0),(9,11),(84,12),(3,13),(3,14)],0⟩),
 (86,⟨true,uP,[(83,0),(9,11),(84,12),(3,13),(3,14)],0⟩),
 (94,⟨true,yF,[(3,0),(3,1),(3,2),(3,3),(3,4)],0⟩),
 (95,⟨true,yF,[(3,0),(3,1),(3,2),(3,3),(3,4)],0⟩),
 (96,⟨true,.cons (.int .i64) (.cons (.int .i64) (.cons .bool (.cons (.sl (.one (.int .u8))) (.cons (.int .i64) (.cons (.int .i64) (.cons (.int .i64) (.cons (.sl (.one (.int .u8))) (.cons (.int .i64) (.cons (.int .i64) (.cons (.int .i64) (.cons (.int .i64) tW))))))))))),[(3,0),(3,1),(4,2),(22,3),(56,4),(95,8)],0⟩),
 (97,⟨true,.cons (.int .i64) (.cons (.int .i64) (.cons .bool (.cons (.sl (.one (.int .u8))) (.cons (.int .i64) (.cons (.int .i64) (.cons (.int .i64) (.cons (.sl (.one (.int .u8))) (.cons (.int .i64) (.cons (.int .i64) (.cons (.int .i64) (.cons (.int .i64) tW))))))))))),[(3,0),(3,1),(4,2),(22,3),(56,4),(95,8)],0⟩),
 (99,⟨false,.one (.sl (.cons (.int .i64) (.cons (.int .i64) (.cons (.int .i64) (.cons (.int .i64) vh))))),[],194⟩),
 (102,⟨true,yF,[(3,0),(3,1),(3,2),(3,3),(3,4)],0⟩),
 (103,⟨true,.cons (.int .i64) (.cons (.int .i64) (.cons .bool (.cons (.sl (.one (.int .u8))) (.cons (.int .i64) (.cons (.int .i64) (.cons (.int .i64) (.cons (.sl (.one (.int .u8))) (.cons (.int .i64) (.cons (.int .i64) (.cons (.int .i64) (.cons (.int .i64) tW))))))))))),[(3,0),(3,1),(4,2),(22,3),(68,4),(102,8)],0⟩),
 (104,⟨true,.cons (.int .i64) (.cons (.int .i64) (.cons .bool (.cons (.sl (.one (.int .u8))) (.cons (.int .i64) (.cons (.int .i64) (.cons (.int .i64) (.cons (.sl (.one (.int .u8))) (.cons (.int .i64) (.cons (.int .i64) (.cons (.int .i64) (.cons (.int .i64) tW))))))))))),[(3,0),(3,1),(4,2),(22,3),(68,4),(102,8)],0⟩),
 (111,⟨false,.one (.sl (.cons (.int .i64) (.cons (.int .i64) (.cons .bool (.cons (.sl (.one (.int .u8))) (.cons (.int .i64) (.cons (.int .i64) (.cons (.int .i64) (.cons (.sl (.one (.int .u8))) (.cons (.int .i64) (.cons (.int .i64) (.cons (.int .i64) (.cons (.int .i64) tW))))))))))))),[],97⟩),
 (114,⟨false,.one (.sl (.cons (.int .i64) (.cons (.int .i64) (.cons .bool (.cons (.sl (.one (.int .u8))) (.cons (.int .i64) (.cons (.int .i64) (.cons (.int .i64) (.cons (.sl (.one (.int .u8))) (.cons (.int .i64) (.cons (.int .i64) (.cons (.int .i64) (.cons (.int .i64) tW))))))))))))),[],104⟩),
 (125,⟨false,.one (.sl Pr),[],9⟩),
 (137,⟨true,AL,[(22,0),(3,1),(4,2)],0⟩),
 (138,⟨true,AL,[(22,0),(3,1),(4,2)],0⟩),
 (147,⟨true,vJ,[(3,0),(22,1),(3,2),(41,3),(31,8),(3,19),(3,20)],0⟩),
 (148,⟨true,vJ,[(3,0),(22,1),(3,2),(41,3),(31,8),(3,19),(3,20)],0⟩),
 (154,⟨false,.one (.sl (.cons (.int .i64) (.cons (.int .i64) (.cons (.int .i64) (.cons (.int .i64) (.cons (.int .i64) vh)))))),[],227⟩),
 (155,⟨true,.cons (.sl uf) (.cons (.sl (.cons (.int .i64) (.cons (.int .i64) (.cons (.int .i64) tW)))) (.cons (.sl (.cons (.int .i64) (.cons .bool (.cons (.int .i64) (.cons (.int .i64) (.cons (.int .i64) (.cons (.int .i64) tW))))))) (.cons (.sl (.cons (.int .i64) (.cons (.int .i64) (.cons (.int .i64) (.cons (.int .i64) (.cons (.int .i64) vh)))))) (.cons (.sl (.cons (.int .i64) (.cons (.int .i64) (.cons (.int .i64) (.cons (.int .i64) (.cons (.int .i64) vh)))))) (.cons (.sl tW) tW))))),[(63,0),(154,3),(64,4),(27,5),(3,6)],0⟩),
 (156,⟨true,.cons (.sl uf) (.cons (.sl (.cons (.int .i64) (.cons (.int .i64) (.cons (.int .i64) tW)))) (.cons (.sl (.cons (.int .i64) (.cons .bool (.cons (.int .i64) (.cons (.int .i64) (.cons (.int .i64) (.cons (.int .i64) tW))))))) (.cons (.sl (.cons (.int .i64) (.cons (.int .i64) (.cons (.int .i64) (.cons (.int .i64) (.cons (.int .i64) vh)))))) (.cons (.sl (.cons (.int .i64) (.cons (.int .i64) (.cons (.int .i64) (.cons (.int .i64) (.cons (.int .i64) vh)))))) (.cons (.sl tW) tW))))),[(63,0),(154,3),(64,4),(27,5),(3,6)],0⟩),
 (168,⟨true,.cons (.int .i64) (.cons (.int .i64) (.cons (.int .i64) (.cons (.int .i64) (.cons (.int .i64) vh)))),[(3,0),(3,1),(68,2)],0⟩),
 (169,⟨true,.cons (.int .i64) (.cons (.int .i64) (.cons (.int .i64) (.cons (.int .i64) (.cons (.int .i64) vh)))),[(3,0),(3,1),(68,2)],0⟩),
 (193,⟨true,.cons (.int .i64) (.cons (.int .i64) (.cons (.int .i64) (.cons (.int .i64) vh))),[(3,0),(68,1)],0⟩),
 (194,⟨true,.cons (.int .i64) (.cons (.int .i64) (.cons (.int .i64) (.cons (.int .i64) vh))),[(3,0),(68,1)],0⟩),
 (196,⟨true,.cons (.sl (.one (.int .u8))) (.cons (.int .i64) tW),[(22,0),(3,1),(3,2)],0⟩),
 (197,⟨true,.cons (.sl (.one (.int .u8))) (.cons (.int .i64) tW),[(22,0),(3,1),(3,2)],0⟩),
 (205,⟨true,xU,[(3,0),(3,1),(9,2),(27,3)],0⟩),
 (206,⟨true,xU,[(3,0),(3,1),(9,2),(27,3)],0⟩),
 (208,⟨true,u9,[(27,0),(206,1)],0⟩),
 (209,⟨true,u9,[(27,0),(206,1)],0⟩),
 (210,⟨false,.one (.int .u64),[],0⟩),
 (226,⟨true,.cons (.int .i64) (.cons (.int .i64) (.cons (.int .i64) (.cons (.int .i64) (.cons (.int .i64) vh)))),[(3,0),(3,1),(68,2)],0⟩),
 (227,⟨true,.cons (.int .i64) (.cons (.int .i64) (.cons (.int .i64) (.cons (.int .i64) (.cons (.int .i64) vh)))),[(3,0),(3,1),(68,2)],0⟩),
 (229,⟨true,.cons (.int .i64) (.cons (.int .i64) (.cons (.int .i64) tW)),[(3,0),(3,1),(3,2),(3,3)],0⟩),
 (230,⟨true,.cons (.int .i64) (.cons (.int .i64) (.cons (.int .i64) tW)),[(3,0),(3,1),(3,2),(3,3)],0⟩),
 (232,⟨true,.cons (.int .i64) (.cons (.int .i64) (.cons (.int .i64) tW)),[(3,0),(3,1),(3,2),(3,3)],0⟩),
 (233,⟨true,.cons (.int .i64) (.cons .bool (.cons (.int .i64) (.cons (.int .i64) (.cons (.int .i64) (.cons (.int .i64) tW))))),[(3,0),(4,1),(102,2)],0⟩),
 (234,⟨true,.cons (.int .i64) (.cons .bool (.cons (.int .i64) (.cons (.int .i64) (.cons (.int .i64) (.cons (.int .i64) tW))))),[(3,0),(4,1),(102,2)],0⟩),
 (236,⟨true,.cons (.int .i64) (.cons .bool (.cons (.int .i64) (.cons (.int .i64) (.cons (.int .i64) (.cons (.int .i64) tW))))),[(3,0),(4,1),(95,2)],0⟩),
 (237,⟨true,.cons (.int .i64) (.cons .bool (.cons (.int .i64) (.cons (.int .i64) (.cons (.int .i64) (.cons (.int .i64) tW))))),[(3,0),(4,1),(95,2)],0⟩),
 (238,⟨true,vP,[(4,0),(3,1),(4,2),(102,3)],0⟩),
 (239,⟨true,vP,[(4,0),(3,1),(4,2),(102,3)],0⟩),
 (243,⟨true,.cons (.int .i64) (.cons (.int .i64) (.cons (.int .i64) (.cons (.int .i64) (.cons (.int .i64) vh)))),[(3,0),(3,1),(68,2)],0⟩),
 (244,⟨true,.cons (.int .i64) (.cons (.int .i64) (.cons (.int .i64) (.cons (.int .i64) (.cons (.int .i64) vh)))),[(3,0),(3,1),(68,2)],0⟩),
 (245,⟨false,.one (.sl (.cons (.int .i64) (.cons (.int .i64) (.cons (.int .i64) (.cons (.int .i64) (.cons (.int .i64) vh)))))),[],244⟩),
 (259,⟨false,.one (.sl u9),[],392⟩),
 (260,⟨true,vY,[(3,0),(3,1),(3,2),(3,3),(259,4)],0⟩),
 (261,⟨true,vY,[(3,0),(3,1),(3,2),(3,3),(259,4)],0⟩),
 (262,⟨true,vJ,[(3,0),(22,1),(3,2),(261,3),(83,8),(3,19),(3,20)],0⟩),
 (263,⟨true,vJ,[(3,0),(22,1),(3,2),(261,3),(83,8),(3,19),(3,20)],0⟩),
 (301,⟨false,.one (.int .i8),[],0⟩),
 (319,⟨true,ur,[(3,0),(3,1),(3,2),(3,3),(4,4)],0⟩),
 (320,⟨true,ur,[(3,0),(3,1),(3,2),(3,3),(4,4)],0⟩),
 (321,⟨true,uQ,[(3,0),(3,1),(3,2)],0⟩),
 (322,⟨true,uQ,[(3,0),(3,1),(3,2)],0⟩),
 (331,⟨true,vP,[(4,0),(3,1),(4,2),(95,3)],0⟩),
 (332,⟨true,vP,[(4,0),(3,1),(4,2),(95,3)],0⟩),
 (334,⟨true,ur,[(3,0),(3,1),(3,2),(3,3),(4,4)],0⟩),
 (366,⟨true,AL,[(22,0),(3,1),(4,2)],0⟩),
 (367,⟨true,AL,[(22,0),(3,1),(4,2)],0⟩),
 (372,⟨true,uQ,[(3,0),(3,1),(3,2)],0⟩),
 (387,⟨false,.one (.sl vW),[],27⟩),
 (390,⟨true,xU,[(3,0),(3,1),(9,2),(27,3)],0⟩),
 (391,⟨true,u9,[(27,0),(390,1)],0⟩),
 (392,⟨true,u9,[(27,0),(390,1)],0⟩),
 (417,⟨false,.one (.int .u32),[],0⟩),
 (418,⟨false,.one (.int .u8),[],0⟩),
 (419,⟨false,.one (.int .u8),[],0⟩),
 (422,⟨false,.one (.int .i32),[],0⟩),
 (423,⟨false,.one (.int .i32),[],0⟩)]
theorem tisT:wk Tryz.prog tis:=wk.of_all (by kernel_rfl)
theorem TD:JD Tryz.prog tis:=JD.of_all (by kernel_rfl)
theorem tisD:Deep Tryz.prog tis:=Deep.of_all (by kernel_rfl)
theorem zO:Tryz.prog.follows .mixedOrders=true:=by kernel_rfl
def vQ (fn:Func):Code:=match fn.body with|some c=>c|none=>.skip
theorem qL:wK Tryz.prog ⟨tis,[],[],false⟩:=⟨tisT,TD,(λf F h=>by cases h),(λf M h=>by cases h),(λh=>by cases h)⟩
theorem Tw {l : List (FuncId×Fn)} (g : wK Tryz.prog ⟨tis, l, [], false⟩) (n : FuncId) (f : Func) (ann : List (Nat×u4)) (F : Fn) (h1 : Tryz.prog.funcs[n]?=some f) (h2 : (f.name == "runtime.NumGoroutine")=false := by kernel_rfl) (h3 : f.body=some (vQ f) := by kernel_rfl) (h4 : FG ⟨tis, l, [], false⟩ ann f (vQ f) F.ps F.rs=F.den := by kernel_rfl) : Bb Tryz.prog n F := by
 have h:=K0 (ann:=ann) (ps:=F.ps) (rs:=F.rs) g zO h1 h2 h3;rw[h4]at h;exact h
abbrev FL:=List (FuncId×Fn)
def Gd (l:FL):Prop:=wK Tryz.prog ⟨tis,l,[],false⟩
theorem tZ {l : List (FuncId×Fn)} (g : Gd l) (n : FuncId) (f : Func) (ann : List (Nat×u4)) {F : Fn} (h1 : Tryz.prog.funcs[n]?=some f) (h2 : (f.name == "runtime.NumGoroutine")=false := by kernel_rfl) (h3 : f.body=some (vQ f) := by kernel_rfl) (h4 : FG ⟨tis, l, [], false⟩ ann f (vQ f) F.ps F.rs=F.den := by kernel_rfl) : Gd ((n, F)::l) := wK.cons g (Tw g n f ann F h1 h2 h3 h4)
def bA (b0:List Int):Option (List Int) :=
 (uv [] b0).bind λzs4 =>
 some zs4
def lw:FL:=(77,⟨[.val false vh false],[.val false vh (some true)],λa=>bA a⟩)::[]
theorem qM:Gd lw:=tZ qL 77 Tryz.f77 [] Tryz.func77
def gg (l0:List u0):Option (List u0) :=
 (uv [] l0).bind λzs4 =>
 some zs4
def lz:FL:=(233,⟨[.val false (.one (.sl ur)) false],[.val false (.one (.sl ur)) (some true)],λa=>gg a⟩)::lw
theorem qN:Gd lz:=tZ qM 233 Tryz.f233 [] Tryz.func233
def aI (l0:List Int):Option (List Int) :=
 (uv [] l0).bind λzs4 =>
 some zs4
def lA:FL:=(313,⟨[.val false vW false],[.val false vW (some true)],λa=>aI a⟩)::lz
theorem qO:Gd lA:=tZ qN 313 Tryz.f313 [] Tryz.func313
def cN (v0:vi):Option vi :=
 (uv [] v0.1).bind λzs5 =>
 (aI v0.2).bind λt8 =>
 some (zs5,t8)
def lB:FL:=(234,⟨[.val true wB false],[.val true wB (some true)],λa=>cN a⟩)::lA
theorem qP:Gd lB:=tZ qO 234 Tryz.f234 [] Tryz.func234
def aj (b0:tQ):Option tQ :=
 (uv [] b0.2.2.1).bind λzs5 =>
 (gg b0.2.2.2.1).bind λt9 =>
 (cN (b0.2.2.2.2.1,b0.2.2.2.2.2.1)).bind λt12 =>
 some (b0.1,b0.2.1,zs5,t9,t12.1,t12.2,b0.2.2.2.2.2.2.1,b0.2.2.2.2.2.2.2.1,b0.2.2.2.2.2.2.2.2.1,b0.2.2.2.2.2.2.2.2.2.1,b0.2.2.2.2.2.2.2.2.2.2)
def lC:FL:=(143,⟨[.val true uf false],[.val true uf (some true)],λa=>aj a⟩)::lB
theorem qQ:Gd lC:=tZ qP 143 Tryz.f143 [] Tryz.func143
def gh (v0:wN):Option wN :=
 (aI v0.2.2.2).bind λt5 =>
 some (v0.1,v0.2.1,v0.2.2.1,t5)
def lD:FL:=(314,⟨[.val true xU false],[.val true xU (some true)],λa=>gh a⟩)::lC
theorem qR:Gd lD:=tZ qQ 314 Tryz.f314 [] Tryz.func314
def cO (l0:List tS) (t8:Int) (out3:List tS):Option ((Int×List tS)⊕(List tS)) :=
 cond (decide (t8<(l0.length:Int)))
 ((at? l0 t8).bind λx10 =>
 (aI x10.1).bind λt15 =>
 (gh x10.2).bind λt18 =>
 (uv out3 [(t15,t18.1,t18.2.1,t18.2.2.1,t18.2.2.2)]).bind λzs21 =>
 some (.inl (tR (t8+1),zs21)))
 (some (.inr out3))
def cP (l0:List tS):Option (List tS) :=
 (loop (λz=>cO l0 z.1 z.2) (0,[])).bind λd =>
 some d
def lE:FL:=(235,⟨[.val false (.one (.sl u9)) false],[.val false (.one (.sl u9)) (some true)],λa=>cP a⟩)::lD
theorem qS:Gd lE:=tZ qR 235 Tryz.f235 [(0,⟨⟨[(3,false,[.own 1000000000]),(8,false,[dI])],[(1000000000,.root u9 true)]⟩,
 ⟨[(3,false,[.own 1000000300])],[(1000000300,.root u9 true)]⟩,none⟩)] Tryz.func235
def ej (p0:uq):Option uq :=
 (cP p0.2.2.2.2).bind λt5 =>
 some (p0.1,p0.2.1,p0.2.2.1,p0.2.2.2.1,t5)
def lF:FL:=(144,⟨[.val true vY false],[.val true vY (some true)],λa=>ej a⟩)::lE
theorem qT:Gd lF:=tZ qS 144 Tryz.f144 [] Tryz.func144
def cQ (a0:ue) (t13:Int) (jobs3:List ut):Option ((Int×List ut)⊕(List ut)) :=
 cond (decide (t13<(a0.2.2.2.2.2.2.2.2.2.2.2.2.1.length:Int)))
 ((at? a0.2.2.2.2.2.2.2.2.2.2.2.2.1 t13).bind λx15 =>
 (bA x15.2.1).bind λt19 =>
 (ej (x15.2.2.2.1,x15.2.2.2.2.1,x15.2.2.2.2.2.1,x15.2.2.2.2.2.2.1,x15.2.2.2.2.2.2.2.1)).bind λt22 =>
 (aj (x15.2.2.2.2.2.2.2.2.1,x15.2.2.2.2.2.2.2.2.2.1,x15.2.2.2.2.2.2.2.2.2.2.1,x15.2.2.2.2.2.2.2.2.2.2.2.1,x15.2.2.2.2.2.2.2.2.2.2.2.2.1,x15.2.2.2.2.2.2.2.2.2.2.2.2.2.1,x15.2.2.2.2.2.2.2.2.2.2.2.2.2.2.1,x15.2.2.2.2.2.2.2.2.2.2.2.2.2.2.2.1,x15.2.2.2.2.2.2.2.2.2.2.2.2.2.2.2.2.1,x15.2.2.2.2.2.2.2.2.2.2.2.2.2.2.2.2.2.1,x15.2.2.2.2.2.2.2.2.2.2.2.2.2.2.2.2.2.2.1)).bind λt25 =>
 (uv jobs3 [(x15.1,t19,x15.2.2.1,t22.1,t22.2.1,t22.2.2.1,t22.2.2.2.1,t22.2.2.2.2,t25.1,t25.2.1,t25.2.2.1,t25.2.2.2.1,t25.2.2.2.2.1,t25.2.2.2.2.2.1,t25.2.2.2.2.2.2.1,t25.2.2.2.2.2.2.2.1,t25.2.2.2.2.2.2.2.2.1,t25.2.2.2.2.2.2.2.2.2.1,t25.2.2.2.2.2.2.2.2.2.2,x15.2.2.2.2.2.2.2.2.2.2.2.2.2.2.2.2.2.2.2.1,x15.2.2.2.2.2.2.2.2.2.2.2.2.2.2.2.2.2.2.2.2)]).bind λzs32 =>
 some (.inl (tR (t13+1),zs32)))
 (some (.inr jobs3))
def gi (a0:ue):Option ue :=
 (aj (a0.1,a0.2.1,a0.2.2.1,a0.2.2.2.1,a0.2.2.2.2.1,a0.2.2.2.2.2.1,a0.2.2.2.2.2.2.1,a0.2.2.2.2.2.2.2.1,a0.2.2.2.2.2.2.2.2.1,a0.2.2.2.2.2.2.2.2.2.1,a0.2.2.2.2.2.2.2.2.2.2.1)).bind λt8 =>
 (loop (λz=>cQ a0 z.1 z.2) (0,[])).bind λd =>
 some (t8.1,t8.2.1,t8.2.2.1,t8.2.2.2.1,t8.2.2.2.2.1,t8.2.2.2.2.2.1,t8.2.2.2.2.2.2.1,t8.2.2.2.2.2.2.2.1,t8.2.2.2.2.2.2.2.2.1,t8.2.2.2.2.2.2.2.2.2.1,t8.2.2.2.2.2.2.2.2.2.2,a0.2.2.2.2.2.2.2.2.2.2.2.1,d,a0.2.2.2.2.2.2.2.2.2.2.2.2.2.1,a0.2.2.2.2.2.2.2.2.2.2.2.2.2.2)
def lG:FL:=(72,⟨[.val true uP false],[.val true uP (some true)],λa=>gi a⟩)::lF
theorem qU:Gd lG:=tZ qT 72 Tryz.f72 [(0,⟨⟨[(3,false,[.own 1000000000]),(13,false,[dI])],[(1000000000,.root vJ true)]⟩,
 ⟨[(3,false,[.own 1000000300])],[(1000000300,.root vJ true)]⟩,none⟩)] Tryz.func72
def aa (n0:Int) (low1:Int) (high2:Int):Option Bool :=
 (cond (decide (n0>=low1)) (some (decide (n0<=high2))) (some false)).bind λt14 =>
 some t14
def lH:FL:=(74,⟨[.val false tW false,.val false tW false,.val false tW false],[.val false uF (some true)],λa=>aa a.1 a.2.1 a.2.2⟩)::lG
theorem qV:Gd lH:=tZ qU 74 Tryz.f74 [] Tryz.func74
def aR (n0:Int):Option Bool :=
 (aa n0 0 1000000).bind λt4 =>
 some t4
def lI:FL:=(146,⟨[.val false tW false],[.val false uF (some true)],λa=>aR a⟩)::lH
theorem qW:Gd lI:=tZ qV 146 Tryz.f146 [] Tryz.func146
def cf (v0:zz):Option Bool :=
 (aa v0.1 1 99).bind λt5 =>
 (cond t5
 ((aa v0.2.1 0 100000).bind λt9 =>
 some t9)
 (some false)).bind λt10 =>
 (cond t10
 ((aa v0.2.2.1 0 10).bind λt14 =>
 some t14)
 (some false)).bind λt15 =>
 (cond t15
 ((aa v0.2.2.2.1 1 99).bind λt19 =>
 some t19)
 (some false)).bind λt20 =>
 (cond t20
 ((aa v0.2.2.2.2 0 7).bind λt24 =>
 some t24)
 (some false)).bind λt25 =>
 some t25
def lJ:FL:=(249,⟨[.val true yF false],[.val false uF (some true)],λa=>cf a⟩)::lI
theorem qX:Gd lJ:=tZ qW 249 Tryz.f249 [] Tryz.func249
def em (p0:Pt):Option Bool :=
 (aa p0.2.1 1 1000).bind λt5 =>
 (cond (!t5)
 (some true)
 ((cond p0.2.2.1 (some (!p0.1)) (some false)).bind λt14 =>
 some t14)).bind λt15 =>
 cond t15
 (some false)
 (cond p0.2.2.1
 ((cf p0.2.2.2).bind λt20 =>
 some t20)
 (let t2:=p0.2.2.2.1==0&&(p0.2.2.2.2.1==0&&(p0.2.2.2.2.2.1==0&&(p0.2.2.2.2.2.2.1==0&&(p0.2.2.2.2.2.2.2==0))))
 some t2))
def lK:FL:=(236,⟨[.val true vP false],[.val false uF (some true)],λa=>em a⟩)::lJ
theorem qY:Gd lK:=tZ qX 236 Tryz.f236 [] Tryz.func236
def cR (e0:u0):Option Bool :=
 (aa e0.1 1 99).bind λt5 =>
 (cond t5
 ((aa e0.2.1 1 9999).bind λt9 =>
 some t9)
 (some false)).bind λt10 =>
 (cond t10
 ((aa e0.2.2.1 0 7).bind λt14 =>
 some t14)
 (some false)).bind λt15 =>
 (cond t15
 ((aa e0.2.2.2.1 0 4).bind λt19 =>
 some t19)
 (some false)).bind λt20 =>
 (cond t20
 ((cond (!e0.2.2.2.2) (some true) (some (e0.2.2.2.1==0))).bind λt29 =>
 some t29)
 (some false)).bind λt30 =>
 some t30
def lL:FL:=(315,⟨[.val true ur false],[.val false uF (some true)],λa=>cR a⟩)::lK
theorem qZ:Gd lL:=tZ qY 315 Tryz.f315 [] Tryz.func315
def eo (e0:u0) (tag1:Int) (mac2:Int):Option Bool :=
 (cond (decide (e0.1>tag1))
 (some true)
 ((cond (e0.1==tag1) (some (decide (e0.2.1>mac2))) (some false)).bind λt21 =>
 some t21)).bind λt22 =>
 some t22
def lM:FL:=(316,⟨[.val true ur false,.val false tW false,.val false tW false],[.val false uF (some true)],λa=>eo a.1 a.2.1 a.2.2⟩)::lL
theorem r7:Gd lM:=tZ qZ 316 Tryz.f316 [] Tryz.func316
def ip (l0:List u0) (t7:Int):Option (Int⊕(Unit⊕Bool)) :=
 cond (decide (t7<(l0.length:Int)))
 ((at? l0 t7).bind λx10 =>
 (cR x10).bind λt13 =>
 (cond (!t13)
 (some true)
 ((cond (decide (t7>0))
 ((at? l0 (tR (t7-1))).bind λx23 =>
 (at? l0 (tR (t7-1))).bind λx29 =>
 (eo x10 x23.1 x29.2.1).bind λt32 =>
 some (!t32))
 (some false)).bind λt34 =>
 some t34)).bind λt35 =>
 cond t35 (some (.inr (.inr false))) (some (.inl (tR (t7+1)))))
 (some (.inr (.inl ())))
def gj (l0:List u0):Option Bool :=
 (loop (λz=>ip l0 z) 0).bind (Sum.elim (λd =>
 let t2:=decide ((l0.length:Int)<=12)
 some t2) (λr=>some r))
def lN:FL:=(237,⟨[.val false (.one (.sl ur)) false],[.val false uF (some true)],λa=>gj a⟩)::lM
theorem r8:Gd lN:=tZ r7 237 Tryz.f237 [(0,⟨⟨(7,false,[dI])::us 16 19 [],[]⟩,
 ⟨[],[]⟩,some ⟨[(2,false,[dB])],[]⟩⟩)] Tryz.func237
def ep (ports0:Int):Option Int :=
 (shl .i64 1 ports0).bind λt4 =>
 some (tR (t4-1))
def lO:FL:=(317,⟨[.val false tW false],[.val false tW (some true)],λa=>ep a⟩)::lN
theorem r9:Gd lO:=tZ r8 317 Tryz.f317 [] Tryz.func317
def aS (v0:vi) (id1:Int) (t10:Int):Option (Int⊕(Unit⊕Int)) :=
 cond (decide (t10<(v0.1.length:Int)))
 ((at? v0.1 t10).bind λx13 =>
 cond (x13.1==id1) (some (.inr (.inr t10))) (some (.inl (tR (t10+1)))))
 (some (.inr (.inl ())))
def aq (v0:vi) (id1:Int):Option Int :=
 (loop (λz=>aS v0 id1 z) 0).bind (Sum.elim (λd =>
 some (-1)) (λr=>some r))
def lP:FL:=(318,⟨[.val true wB false,.val false tW false],[.val false tW (some true)],λa=>aq a.1 a.2⟩)::lO
theorem ra:Gd lP:=tZ r9 318 Tryz.f318 [(0,⟨⟨[(10,false,[dI])],[]⟩,
 ⟨[],[]⟩,some ⟨[(4,false,[dI])],[]⟩⟩)] Tryz.func318
def iq (p0:vi) (i1:Int) (t28:Int):Option (Int⊕(Unit⊕Bool)) :=
 cond (decide (t28<(p0.1.length:Int)))
 ((at? p0.1 t28).bind λx31 =>
 (aa x31.1 1 99).bind λt35 =>
 (cond (!t35)
 (some true)
 ((cond (decide (t28>0))
 ((at? p0.1 (tR (t28-1))).bind λx45 =>
 some (decide (x45.1>=x31.1)))
 (some false)).bind λt51 =>
 some t51)).bind λt52 =>
 (cond t52
 (some true)
 ((ep i1).bind λt57 =>
 (aa x31.2.1 0 t57).bind λt58 =>
 some (!t58))).bind λt60 =>
 (cond t60 (some true) (some ((EM .i64 x31.2.2 x31.2.1) != 0))).bind λt68 =>
 cond t68 (some (.inr (.inr false))) (some (.inl (tR (t28+1)))))
 (some (.inr (.inl ())))
def gk (p0:vi) (t73:Int):Option (Int⊕(Unit⊕Bool)) :=
 cond (decide (t73<(p0.2.length:Int)))
 ((at? p0.2 t73).bind λx75 =>
 (aq p0 x75).bind λt79 =>
 cond (decide (t79<0)) (some (.inr (.inr false))) (some (.inl (tR (t73+1)))))
 (some (.inr (.inl ())))
def cS (p0:vi) (i1:Int):Option Bool :=
 (aa i1 1 6).bind λt10 =>
 (cond (!t10) (some true) (some ((p0.2.length:Int) != i1))).bind λt18 =>
 (cond t18 (some true) (some (decide ((p0.1.length:Int)>6)))).bind λt24 =>
 cond t24
 (some false)
 ((loop (λz=>iq p0 i1 z) 0).bind (Sum.elim (λd =>
 (loop (λz=>gk p0 z) 0).bind (Sum.elim (λd_1 =>
 some true) (λr=>some r))) (λr_1=>some r_1)))
def lQ:FL:=(238,⟨[.val true wB false,.val false tW false],[.val false uF (some true)],λa=>cS a.1 a.2⟩)::lP
theorem rb:Gd lQ:=tZ ra 238 Tryz.f238 [(0,⟨⟨(28,false,[dI])::us 38 14 (us 54 6 (us 62 6 [])),[]⟩,
 ⟨[],[]⟩,some ⟨[(4,false,[dB])],[]⟩⟩),
 (2,⟨⟨[(73,false,[dI])],[]⟩,
 ⟨[],[]⟩,some ⟨[(4,false,[dB])],[]⟩⟩)] Tryz.func238
def ir (p0:tQ) (t8:Int):Option (Int⊕(Unit⊕Bool)) :=
 cond (decide (t8<(p0.2.2.1.length:Int)))
 ((at? p0.2.2.1 t8).bind λx10 =>
 (em x10).bind λt13 =>
 cond (!t13) (some (.inr (.inr false))) (some (.inl (tR (t8+1)))))
 (some (.inr (.inl ())))
def aQ (p0:tQ):Option Bool :=
 (loop (λz=>ir p0 z) 0).bind (Sum.elim (λd =>
 (aa p0.1 1 99).bind λt18 =>
 (cond (!t18) (some true) (some (decide ((p0.2.1.length:Int)>10)))).bind λt25 =>
 (cond t25
 (some true)
 ((aa (p0.2.2.1.length:Int) 1 6).bind λt30 =>
 some (!t30))).bind λt32 =>
 (cond t32
 (some true)
 ((gj p0.2.2.2.1).bind λt36 =>
 some (!t36))).bind λt38 =>
 (cond t38
 (some true)
 ((cS (p0.2.2.2.2.1,p0.2.2.2.2.2.1) (p0.2.2.1.length:Int)).bind λt45 =>
 some (!t45))).bind λt47 =>
 cond t47
 (some false)
 ((aR p0.2.2.2.2.2.2.1).bind λt50 =>
 (cond t50
 ((aR p0.2.2.2.2.2.2.2.1).bind λt54 =>
 some t54)
 (some false)).bind λt55 =>
 (cond t55
 ((aR p0.2.2.2.2.2.2.2.2.1).bind λt59 =>
 some t59)
 (some false)).bind λt60 =>
 (cond t60
 ((aR p0.2.2.2.2.2.2.2.2.2.1).bind λt64 =>
 some t64)
 (some false)).bind λt65 =>
 (cond t65
 ((aR p0.2.2.2.2.2.2.2.2.2.2).bind λt69 =>
 some t69)
 (some false)).bind λt70 =>
 some t70)) (λr=>some r))
def lR:FL:=(145,⟨[.val true uf false],[.val false uF (some true)],λa=>aQ a⟩)::lQ
theorem re:Gd lR:=tZ rb 145 Tryz.f145 [(0,⟨⟨[(8,false,[dI])],[]⟩,
 ⟨[],[]⟩,some ⟨[(2,false,[dB])],[]⟩⟩)] Tryz.func145
def aD (o0:List Int) (t7:Int):Option (Int⊕(Unit⊕Bool)) :=
 cond (decide (t7<(o0.length:Int)))
 ((at? o0 t7).bind λx9 =>
 (aa x9 0 100000).bind λt12 =>
 cond (!t12) (some (.inr (.inr false))) (some (.inl (tR (t7+1)))))
 (some (.inr (.inl ())))
def ah (o0:List Int):Option Bool :=
 (loop (λz=>aD o0 z) 0).bind (Sum.elim (λd =>
 (aa (o0.length:Int) 1 10).bind λt17 =>
 some t17) (λr=>some r))
def lS:FL:=(311,⟨[.val false vW false],[.val false uF (some true)],λa=>ah a⟩)::lR
theorem rf:Gd lS:=tZ re 311 Tryz.f311 [(0,⟨⟨[(7,false,[dI])],[]⟩,
 ⟨[],[]⟩,some ⟨[(2,false,[dB])],[]⟩⟩)] Tryz.func311
def av (n0:Int):Option Bool :=
 (aa n0 (-2147483648) 2147483647).bind λt4 =>
 some t4
def lT:FL:=(312,⟨[.val false tW false],[.val false uF (some true)],λa=>av a⟩)::lS
theorem rj:Gd lT:=tZ rf 312 Tryz.f312 [] Tryz.func312
def cU (a0:List Int) (b1:List Int) (t13:Int):Option (Int⊕(Unit⊕Bool)) :=
 cond (decide (t13<(a0.length:Int)))
 ((at? a0 t13).bind λx18 =>
 (at? b1 t13).bind λx22 =>
 cond (x18 != x22) (some (.inr (.inr false))) (some (.inl (tR (t13+1)))))
 (some (.inr (.inl ())))
def az (a0:List Int) (b1:List Int):Option Bool :=
 cond ((a0.length:Int) != (b1.length:Int))
 (some false)
 ((loop (λz=>cU a0 b1 z) 0).bind (Sum.elim (λd =>
 some true) (λr=>some r)))
def lU:FL:=(357,⟨[.val false vW false,.val false vW false],[.val false uF (some true)],λa=>az a.1 a.2⟩)::lT
theorem rk:Gd lU:=tZ rj 357 Tryz.f357 [(0,⟨⟨[(13,false,[dI])],[]⟩,
 ⟨[],[]⟩,some ⟨[(4,false,[dB])],[]⟩⟩)] Tryz.func357
def aU (a0:wN) (b1:wN):Option Bool :=
 (cond (a0.1==b1.1) (some (a0.2.1==b1.2.1)) (some false)).bind λt16 =>
 (cond t16 (some (a0.2.2.1==b1.2.2.1)) (some false)).bind λt23 =>
 (cond t23
 ((az a0.2.2.2 b1.2.2.2).bind λt29 =>
 some t29)
 (some false)).bind λt30 =>
 some t30
def lV:FL:=(355,⟨[.val true xU false,.val true xU false],[.val false uF (some true)],λa=>aU a.1 a.2⟩)::lU
theorem rl:Gd lV:=tZ rk 355 Tryz.f355 [] Tryz.func355
def ai (v0:wN):Option Bool :=
 cond (v0.1==2)
 ((av v0.2.1).bind λt17 =>
 (cond t17
 ((aU v0 (v0.1,v0.2.1,[],[])).bind λt43 =>
 some t43)
 (some false)).bind λt44 =>
 some t44)
 (cond (v0.1==4)
 (let ok4:=decide ((v0.2.2.1.length:Int)<=20)
 (cond ok4
 ((aU v0 (v0.1,0,v0.2.2.1,[])).bind λt43_1 =>
 some t43_1)
 (some false)).bind λt44_1 =>
 some t44_1)
 (cond (v0.1==6)
 ((ah v0.2.2.2).bind λt34 =>
 (cond t34
 ((aU v0 (v0.1,0,[],v0.2.2.2)).bind λt43_2 =>
 some t43_2)
 (some false)).bind λt44_2 =>
 some t44_2)
 (cond (v0.1==5)
 (cond (v0.1==5)
 (((aU v0 (v0.1,0,[],[])).bind λt43_3 =>
 some t43_3).bind λt44_3 =>
 some t44_3)
 (some false))
 (cond (v0.1==128)
 (cond (v0.1==128)
 (((aU v0 (v0.1,0,[],[])).bind λt43_4 =>
 some t43_4).bind λt44_4 =>
 some t44_4)
 (some false))
 (cond (v0.1==130)
 (((aU v0 (v0.1,0,[],[])).bind λt43_5 =>
 some t43_5).bind λt44_5 =>
 some t44_5)
 (some false))))))
def lW:FL:=(310,⟨[.val true xU false],[.val false uF (some true)],λa=>ai a⟩)::lV
theorem rm:Gd lW:=tZ rl 310 Tryz.f310 [] Tryz.func310
def gl (p0:uq) (t35:Int):Option (Int⊕(Unit⊕Bool)) :=
 cond (decide (t35<(p0.2.2.2.2.length:Int)))
 ((at? p0.2.2.2.2 t35).bind λx38 =>
 (cond (decide (t35>=10))
 (some true)
 ((ah x38.1).bind λt45 =>
 some (!t45))).bind λt47 =>
 (cond t47
 (some true)
 ((ai x38.2).bind λt51 =>
 some (!t51))).bind λt53 =>
 cond t53 (some (.inr (.inr false))) (some (.inl (tR (t35+1)))))
 (some (.inr (.inl ())))
def lX (p0:uq) (t35_1:Int):Option (Int⊕(Unit⊕Bool)) :=
 cond (decide (t35_1<(p0.2.2.2.2.length:Int)))
 ((at? p0.2.2.2.2 t35_1).bind λx38_1 =>
 (cond (decide (t35_1>=10))
 (some true)
 ((ah x38_1.1).bind λt45_1 =>
 some (!t45_1))).bind λt47_1 =>
 (cond t47_1
 (some true)
 ((ai x38_1.2).bind λt51_1 =>
 some (!t51_1))).bind λt53_1 =>
 cond t53_1 (some (.inr (.inr false))) (some (.inl (tR (t35_1+1)))))
 (some (.inr (.inl ())))
def lY (p0:uq) (t35_2:Int):Option (Int⊕(Unit⊕Bool)) :=
 cond (decide (t35_2<(p0.2.2.2.2.length:Int)))
 ((at? p0.2.2.2.2 t35_2).bind λx38_2 =>
 (cond (decide (t35_2>=10))
 (some true)
 ((ah x38_2.1).bind λt45_2 =>
 some (!t45_2))).bind λt47_2 =>
 (cond t47_2
 (some true)
 ((ai x38_2.2).bind λt51_2 =>
 some (!t51_2))).bind λt53_2 =>
 cond t53_2 (some (.inr (.inr false))) (some (.inl (tR (t35_2+1)))))
 (some (.inr (.inl ())))
def lZ (p0:uq) (t35_3:Int):Option (Int⊕(Unit⊕Bool)) :=
 cond (decide (t35_3<(p0.2.2.2.2.length:Int)))
 ((at? p0.2.2.2.2 t35_3).bind λx38_3 =>
 (cond (decide (t35_3>=10))
 (some true)
 ((ah x38_3.1).bind λt45_3 =>
 some (!t45_3))).bind λt47_3 =>
 (cond t47_3
 (some true)
 ((ai x38_3.2).bind λt51_3 =>
 some (!t51_3))).bind λt53_3 =>
 cond t53_3 (some (.inr (.inr false))) (some (.inl (tR (t35_3+1)))))
 (some (.inr (.inl ())))
def m5 (p0:uq) (t35_4:Int):Option (Int⊕(Unit⊕Bool)) :=
 cond (decide (t35_4<(p0.2.2.2.2.length:Int)))
 ((at? p0.2.2.2.2 t35_4).bind λx38_4 =>
 (cond (decide (t35_4>=10))
 (some true)
 ((ah x38_4.1).bind λt45_4 =>
 some (!t45_4))).bind λt47_4 =>
 (cond t47_4
 (some true)
 ((ai x38_4.2).bind λt51_4 =>
 some (!t51_4))).bind λt53_4 =>
 cond t53_4 (some (.inr (.inr false))) (some (.inl (tR (t35_4+1)))))
 (some (.inr (.inl ())))
def m6 (p0:uq) (t35_5:Int):Option (Int⊕(Unit⊕Bool)) :=
 cond (decide (t35_5<(p0.2.2.2.2.length:Int)))
 ((at? p0.2.2.2.2 t35_5).bind λx38_5 =>
 (cond (decide (t35_5>=10))
 (some true)
 ((ah x38_5.1).bind λt45_5 =>
 some (!t45_5))).bind λt47_5 =>
 (cond t47_5
 (some true)
 ((ai x38_5.2).bind λt51_5 =>
 some (!t51_5))).bind λt53_5 =>
 cond t53_5 (some (.inr (.inr false))) (some (.inl (tR (t35_5+1)))))
 (some (.inr (.inl ())))
def m7 (p0:uq) (t35_6:Int):Option (Int⊕(Unit⊕Bool)) :=
 cond (decide (t35_6<(p0.2.2.2.2.length:Int)))
 ((at? p0.2.2.2.2 t35_6).bind λx38_6 =>
 (cond (decide (t35_6>=10))
 (some true)
 ((ah x38_6.1).bind λt45_6 =>
 some (!t45_6))).bind λt47_6 =>
 (cond t47_6
 (some true)
 ((ai x38_6.2).bind λt51_6 =>
 some (!t51_6))).bind λt53_6 =>
 cond t53_6 (some (.inr (.inr false))) (some (.inl (tR (t35_6+1)))))
 (some (.inr (.inl ())))
def m8 (p0:uq) (t35_7:Int):Option (Int⊕(Unit⊕Bool)) :=
 cond (decide (t35_7<(p0.2.2.2.2.length:Int)))
 ((at? p0.2.2.2.2 t35_7).bind λx38_7 =>
 (cond (decide (t35_7>=10))
 (some true)
 ((ah x38_7.1).bind λt45_7 =>
 some (!t45_7))).bind λt47_7 =>
 (cond t47_7
 (some true)
 ((ai x38_7.2).bind λt51_7 =>
 some (!t51_7))).bind λt53_7 =>
 cond t53_7 (some (.inr (.inr false))) (some (.inl (tR (t35_7+1)))))
 (some (.inr (.inl ())))
def m9 (p0:uq) (t35_8:Int):Option (Int⊕(Unit⊕Bool)) :=
 cond (decide (t35_8<(p0.2.2.2.2.length:Int)))
 ((at? p0.2.2.2.2 t35_8).bind λx38_8 =>
 (cond (decide (t35_8>=10))
 (some true)
 ((ah x38_8.1).bind λt45_8 =>
 some (!t45_8))).bind λt47_8 =>
 (cond t47_8
 (some true)
 ((ai x38_8.2).bind λt51_8 =>
 some (!t51_8))).bind λt53_8 =>
 cond t53_8 (some (.inr (.inr false))) (some (.inl (tR (t35_8+1)))))
 (some (.inr (.inl ())))
def cg (p0:uq):Option Bool :=
 cond (p0.1==160)
 (cond (p0.1==160)
 ((cond (p0.2.2.1 != 0) (some true) (some (p0.2.2.2.1 != 0))).bind λt18 =>
 cond t18
 (some false)
 ((loop (λz=>gl p0 z) 0).bind (Sum.elim (λd =>
 (av p0.2.1).bind λt57 =>
 some t57) (λr=>some r))))
 (cond (p0.1==162)
 (cond (p0.1==162)
 ((aa p0.2.2.1 0 1000).bind λt24 =>
 (cond (!t24)
 (some true)
 ((aa p0.2.2.2.1 0 1000).bind λt29 =>
 some (!t29))).bind λt31 =>
 cond t31
 (some false)
 ((loop (λz=>lX p0 z) 0).bind (Sum.elim (λd_1 =>
 (av p0.2.1).bind λt57_1 =>
 some t57_1) (λr_1=>some r_1))))
 (some false))
 (cond (p0.1==165)
 ((aa p0.2.2.1 0 1000).bind λt24_1 =>
 (cond (!t24_1)
 (some true)
 ((aa p0.2.2.2.1 0 1000).bind λt29_1 =>
 some (!t29_1))).bind λt31_1 =>
 cond t31_1
 (some false)
 ((loop (λz=>lY p0 z) 0).bind (Sum.elim (λd_2 =>
 (av p0.2.1).bind λt57_2 =>
 some t57_2) (λr_2=>some r_2))))
 (some false))))
 (cond (p0.1==161)
 (cond (p0.1==161)
 ((cond (p0.2.2.1 != 0) (some true) (some (p0.2.2.2.1 != 0))).bind λt18_1 =>
 cond t18_1
 (some false)
 ((loop (λz=>lZ p0 z) 0).bind (Sum.elim (λd_3 =>
 (av p0.2.1).bind λt57_3 =>
 some t57_3) (λr_3=>some r_3))))
 (cond (p0.1==162)
 (cond (p0.1==162)
 ((aa p0.2.2.1 0 1000).bind λt24_2 =>
 (cond (!t24_2)
 (some true)
 ((aa p0.2.2.2.1 0 1000).bind λt29_2 =>
 some (!t29_2))).bind λt31_2 =>
 cond t31_2
 (some false)
 ((loop (λz=>m5 p0 z) 0).bind (Sum.elim (λd_4 =>
 (av p0.2.1).bind λt57_4 =>
 some t57_4) (λr_4=>some r_4))))
 (some false))
 (cond (p0.1==165)
 ((aa p0.2.2.1 0 1000).bind λt24_3 =>
 (cond (!t24_3)
 (some true)
 ((aa p0.2.2.2.1 0 1000).bind λt29_3 =>
 some (!t29_3))).bind λt31_3 =>
 cond t31_3
 (some false)
 ((loop (λz=>m6 p0 z) 0).bind (Sum.elim (λd_5 =>
 (av p0.2.1).bind λt57_5 =>
 some t57_5) (λr_5=>some r_5))))
 (some false))))
 (cond (p0.1==163)
 ((cond (p0.2.2.1 != 0) (some true) (some (p0.2.2.2.1 != 0))).bind λt18_2 =>
 cond t18_2
 (some false)
 ((loop (λz=>m7 p0 z) 0).bind (Sum.elim (λd_6 =>
 (av p0.2.1).bind λt57_6 =>
 some t57_6) (λr_6=>some r_6))))
 (cond (p0.1==162)
 (cond (p0.1==162)
 ((aa p0.2.2.1 0 1000).bind λt24_4 =>
 (cond (!t24_4)
 (some true)
 ((aa p0.2.2.2.1 0 1000).bind λt29_4 =>
 some (!t29_4))).bind λt31_4 =>
 cond t31_4
 (some false)
 ((loop (λz=>m8 p0 z) 0).bind (Sum.elim (λd_7 =>
 (av p0.2.1).bind λt57_7 =>
 some t57_7) (λr_7=>some r_7))))
 (some false))
 (cond (p0.1==165)
 ((aa p0.2.2.1 0 1000).bind λt24_5 =>
 (cond (!t24_5)
 (some true)
 ((aa p0.2.2.2.1 0 1000).bind λt29_5 =>
 some (!t29_5))).bind λt31_5 =>
 cond t31_5
 (some false)
 ((loop (λz=>m9 p0 z) 0).bind (Sum.elim (λd_8 =>
 (av p0.2.1).bind λt57_8 =>
 some t57_8) (λr_8=>some r_8))))
 (some false)))))
def ma:FL:=(227,⟨[.val true vY false],[.val false uF (some true)],λa=>cg a⟩)::lW
theorem rn:Gd ma:=tZ rm 227 Tryz.f227 [(1,⟨⟨(35,false,[dI])::us 43 4 (us 49 4 []),[]⟩,
 ⟨[],[]⟩,some ⟨[(2,false,[dB])],[]⟩⟩)] Tryz.func227
def eq (j0:ut):Option Bool :=
 (aa j0.2.2.1 0 2).bind λt5 =>
 (cond (!t5)
 (some true)
 ((aa j0.2.2.2.2.2.2.2.2.2.2.2.2.2.2.2.2.2.2.2.1 0 (j0.2.2.2.2.2.2.2.1.length:Int)).bind λt14 =>
 some (!t14))).bind λt16 =>
 (cond t16
 (some true)
 ((aa j0.2.2.2.2.2.2.2.2.2.2.2.2.2.2.2.2.2.2.2.2 0 3).bind λt20 =>
 some (!t20))).bind λt22 =>
 cond t22
 (some false)
 ((cond (j0.2.2.1==0)
 (some true)
 ((cg (j0.2.2.2.1,j0.2.2.2.2.1,j0.2.2.2.2.2.1,j0.2.2.2.2.2.2.1,j0.2.2.2.2.2.2.2.1)).bind λt29 =>
 (cond t29 (some (j0.2.2.2.1 != 162)) (some false)).bind λt35 =>
 (cond t35
 ((aQ (j0.2.2.2.2.2.2.2.2.1,j0.2.2.2.2.2.2.2.2.2.1,j0.2.2.2.2.2.2.2.2.2.2.1,j0.2.2.2.2.2.2.2.2.2.2.2.1,j0.2.2.2.2.2.2.2.2.2.2.2.2.1,j0.2.2.2.2.2.2.2.2.2.2.2.2.2.1,j0.2.2.2.2.2.2.2.2.2.2.2.2.2.2.1,j0.2.2.2.2.2.2.2.2.2.2.2.2.2.2.2.1,j0.2.2.2.2.2.2.2.2.2.2.2.2.2.2.2.2.1,j0.2.2.2.2.2.2.2.2.2.2.2.2.2.2.2.2.2.1,j0.2.2.2.2.2.2.2.2.2.2.2.2.2.2.2.2.2.2.1)).bind λt39 =>
 some t39)
 (some false)).bind λt40 =>
 some t40)).bind λt41 =>
 some t41)
def mb:FL:=(147,⟨[.val true vJ false],[.val false uF (some true)],λa=>eq a⟩)::ma
theorem rp:Gd mb:=tZ rn 147 Tryz.f147 [] Tryz.func147
def iu (p0:ue) (t36:Int):Option (Int⊕(Unit⊕Bool)) :=
 cond (decide (t36<(p0.2.2.2.2.2.2.2.2.2.2.2.2.1.length:Int)))
 ((at? p0.2.2.2.2.2.2.2.2.2.2.2.2.1 t36).bind λx39 =>
 (aa x39.1 1 p0.2.2.2.2.2.2.2.2.2.2.2.2.2.2).bind λt45 =>
 (cond (!t45)
 (some true)
 ((cond (decide (t36>0))
 ((at? p0.2.2.2.2.2.2.2.2.2.2.2.2.1 (tR (t36-1))).bind λx55 =>
 some (decide (x55.1>=x39.1)))
 (some false)).bind λt61 =>
 some t61)).bind λt62 =>
 (cond t62
 (some true)
 ((eq x39).bind λt65 =>
 some (!t65))).bind λt67 =>
 cond t67 (some (.inr (.inr false))) (some (.inl (tR (t36+1)))))
 (some (.inr (.inl ())))
def gm (p0:ue):Option Bool :=
 (aQ (p0.1,p0.2.1,p0.2.2.1,p0.2.2.2.1,p0.2.2.2.2.1,p0.2.2.2.2.2.1,p0.2.2.2.2.2.2.1,p0.2.2.2.2.2.2.2.1,p0.2.2.2.2.2.2.2.2.1,p0.2.2.2.2.2.2.2.2.2.1,p0.2.2.2.2.2.2.2.2.2.2.1)).bind λt7 =>
 (cond (!t7)
 (some true)
 (some (decide ((p0.2.2.2.2.2.2.2.2.2.2.2.1.length:Int)>20)))).bind λt14 =>
 (cond t14
 (some true)
 (some (decide ((p0.2.2.2.2.2.2.2.2.2.2.2.2.1.length:Int)>6)))).bind λt20 =>
 (cond t20
 (some true)
 ((aR p0.2.2.2.2.2.2.2.2.2.2.2.2.2.1).bind λt24 =>
 some (!t24))).bind λt26 =>
 (cond t26
 (some true)
 ((aR p0.2.2.2.2.2.2.2.2.2.2.2.2.2.2).bind λt30 =>
 some (!t30))).bind λt32 =>
 cond t32
 (some false)
 ((loop (λz=>iu p0 z) 0).bind (Sum.elim (λd =>
 some true) (λr=>some r)))
def mc:FL:=(73,⟨[.val true uP false],[.val false uF (some true)],λa=>gm a⟩)::mb
theorem rq:Gd mc:=tZ rp 73 Tryz.f73 [(0,⟨⟨(36,false,[dI])::us 48 14 (us 64 3 []),[]⟩,
 ⟨[],[]⟩,some ⟨[(2,false,[dB])],[]⟩⟩)] Tryz.func73
def ch (p0:List Int) (i1:Int):Option (Int×(List Int)×Int×Bool) :=
 (cond (decide (i1<0)) (some true) (some (decide (i1>(tR ((p0.length:Int)-2)))))).bind λt18 =>
 cond t18
 (some (0,[],0,false))
 ((at? p0 (tR (i1+1))).bind λx22 =>
 cond (decide ((tR (x22))>=128))
 ((cond ((tR (x22)) != 129) (some true) (some (decide ((tR (i1+2))>=(p0.length:Int))))).bind λt36 =>
 (cond t36
 (some true)
 ((at? p0 (tR (i1+2))).bind λx40 =>
 some (decide (x40<128)))).bind λt43 =>
 cond t43
 (some (0,[],0,false))
 ((at? p0 (tR (i1+2))).bind λx46 =>
 (cond (decide ((tR (x46))>250))
 (some true)
 (some (decide ((tR (x46))>(tR ((p0.length:Int)-(tR ((tR (i1+2))+1)))))))).bind λt60 =>
 cond t60
 (some (0,[],0,false))
 ((at? p0 i1).bind λx63 =>
 (cut p0 (tR ((tR (i1+2))+1)) (tR ((tR ((tR (i1+2))+1))+(tR (x46))))).bind λt71 =>
 (bA t71).bind λt72 =>
 let t6:=tR ((tR ((tR (i1+2))+1))+(tR (x46)))
 some (tR (x63),t72,t6,true))))
 ((cond (decide ((tR (x22))>250))
 (some true)
 (some (decide ((tR (x22))>(tR ((p0.length:Int)-(tR (i1+2)))))))).bind λt60_1 =>
 cond t60_1
 (some (0,[],0,false))
 ((at? p0 i1).bind λx63_1 =>
 (cut p0 (tR (i1+2)) (tR ((tR (i1+2))+(tR (x22))))).bind λt71_1 =>
 (bA t71_1).bind λt72_1 =>
 let t6_1:=tR ((tR (i1+2))+(tR (x22)))
 some (tR (x63_1),t72_1,t6_1,true))))
def md:FL:=(68,⟨[.val false vh false,.val false tW false],[.val false tW (some true),.val false vh (some true),.val false tW (some true),.val false uF (some true)],λa=>ch a.1 a.2⟩)::mc
theorem rr:Gd md:=tZ rq 68 Tryz.f68 [] Tryz.func68
def bh (r0:AM) (tag1:Int):Option (AM×List Int) :=
 (ch r0.1 r0.2.1).bind λt18 =>
 (cond r0.2.2 (some true) (some (!t18.2.2.2))).bind λt30 =>
 (cond t30 (some true) (some (t18.1 != tag1))).bind λt35 =>
 cond t35
 (some ((r0.1,r0.2.1,true),[]))
 (some ((r0.1,t18.2.2.1,r0.2.2),t18.2.1))
def me:FL:=(70,⟨[.ptr AL none,.val false tW false],[.val false vh (some true)],λa=>bh a.1 a.2⟩)::md
theorem ru:Gd me:=tZ rr 70 Tryz.f70 [] Tryz.func70
def aE (n0_1:Int) (k3:Int):Option (Int⊕Int) :=
 (cond (decide (k3<4))
 ((shl .i64 (-1) (tR ((tR (8*k3))-1))).bind λt16 =>
 (shl .i64 1 (tR ((tR (8*k3))-1))).bind λt20 =>
 (aa n0_1 t16 (tR (t20-1))).bind λt22 =>
 some (!t22))
 (some false)).bind λt24 =>
 cond t24 (some (.inl (tR (k3+1)))) (some (.inr k3))
def aw (n0_1:Int) (i5:Int) (out4:List Int):Option ((Int×List Int)⊕(List Int)) :=
 cond (decide (i5>=0))
 ((shr .i64 n0_1 (tR (8*i5))).bind λt37 =>
 (uv out4 [IntKind.u8.wrap (t37)]).bind λzs40 =>
 some (.inl (tR (i5-1),zs40)))
 (some (.inr out4))
def cV (n0:Int):Option (List Int) :=
 let n0_1:=max2 (-2147483648) (min2 n0 2147483647)
 (loop (λz=>aE n0_1 z) 1).bind λd =>
 (loop (λz=>aw n0_1 z.1 z.2) (tR (d-1),[])).bind λd_1 =>
 some d_1
def mf:FL:=(224,⟨[.val false tW false],[.val false vh (some true)],λa=>cV a⟩)::me
theorem rz:Gd mf:=tZ ru 224 Tryz.f224 [(0,⟨⟨(3,false,[dI])::us 12 12 [],[]⟩,
 ⟨[(3,false,[dI])],[]⟩,none⟩),
 (2,⟨⟨[(4,false,[.own 1000002000]),(5,false,[dI])],[(1000002000,.root (.one (.int .u8)) true)]⟩,
 ⟨[(4,false,[.own 1000002300])],[(1000002300,.root (.one (.int .u8)) true)]⟩,none⟩)] Tryz.func224
def cW (t17:List Int) (n4_1:Int) (t19:Int):Option ((Int×Int)⊕Int) :=
 cond (decide (t19<(t17.length:Int)))
 ((at? t17 t19).bind λx21 =>
 let n4_2:=Bf .i64 (tR (n4_1*2^8)) (tR (x21))
 some (.inl (n4_2,tR (t19+1))))
 (some (.inr n4_1))
def eu (b0:List Int):Option (Int×Bool) :=
 (aa (b0.length:Int) 1 4).bind λt9 =>
 cond (!t9)
 (some (0,false))
 ((at? b0 0).bind λx12 =>
 let n4:=tR (IntKind.i8.wrap (x12))
 (cut b0 1 (b0.length:Int)).bind λt17 =>
 (loop (λz=>cW t17 z.1 z.2) (n4,0)).bind λd =>
 (cV d).bind λt30 =>
 cond ((t30.length:Int) != (b0.length:Int)) (some (0,false)) (some (d,true)))
def mg:FL:=(139,⟨[.val false vh false],[.val false tW (some true),.val false uF (some true)],λa=>eu a⟩)::mf
theorem rA:Gd mg:=tZ rz 139 Tryz.f139 [(0,⟨⟨[(4,false,[dI]),(19,false,[dI])],[]⟩,
 ⟨[(4,false,[dI])],[]⟩,none⟩)] Tryz.func139
def ci (r0:AM) (tag1:Int):Option (AM×Int) :=
 (bh r0 tag1).bind λt10 =>
 (eu t10.2).bind λt11 =>
 (cond t10.1.2.2 (some true) (some (!t11.2))).bind λt22 =>
 some ((t10.1.1,t10.1.2.1,t22),t11.1)
def mh:FL:=(69,⟨[.ptr AL none,.val false tW false],[.val false tW (some true)],λa=>ci a.1 a.2⟩)::mg
theorem rB:Gd mh:=tZ rA 69 Tryz.f69 [] Tryz.func69
def iv (r0:AM):Option (AM×Bool) :=
 (cond (!r0.2.2) (some (r0.2.1==(r0.1.length:Int))) (some false)).bind λt19 =>
 some (r0,t19)
def mi:FL:=(140,⟨[.ptr AL none],[.val false uF (some true)],λa=>iv a⟩)::mh
theorem rC:Gd mi:=tZ rB 140 Tryz.f140 [] Tryz.func140
def bB (x14:Int) (k6:Int):Option (Int⊕Int) :=
 (shr .i64 x14 (tR (7*k6))).bind λt19 =>
 cond (decide (t19>127)) (some (.inl (tR (k6+1)))) (some (.inr k6))
def cj (x14:Int) (k6_2:Int) (out3_1:List Int):Option ((Int×List Int)⊕(List Int)) :=
 cond (decide (k6_2>0))
 ((shr .i64 x14 (tR (7*k6_2))).bind λt31 =>
 (uv out3_1 [IntKind.u8.wrap (tR ((yK .i64 t31 127)+128))]).bind λzs36 =>
 some (.inl (tR (k6_2-1),zs36)))
 (some (.inr out3_1))
def cX (o0:List Int) (t12:Int) (out3:List Int):Option ((Int×List Int)⊕(List Int)) :=
 cond (decide (t12<(o0.length:Int)))
 ((at? o0 t12).bind λx14 =>
 (loop (λz=>bB x14 z) 0).bind λd =>
 (loop (λz=>cj x14 z.1 z.2) (d,out3)).bind λd_1 =>
 (uv d_1 [IntKind.u8.wrap (yK .i64 x14 127)]).bind λzs42 =>
 some (.inl (tR (t12+1),zs42)))
 (some (.inr out3))
def ck (o0:List Int):Option (List Int) :=
 (ah o0).bind λt8 =>
 cond (!t8)
 (some [])
 ((loop (λz=>cX o0 z.1 z.2) (0,[])).bind λd_2 =>
 some d_2)
def mj:FL:=(231,⟨[.val false vW false],[.val false vh (some true)],λa=>ck a⟩)::mi
theorem rD:Gd mj:=tZ rC 231 Tryz.f231 [(0,⟨⟨[(3,false,[.own 1000000000]),(12,false,[dI])],[(1000000000,.root (.one (.int .u8)) true)]⟩,
 ⟨[(3,false,[.own 1000000300])],[(1000000300,.root (.one (.int .u8)) true)]⟩,none⟩),
 (2,⟨⟨[(6,false,[dI])],[]⟩,
 ⟨[(6,false,[dI])],[]⟩,none⟩),
 (4,⟨⟨[(3,false,[.own 1000004000]),(6,false,[dI])],[(1000004000,.root (.one (.int .u8)) true)]⟩,
 ⟨[(3,false,[.own 1000004300])],[(1000004300,.root (.one (.int .u8)) true)]⟩,none⟩)] Tryz.func231
def ar (b0:List Int) (n5:Int) (t11:Int) (out4:List Int):Option ((Int×Int×List Int)⊕((List Int)⊕(Bool×List Int))) :=
 cond (decide (t11<(b0.length:Int)))
 ((at? b0 t11).bind λx14 =>
 cond (decide (t11>=40))
 (some (.inr (.inr (false,[]))))
 (let n5_1:=Bf .i64 (tR ((min2 n5 1048576)*2^7)) (tR (yK .u8 x14 127))
 cond (decide (x14<128))
 ((uv out4 [n5_1]).bind λzs30 =>
 some (.inl (0,tR (t11+1),zs30)))
 (some (.inl (n5_1,tR (t11+1),out4)))))
 (some (.inr (.inl out4)))
def bC (b0:List Int):Option ((List Int)×Bool) :=
 (loop (λz=>ar b0 z.1 z.2.1 z.2.2) (0,0,[])).bind (Sum.elim (λd =>
 (ck d).bind λt33 =>
 (cond ((t33.length:Int)==0) (some true) (some (!((uX t33)==(uX b0))))).bind λt43 =>
 cond t43 (some ([],false)) (some (d,true))) (λr=>some (r.2,r.1)))
def ml:FL:=(225,⟨[.val false vh false],[.val false vW (some true),.val false uF (some true)],λa=>bC a⟩)::mj
theorem rE:Gd ml:=tZ rD 225 Tryz.f225 [(0,⟨⟨[(4,false,[.own 1000000000]),(5,false,[dI]),(11,false,[dI])],[(1000000000,.root tW true)]⟩,
 ⟨[(4,false,[.own 1000000300])],[(1000000300,.root tW true)]⟩,some ⟨[(2,false,[.own 1000000600]),(3,false,[dB])],[(1000000600,.root tW true)]⟩⟩)] Tryz.func225
def gn (b0:List Int) (at1:Int):Option (wN×Int×Bool) :=
 (ch b0 at1).bind λt15 =>
 cond (!t15.2.2.2)
 (some ((0,0,[],[]),0,false))
 (cond (t15.1==2)
 ((eu t15.2.1).bind λt33 =>
 (cond (!t33.2)
 (some true)
 ((ai (t15.1,t33.1,[],[])).bind λt54 =>
 some (!t54))).bind λt56 =>
 cond t56
 (some ((0,0,[],[]),0,false))
 (some ((t15.1,t33.1,[],[]),t15.2.2.1,true)))
 (cond (t15.1==4)
 ((cond (!t15.2.2.2)
 (some true)
 ((ai (t15.1,0,uX t15.2.1,[])).bind λt54_1 =>
 some (!t54_1))).bind λt56_1 =>
 cond t56_1
 (some ((0,0,[],[]),0,false))
 (some ((t15.1,0,uX t15.2.1,[]),t15.2.2.1,true)))
 (cond (t15.1==6)
 ((bC t15.2.1).bind λt46 =>
 (cond (!t46.2)
 (some true)
 ((ai (t15.1,0,[],t46.1)).bind λt54_2 =>
 some (!t54_2))).bind λt56_2 =>
 cond t56_2
 (some ((0,0,[],[]),0,false))
 (some ((t15.1,0,[],t46.1),t15.2.2.1,true)))
 (let ok10:=(t15.2.1.length:Int)==0
 (cond (!ok10)
 (some true)
 ((ai (t15.1,0,[],[])).bind λt54_3 =>
 some (!t54_3))).bind λt56_3 =>
 cond t56_3
 (some ((0,0,[],[]),0,false))
 (some ((t15.1,0,[],[]),t15.2.2.1,true))))))
def mn:FL:=(226,⟨[.val false vh false,.val false tW false],[.val true xU (some true),.val false tW (some true),.val false uF (some true)],λa=>gn a.1 a.2⟩)::ml
theorem rF:Gd mn:=tZ rE 226 Tryz.f226 [] Tryz.func226
def gp (b0:List Int):Option (tS×Bool) :=
 (bh (b0,0,false) 6).bind λt15 =>
 (bC t15.2).bind λt16 =>
 (gn b0 t15.1.2.1).bind λt25 =>
 (cond t15.1.2.2 (some true) (some (!t16.2))).bind λt36 =>
 (cond t36 (some true) (some (!t25.2.2))).bind λt40 =>
 (cond t40 (some true) (some (t25.2.1 != (b0.length:Int)))).bind λt46 =>
 cond t46
 (some (([],0,0,[],[]),false))
 (some ((t16.1,t25.1.1,t25.1.2.1,t25.1.2.2.1,t25.1.2.2.2),true))
def mo:FL:=(141,⟨[.val false vh false],[.val true u9 (some true),.val false uF (some true)],λa=>gp a⟩)::mn
theorem rG:Gd mo:=tZ rF 141 Tryz.f141 [] Tryz.func141
def cl (tag0:Int) (body1:List Int):Option ((List Int)×Bool) :=
 (aa tag0 0 255).bind λt8 =>
 (cond (!t8) (some true) (some (decide ((body1.length:Int)>250)))).bind λt14 =>
 cond t14
 (some ([],false))
 (cond (decide ((body1.length:Int)>=128))
 ((uv [IntKind.u8.wrap (tag0)] ([129]:List Int)).bind λzs23 =>
 (uv zs23 [IntKind.u8.wrap ((body1.length:Int))]).bind λzs29 =>
 (uv zs29 body1).bind λzs31 =>
 some (zs31,true))
 ((uv [IntKind.u8.wrap (tag0)] [IntKind.u8.wrap ((body1.length:Int))]).bind λzs29_1 =>
 (uv zs29_1 body1).bind λzs31_1 =>
 some (zs31_1,true)))
def mp:FL:=(228,⟨[.val false tW false,.val false vh false],[.val false vh (some true),.val false uF (some true)],λa=>cl a.1 a.2⟩)::mo
theorem rH:Gd mp:=tZ rG 228 Tryz.f228 [] Tryz.func228
def aV (b0:List Int) (tag1:Int) (body2:List Int):Option (List Int) :=
 (cl tag1 body2).bind λt12 =>
 (bA b0).bind λt16 =>
 (uv t16 t12.1).bind λzs18 =>
 some zs18
def mq:FL:=(230,⟨[.val false vh false,.val false tW false,.val false vh false],[.val false vh (some true)],λa=>aV a.1 a.2.1 a.2.2⟩)::mp
theorem rI:Gd mq:=tZ rH 230 Tryz.f230 [] Tryz.func230
def gq (b0:List Int) (v1:wN):Option (List Int) :=
 (ai v1).bind λt7 =>
 cond (!t7)
 ((bA b0).bind λt10 =>
 some t10)
 (cond (v1.1==2)
 ((cV v1.2.1).bind λt17 =>
 (aV b0 v1.1 t17).bind λt32 =>
 some t32)
 (cond (v1.1==4)
 ((aV b0 v1.1 (yr v1.2.2.1)).bind λt32_1 =>
 some t32_1)
 (cond (v1.1==6)
 ((ck v1.2.2.2).bind λt27 =>
 (aV b0 v1.1 t27).bind λt32_2 =>
 some t32_2)
 ((aV b0 v1.1 []).bind λt32_3 =>
 some t32_3))))
def mr:FL:=(229,⟨[.val false vh false,.val true xU false],[.val false vh (some true)],λa=>gq a.1 a.2⟩)::mq
theorem rJ:Gd mr:=tZ rI 229 Tryz.f229 [] Tryz.func229
def cY (out0:List Int) (tag1:Int) (n2:Int):Option (List Int) :=
 (cV n2).bind λt10 =>
 (aV out0 tag1 t10).bind λt11 =>
 some t11
def mt:FL:=(232,⟨[.val false vh false,.val false tW false,.val false tW false],[.val false vh (some true)],λa=>cY a.1 a.2.1 a.2.2⟩)::mr
theorem rK:Gd mt:=tZ rJ 232 Tryz.f232 [] Tryz.func232
def cZ (p0:uq) (t18:Int) (t3:List Int):Option ((Int×List Int)⊕((List Int)⊕(List Int))) :=
 cond (decide (t18<(p0.2.2.2.2.length:Int)))
 ((at? p0.2.2.2.2 t18).bind λx20 =>
 (ck x20.1).bind λt25 =>
 (aV [] 6 t25).bind λt26 =>
 (gq t26 x20.2).bind λt29 =>
 (cl 48 t29).bind λt30 =>
 cond (!t30.2)
 (some (.inr (.inr [])))
 ((uv t3 t30.1).bind λzs37 =>
 some (.inl (tR (t18+1),zs37))))
 (some (.inr (.inl t3)))
def ev (p0:uq):Option (List Int) :=
 (cg p0).bind λt13 =>
 cond (!t13)
 (some [])
 ((loop (λz=>cZ p0 z.1 z.2) (0,[])).bind (Sum.elim (λd =>
 (cl 48 d).bind λt41 =>
 cond (!t41.2)
 (some [])
 ((cY [] 2 p0.2.1).bind λt51 =>
 (cY t51 2 p0.2.2.1).bind λt54 =>
 (cY t54 2 p0.2.2.2.1).bind λt57 =>
 (uv t57 t41.1).bind λzs59 =>
 (cl p0.1 zs59).bind λt60 =>
 cond (!t60.2) (some []) (some t60.1))) (λr=>some r)))
def mu:FL:=(142,⟨[.val true vY false],[.val false vh (some true)],λa=>ev a⟩)::mt
theorem rL:Gd mu:=tZ rK 142 Tryz.f142 [(0,⟨⟨[(3,false,[.own 1000000000]),(18,false,[dI])],[(1000000000,.root (.one (.int .u8)) true)]⟩,
 ⟨[(3,false,[.own 1000000300])],[(1000000300,.root (.one (.int .u8)) true)]⟩,some ⟨[(2,false,[.own 1000000600])],[(1000000600,.root (.one (.int .u8)) true)]⟩⟩)] Tryz.func142
def ax (b0:Int) (b1:Int) (b2:Int) (b3:Int) (b0_1:Int) (b1_1:Int) (b2_1:Int) (b3_1:Int) (b0_2:List Int) (b1_2:Int) (b2_2:Bool) (b4:List tS) (b4_1:List tS):Option ((Int×Int×Int×Int×Int×Int×Int×Int×List Int×Int×Bool×List tS×List tS)⊕((Int×Int×Int×Int×Int×Int×Int×Int×List Int×Int×Bool×List tS×List tS)⊕(Bool×Int×Int×Int×Int×List tS))) :=
 cond (decide (b1_2<(b0_2.length:Int)))
 ((bh (b0_2,b1_2,b2_2) 48).bind λt64 =>
 (gp t64.2).bind λt65 =>
 (cond (!t65.2) (some true) (some (decide ((b4_1.length:Int)>=10)))).bind λt75 =>
 cond t75
 (some (.inr (.inr (false,0,0,0,0,[]))))
 ((uv b4_1 [t65.1]).bind λzs81 =>
 some (.inl (b0,b1,b2,b3,b0_1,b1_1,b2_1,b3_1,t64.1.1,t64.1.2.1,t64.1.2.2,b4,zs81))))
 (some (.inr (.inl (b0,b1,b2,b3,b0_1,b1_1,b2_1,b3_1,b0_2,b1_2,b2_2,b4,b4_1))))
def gt (p0:List Int):Option (uq×Bool) :=
 (ch p0 0).bind λt16 =>
 (cond (!t16.2.2.2) (some true) (some (t16.2.2.1 != (p0.length:Int)))).bind λt28 =>
 cond t28
 (some ((0,0,0,0,[]),false))
 ((ci (t16.2.1,0,false) 2).bind λt36 =>
 (ci t36.1 2).bind λt39 =>
 (ci t39.1 2).bind λt42 =>
 (bh t42.1 48).bind λt45 =>
 (iv t45.1).bind λt49 =>
 cond (!t49.2)
 (some ((0,0,0,0,[]),false))
 ((loop (λz=>ax z.1 z.2.1 z.2.2.1 z.2.2.2.1 z.2.2.2.2.1 z.2.2.2.2.2.1 z.2.2.2.2.2.2.1 z.2.2.2.2.2.2.2.1 z.2.2.2.2.2.2.2.2.1 z.2.2.2.2.2.2.2.2.2.1 z.2.2.2.2.2.2.2.2.2.2.1 z.2.2.2.2.2.2.2.2.2.2.2.1 z.2.2.2.2.2.2.2.2.2.2.2.2) (0,0,0,0,t16.1,t36.2,t39.2,t42.2,t45.2,0,false,[],[])).bind (Sum.elim (λd =>
 (ev (d.2.2.2.2.1,d.2.2.2.2.2.1,d.2.2.2.2.2.2.1,d.2.2.2.2.2.2.2.1,d.2.2.2.2.2.2.2.2.2.2.2.2)).bind λt84 =>
 (cond ((t84.length:Int)==0) (some true) (some (!((uX t84)==(uX p0))))).bind λt94 =>
 cond t94
 (some ((0,0,0,0,[]),false))
 (some ((d.2.2.2.2.1,d.2.2.2.2.2.1,d.2.2.2.2.2.2.1,d.2.2.2.2.2.2.2.1,d.2.2.2.2.2.2.2.2.2.2.2.2),true))) (λr=>some (r.2,r.1)))))
def mw:FL:=(71,⟨[.val false vh false],[.val true vY (some true),.val false uF (some true)],λa=>gt a⟩)::mu
theorem rM:Gd mw:=tZ rL 71 Tryz.f71 [(0,⟨⟨us 71 4 [],[(1024,.box [dI,dI,dI,dI,.own 1000000000]),(1051648,.box [dI,dI,dI,dI,.own 1000000001]),(2363392,.box [.dat (.sl (.one (.int .u8))),dI,dB]),(1000000000,.root u9 true),(1000000001,.root u9 true)]⟩,
 ⟨[],[(1024,.box [dI,dI,dI,dI,.own 1000000300]),(1051648,.box [dI,dI,dI,dI,.own 1000000301]),(2363392,.box [.dat (.sl (.one (.int .u8))),dI,dB]),(1000000300,.root u9 true),(1000000301,.root u9 true)]⟩,some ⟨[(3,false,[dB])],[(1024,.box [dI,dI,dI,dI,.own 1000000600]),(1000000600,.root u9 true)]⟩⟩)] Tryz.func71
def da (p0:List UInt8) (i1:List Int):Option (uq×Int) :=
 (ch i1 0).bind λt17 =>
 (cond (!t17.2.2.2) (some true) (some (t17.1 != 48))).bind λt27 =>
 (cond t27 (some true) (some (t17.2.2.1 != (i1.length:Int)))).bind λt33 =>
 cond t33
 (some ((0,0,0,0,[]),1))
 ((ci (t17.2.1,0,false) 2).bind λt39 =>
 (bh t39.1 4).bind λt41 =>
 cond t41.1.2.2
 (some ((0,0,0,0,[]),1))
 (cond (t39.2 != 1)
 (some ((0,0,0,0,[]),2))
 (cond (!((uX t41.2)==p0))
 (some ((0,0,0,0,[]),3))
 ((cut t17.2.1 t41.1.2.1 (t17.2.1.length:Int)).bind λt64 =>
 (gt t64).bind λt65 =>
 cond (!t65.2) (some ((0,0,0,0,[]),1)) (some (t65.1,0))))))
def my:FL:=(12,⟨[.val false Pr false,.val false vh false],[.val true vY (some true),.val false tW (some true)],λa=>da a.1 a.2⟩)::mw
theorem rN:Gd my:=tZ rM 12 Tryz.f12 [] Tryz.func12
def bg (n0:Int):Option Int :=
 let t2:=min2 (tR (n0+1)) 1000000
 some t2
def mz:FL:=(76,⟨[.val false tW false],[.val false tW (some true)],λa=>bg a⟩)::my
theorem rO:Gd mz:=tZ rN 76 Tryz.f76 [] Tryz.func76
def bD (a0:ue) (k1:Int):Option ue :=
 (vE a0.2.2.2.2.2.2.2.2.2.2.2.2.1.length 0 k1).bind λp =>
 (vE a0.2.2.2.2.2.2.2.2.2.2.2.2.1.length (tR (k1+1)) (a0.2.2.2.2.2.2.2.2.2.2.2.2.1.length:Int)).bind λp_1 =>
 (EO a0.2.2.2.2.2.2.2.2.2.2.2.2.1 p.1 p.2 p_1.1 p_1.2).bind λzs18 =>
 some (a0.1,a0.2.1,a0.2.2.1,a0.2.2.2.1,a0.2.2.2.2.1,a0.2.2.2.2.2.1,a0.2.2.2.2.2.2.1,a0.2.2.2.2.2.2.2.1,a0.2.2.2.2.2.2.2.2.1,a0.2.2.2.2.2.2.2.2.2.1,a0.2.2.2.2.2.2.2.2.2.2.1,a0.2.2.2.2.2.2.2.2.2.2.2.1,zs18,a0.2.2.2.2.2.2.2.2.2.2.2.2.2.1,a0.2.2.2.2.2.2.2.2.2.2.2.2.2.2)
def mC:FL:=(239,⟨[.ptr uP (some true),.val false tW false],[],λa=>bD a.1 a.2⟩)::mz
theorem rP:Gd mC:=tZ rO 239 Tryz.f239 [] Tryz.func239
def ew (a0:ue) (k1:Int):Option ue :=
 (ix a0.2.2.2.2.2.2.2.2.2.2.2.2.1.length k1).bind λj10 =>
 (aj (a0.1,a0.2.1,a0.2.2.1,a0.2.2.2.1,a0.2.2.2.2.1,a0.2.2.2.2.2.1,a0.2.2.2.2.2.2.1,a0.2.2.2.2.2.2.2.1,a0.2.2.2.2.2.2.2.2.1,a0.2.2.2.2.2.2.2.2.2.1,a0.2.2.2.2.2.2.2.2.2.2.1)).bind λt18 =>
 (a0.2.2.2.2.2.2.2.2.2.2.2.2.1[j10]?).bind λx =>
 ((a0.2.2.2.2.2.2.2.2.2.2.2.2.1.set j10 (x.1,x.2.1,1,x.2.2.2.1,x.2.2.2.2.1,x.2.2.2.2.2.1,x.2.2.2.2.2.2.1,x.2.2.2.2.2.2.2.1,x.2.2.2.2.2.2.2.2.1,x.2.2.2.2.2.2.2.2.2.1,x.2.2.2.2.2.2.2.2.2.2.1,x.2.2.2.2.2.2.2.2.2.2.2.1,x.2.2.2.2.2.2.2.2.2.2.2.2.1,x.2.2.2.2.2.2.2.2.2.2.2.2.2.1,x.2.2.2.2.2.2.2.2.2.2.2.2.2.2.1,x.2.2.2.2.2.2.2.2.2.2.2.2.2.2.2.1,x.2.2.2.2.2.2.2.2.2.2.2.2.2.2.2.2.1,x.2.2.2.2.2.2.2.2.2.2.2.2.2.2.2.2.2.1,x.2.2.2.2.2.2.2.2.2.2.2.2.2.2.2.2.2.2.1,x.2.2.2.2.2.2.2.2.2.2.2.2.2.2.2.2.2.2.2.1,x.2.2.2.2.2.2.2.2.2.2.2.2.2.2.2.2.2.2.2.2))[j10]?).bind λx_1 =>
 (((a0.2.2.2.2.2.2.2.2.2.2.2.2.1.set j10 (x.1,x.2.1,1,x.2.2.2.1,x.2.2.2.2.1,x.2.2.2.2.2.1,x.2.2.2.2.2.2.1,x.2.2.2.2.2.2.2.1,x.2.2.2.2.2.2.2.2.1,x.2.2.2.2.2.2.2.2.2.1,x.2.2.2.2.2.2.2.2.2.2.1,x.2.2.2.2.2.2.2.2.2.2.2.1,x.2.2.2.2.2.2.2.2.2.2.2.2.1,x.2.2.2.2.2.2.2.2.2.2.2.2.2.1,x.2.2.2.2.2.2.2.2.2.2.2.2.2.2.1,x.2.2.2.2.2.2.2.2.2.2.2.2.2.2.2.1,x.2.2.2.2.2.2.2.2.2.2.2.2.2.2.2.2.1,x.2.2.2.2.2.2.2.2.2.2.2.2.2.2.2.2.2.1,x.2.2.2.2.2.2.2.2.2.2.2.2.2.2.2.2.2.2.1,x.2.2.2.2.2.2.2.2.2.2.2.2.2.2.2.2.2.2.2.1,x.2.2.2.2.2.2.2.2.2.2.2.2.2.2.2.2.2.2.2.2)).set j10 (x_1.1,x_1.2.1,x_1.2.2.1,x_1.2.2.2.1,x_1.2.2.2.2.1,x_1.2.2.2.2.2.1,x_1.2.2.2.2.2.2.1,x_1.2.2.2.2.2.2.2.1,x_1.2.2.2.2.2.2.2.2.1,x_1.2.2.2.2.2.2.2.2.2.1,x_1.2.2.2.2.2.2.2.2.2.2.1,x_1.2.2.2.2.2.2.2.2.2.2.2.1,x_1.2.2.2.2.2.2.2.2.2.2.2.2.1,x_1.2.2.2.2.2.2.2.2.2.2.2.2.2.1,x_1.2.2.2.2.2.2.2.2.2.2.2.2.2.2.1,x_1.2.2.2.2.2.2.2.2.2.2.2.2.2.2.2.1,x_1.2.2.2.2.2.2.2.2.2.2.2.2.2.2.2.2.1,x_1.2.2.2.2.2.2.2.2.2.2.2.2.2.2.2.2.2.1,x_1.2.2.2.2.2.2.2.2.2.2.2.2.2.2.2.2.2.2.1,0,x_1.2.2.2.2.2.2.2.2.2.2.2.2.2.2.2.2.2.2.2.2))[j10]?).bind λx_2 =>
 some (a0.1,a0.2.1,a0.2.2.1,a0.2.2.2.1,a0.2.2.2.2.1,a0.2.2.2.2.2.1,a0.2.2.2.2.2.2.1,a0.2.2.2.2.2.2.2.1,a0.2.2.2.2.2.2.2.2.1,a0.2.2.2.2.2.2.2.2.2.1,a0.2.2.2.2.2.2.2.2.2.2.1,a0.2.2.2.2.2.2.2.2.2.2.2.1,((a0.2.2.2.2.2.2.2.2.2.2.2.2.1.set j10 (x.1,x.2.1,1,x.2.2.2.1,x.2.2.2.2.1,x.2.2.2.2.2.1,x.2.2.2.2.2.2.1,x.2.2.2.2.2.2.2.1,x.2.2.2.2.2.2.2.2.1,x.2.2.2.2.2.2.2.2.2.1,x.2.2.2.2.2.2.2.2.2.2.1,x.2.2.2.2.2.2.2.2.2.2.2.1,x.2.2.2.2.2.2.2.2.2.2.2.2.1,x.2.2.2.2.2.2.2.2.2.2.2.2.2.1,x.2.2.2.2.2.2.2.2.2.2.2.2.2.2.1,x.2.2.2.2.2.2.2.2.2.2.2.2.2.2.2.1,x.2.2.2.2.2.2.2.2.2.2.2.2.2.2.2.2.1,x.2.2.2.2.2.2.2.2.2.2.2.2.2.2.2.2.2.1,x.2.2.2.2.2.2.2.2.2.2.2.2.2.2.2.2.2.2.1,x.2.2.2.2.2.2.2.2.2.2.2.2.2.2.2.2.2.2.2.1,x.2.2.2.2.2.2.2.2.2.2.2.2.2.2.2.2.2.2.2.2)).set j10 (x_1.1,x_1.2.1,x_1.2.2.1,x_1.2.2.2.1,x_1.2.2.2.2.1,x_1.2.2.2.2.2.1,x_1.2.2.2.2.2.2.1,x_1.2.2.2.2.2.2.2.1,x_1.2.2.2.2.2.2.2.2.1,x_1.2.2.2.2.2.2.2.2.2.1,x_1.2.2.2.2.2.2.2.2.2.2.1,x_1.2.2.2.2.2.2.2.2.2.2.2.1,x_1.2.2.2.2.2.2.2.2.2.2.2.2.1,x_1.2.2.2.2.2.2.2.2.2.2.2.2.2.1,x_1.2.2.2.2.2.2.2.2.2.2.2.2.2.2.1,x_1.2.2.2.2.2.2.2.2.2.2.2.2.2.2.2.1,x_1.2.2.2.2.2.2.2.2.2.2.2.2.2.2.2.2.1,x_1.2.2.2.2.2.2.2.2.2.2.2.2.2.2.2.2.2.1,x_1.2.2.2.2.2.2.2.2.2.2.2.2.2.2.2.2.2.2.1,0,x_1.2.2.2.2.2.2.2.2.2.2.2.2.2.2.2.2.2.2.2.2)).set j10 (x_2.1,x_2.2.1,x_2.2.2.1,x_2.2.2.2.1,x_2.2.2.2.2.1,x_2.2.2.2.2.2.1,x_2.2.2.2.2.2.2.1,x_2.2.2.2.2.2.2.2.1,t18.1,t18.2.1,t18.2.2.1,t18.2.2.2.1,t18.2.2.2.2.1,t18.2.2.2.2.2.1,t18.2.2.2.2.2.2.1,t18.2.2.2.2.2.2.2.1,t18.2.2.2.2.2.2.2.2.1,t18.2.2.2.2.2.2.2.2.2.1,t18.2.2.2.2.2.2.2.2.2.2,x_2.2.2.2.2.2.2.2.2.2.2.2.2.2.2.2.2.2.2.2.1,x_2.2.2.2.2.2.2.2.2.2.2.2.2.2.2.2.2.2.2.2.2),a0.2.2.2.2.2.2.2.2.2.2.2.2.2.1,a0.2.2.2.2.2.2.2.2.2.2.2.2.2.2)
def mD:FL:=(240,⟨[.ptr uP (some true),.val false tW false],[],λa=>ew a.1 a.2⟩)::mC
theorem rQ:Gd mD:=tZ rP 240 Tryz.f240 [] Tryz.func240
def ez (p0:ue) (i1:Int):Option ue :=
 (ix p0.2.2.2.2.2.2.2.2.2.2.2.2.1.length i1).bind λj16 =>
 (p0.2.2.2.2.2.2.2.2.2.2.2.2.1[j16]?).bind λx18 =>
 (da p0.2.2.2.2.2.2.2.2.2.2.2.1 x18.2.1).bind λt19 =>
 cond (t19.2==3)
 ((bg p0.2.2.2.2.2.2.2.2.1).bind λt42 =>
 (bD (p0.1,p0.2.1,p0.2.2.1,p0.2.2.2.1,p0.2.2.2.2.1,p0.2.2.2.2.2.1,p0.2.2.2.2.2.2.1,p0.2.2.2.2.2.2.2.1,t42,p0.2.2.2.2.2.2.2.2.2.1,p0.2.2.2.2.2.2.2.2.2.2.1,p0.2.2.2.2.2.2.2.2.2.2.2.1,p0.2.2.2.2.2.2.2.2.2.2.2.2.1,p0.2.2.2.2.2.2.2.2.2.2.2.2.2.1,p0.2.2.2.2.2.2.2.2.2.2.2.2.2.2) i1).bind λt48 =>
 some t48)
 ((cond (t19.2 != 0) (some true) (some (t19.1.1==162))).bind λt56 =>
 cond t56
 ((bg p0.2.2.2.2.2.2.2.1).bind λt63 =>
 (bD (p0.1,p0.2.1,p0.2.2.1,p0.2.2.2.1,p0.2.2.2.2.1,p0.2.2.2.2.2.1,p0.2.2.2.2.2.2.1,t63,p0.2.2.2.2.2.2.2.2.1,p0.2.2.2.2.2.2.2.2.2.1,p0.2.2.2.2.2.2.2.2.2.2.1,p0.2.2.2.2.2.2.2.2.2.2.2.1,p0.2.2.2.2.2.2.2.2.2.2.2.2.1,p0.2.2.2.2.2.2.2.2.2.2.2.2.2.1,p0.2.2.2.2.2.2.2.2.2.2.2.2.2.2) i1).bind λt69 =>
 some t69)
 ((ix p0.2.2.2.2.2.2.2.2.2.2.2.2.1.length i1).bind λj28 =>
 (p0.2.2.2.2.2.2.2.2.2.2.2.2.1[j28]?).bind λx =>
 (ew (p0.1,p0.2.1,p0.2.2.1,p0.2.2.2.1,p0.2.2.2.2.1,p0.2.2.2.2.2.1,p0.2.2.2.2.2.2.1,p0.2.2.2.2.2.2.2.1,p0.2.2.2.2.2.2.2.2.1,p0.2.2.2.2.2.2.2.2.2.1,p0.2.2.2.2.2.2.2.2.2.2.1,p0.2.2.2.2.2.2.2.2.2.2.2.1,p0.2.2.2.2.2.2.2.2.2.2.2.2.1.set j28 (x.1,x.2.1,x.2.2.1,t19.1.1,t19.1.2.1,t19.1.2.2.1,t19.1.2.2.2.1,t19.1.2.2.2.2,x.2.2.2.2.2.2.2.2.1,x.2.2.2.2.2.2.2.2.2.1,x.2.2.2.2.2.2.2.2.2.2.1,x.2.2.2.2.2.2.2.2.2.2.2.1,x.2.2.2.2.2.2.2.2.2.2.2.2.1,x.2.2.2.2.2.2.2.2.2.2.2.2.2.1,x.2.2.2.2.2.2.2.2.2.2.2.2.2.2.1,x.2.2.2.2.2.2.2.2.2.2.2.2.2.2.2.1,x.2.2.2.2.2.2.2.2.2.2.2.2.2.2.2.2.1,x.2.2.2.2.2.2.2.2.2.2.2.2.2.2.2.2.2.1,x.2.2.2.2.2.2.2.2.2.2.2.2.2.2.2.2.2.2.1,x.2.2.2.2.2.2.2.2.2.2.2.2.2.2.2.2.2.2.2.1,x.2.2.2.2.2.2.2.2.2.2.2.2.2.2.2.2.2.2.2.2),p0.2.2.2.2.2.2.2.2.2.2.2.2.2.1,p0.2.2.2.2.2.2.2.2.2.2.2.2.2.2) i1).bind λt32 =>
 some t32))
def mE:FL:=(148,⟨[.ptr uP (some true),.val false tW false],[],λa=>ez a.1 a.2⟩)::mD
theorem rR:Gd mE:=tZ rQ 148 Tryz.f148 [] Tryz.func148
def aA (v0:wN) (name1:List Int):Option tS :=
 (uv ([1,3,1]:List Int) name1).bind λzs7 =>
 some (zs7,v0.1,v0.2.1,v0.2.2.1,v0.2.2.2)
def mF:FL:=(372,⟨[.val true xU true,.val false vW false],[.val true u9 (some true)],λa=>aA a.1 a.2⟩)::mE
theorem rS:Gd mF:=tZ rR 372 Tryz.f372 [] Tryz.func372
def aJ (n0:Int):Option wN :=
 some (2,n0,[],[])
def mG:FL:=(373,⟨[.val false tW false],[.val true xU (some true)],λa=>aJ a⟩)::mF
theorem rT:Gd mG:=tZ rS 373 Tryz.f373 [] Tryz.func373
def dc (a0:zz) (b1:zz):Option Bool :=
 cond (a0.1 != b1.1)
 (some (decide (a0.1<b1.1)))
 (cond (a0.2.1 != b1.2.1)
 (some (decide (a0.2.1<b1.2.1)))
 (cond (a0.2.2.2.1 != b1.2.2.2.1)
 (let t4:=decide (a0.2.2.2.1<b1.2.2.2.1)
 some t4)
 (let t4_1:=decide (a0.2.2.2.2<b1.2.2.2.2)
 some t4_1)))
def mH:FL:=(361,⟨[.val true yF false,.val true yF false],[.val false uF (some true)],λa=>dc a.1 a.2⟩)::mG
theorem rU:Gd mH:=tZ rT 361 Tryz.f361 [] Tryz.func361
def eA (v0:zz) (cost1:Int):Option (zz×Bool) :=
 (cf v0).bind λt8 =>
 (cond (!t8)
 (some true)
 ((aa cost1 1 1000).bind λt12 =>
 some (!t12))).bind λt14 =>
 cond t14
 (some (v0,false))
 ((cf (v0.1,tR (v0.2.1+cost1),tR (v0.2.2.1+1),v0.2.2.2.1,v0.2.2.2.2)).bind λt27 =>
 cond (!t27)
 (some (v0,false))
 (some ((v0.1,tR (v0.2.1+cost1),tR (v0.2.2.1+1),v0.2.2.2.1,v0.2.2.2.2),true)))
def mI:FL:=(378,⟨[.val true yF false,.val false tW false],[.val true yF (some true),.val false uF (some true)],λa=>eA a.1 a.2⟩)::mH
theorem rV:Gd mI:=tZ rU 378 Tryz.f378 [] Tryz.func378
def de (p0:Int) (i1:List Pt) (t7:Int) (t18:Int) (b0:Int) (b1:Int) (b2:Int) (b3:Int) (b4:Int) (b0_1:Int) (b1_1:Int) (b2_1:Int) (b3_1:Int) (b4_1:Int):Option ((Int×Int×Int×Int×Int×Int×Int×Int×Int×Int×Int×Int)⊕(Int×Int×Int×Int×Int×Int×Int×Int×Int×Int×Int)) :=
 cond (decide (t18<(i1.length:Int)))
 ((at? i1 t18).bind λx21 =>
 (cond (!x21.1) (some true) (some (!x21.2.2.1))).bind λt30 =>
 cond t30
 (some (.inl (t7,tR (t18+1),b0,b1,b2,b3,b4,b0_1,b1_1,b2_1,b3_1,b4_1)))
 ((eA x21.2.2.2 x21.2.1).bind λt36 =>
 (cond t36.2 (some (decide (t36.1.1<p0))) (some false)).bind λt45 =>
 (cond t45
 ((cond (decide (t7<0))
 (some true)
 ((dc t36.1 (b0_1,b1_1,b2_1,b3_1,b4_1)).bind λt52 =>
 some t52)).bind λt53 =>
 some t53)
 (some false)).bind λt54 =>
 cond t54
 (some (.inl (t18,tR (t18+1),t36.1.1,t36.1.2.1,t36.1.2.2.1,p0,0,t36.1.1,t36.1.2.1,t36.1.2.2.1,t36.1.2.2.2.1,t36.1.2.2.2.2)))
 (some (.inl (t7,tR (t18+1),b0,b1,b2,b3,b4,b0_1,b1_1,b2_1,b3_1,b4_1)))))
 (some (.inr (t7,b0,b1,b2,b3,b4,b0_1,b1_1,b2_1,b3_1,b4_1)))
def bj (p0:Int) (i1:List Pt):Option (zz×Int) :=
 (loop (λz=>de p0 i1 z.1 z.2.1 z.2.2.1 z.2.2.2.1 z.2.2.2.2.1 z.2.2.2.2.2.1 z.2.2.2.2.2.2.1 z.2.2.2.2.2.2.2.1 z.2.2.2.2.2.2.2.2.1 z.2.2.2.2.2.2.2.2.2.1 z.2.2.2.2.2.2.2.2.2.2.1 z.2.2.2.2.2.2.2.2.2.2.2) ((-1),0,p0,0,0,p0,0,0,0,0,0,0)).bind λd =>
 some ((d.2.1,d.2.2.1,d.2.2.2.1,d.2.2.2.2.1,d.2.2.2.2.2.1),d.1)
def mJ:FL:=(360,⟨[.val false tW false,.val false (.one (.sl vP)) false],[.val true yF (some true),.val false tW (some true)],λa=>bj a.1 a.2⟩)::mI
theorem rW:Gd mJ:=tZ rV 360 Tryz.f360 [(0,⟨⟨(7,false,[dI])::(18,false,[dI])::us 27 3 (us 41 4 (us 47 7 [])),[(266240,.box [dI,dI,dI,dI,dI]),(525312,.box [dI,dI,dI,dI,dI])]⟩,
 ⟨[(7,false,[dI])],[(266240,.box [dI,dI,dI,dI,dI]),(525312,.box [dI,dI,dI,dI,dI])]⟩,none⟩)] Tryz.func360
def eB (id0:Int) (l1:List Pt) (port2:Int):Option zz :=
 (bj id0 l1).bind λt12 =>
 some (t12.1.1,t12.1.2.1,t12.1.2.2.1,t12.1.2.2.2.1,port2)
def mK:FL:=(362,⟨[.val false tW false,.val false (.one (.sl vP)) false,.val false tW false],[.val true yF (some true)],λa=>eB a.1 a.2.1 a.2.2⟩)::mJ
theorem rX:Gd mK:=tZ rW 362 Tryz.f362 [] Tryz.func362
def aF (id0:Int) (l1:List Pt) (port2:Int):Option Int :=
 (aa port2 0 (tR ((l1.length:Int)-1))).bind λt13 =>
 (cond (!t13)
 (some true)
 ((at? l1 port2).bind λx18 =>
 some (!x18.1))).bind λt22 =>
 cond t22
 (some 4)
 ((bj id0 l1).bind λt26 =>
 cond (t26.2==port2)
 (some 1)
 ((at? l1 port2).bind λx36 =>
 (cond (!x36.2.2.1)
 (some true)
 ((eB id0 l1 port2).bind λt44 =>
 (at? l1 port2).bind λx47 =>
 (dc t44 x47.2.2.2).bind λt50 =>
 some t50)).bind λt51 =>
 cond t51 (some 2) (some 3)))
def mL:FL:=(325,⟨[.val false tW false,.val false (.one (.sl vP)) false,.val false tW false],[.val false tW (some true)],λa=>aF a.1 a.2.1 a.2.2⟩)::mK
theorem rY:Gd mL:=tZ rX 325 Tryz.f325 [] Tryz.func325
def eC (is0:Bool):Option Int :=
 cond is0 (some 1) (some 0)
def mM:FL:=(388,⟨[.val false uF false],[.val false tW (some true)],λa=>eC a⟩)::mL
theorem rZ:Gd mM:=tZ rY 388 Tryz.f388 [] Tryz.func388
def bE (b0:tQ) (c1:Int) (p2:Int):Option Int :=
 cond (c1==1)
 ((at? b0.2.2.1 p2).bind λx13 =>
 (eC x13.1).bind λt16 =>
 some t16)
 (cond (c1==2)
 ((at? b0.2.2.1 p2).bind λx22 =>
 some x22.2.1)
 (cond (c1==3)
 ((aF b0.1 b0.2.2.1 p2).bind λt32 =>
 some t32)
 ((at? b0.2.2.2.2.2.1 p2).bind λx37 =>
 some x37)))
def mN:FL:=(374,⟨[.val true uf false,.val false tW false,.val false tW false],[.val false tW (some true)],λa=>bE a.1 a.2.1 a.2.2⟩)::mM
theorem s5:Gd mN:=tZ rZ 374 Tryz.f374 [] Tryz.func374
def mO (p0:tQ) (t32:Int) (t3:List tS):Option ((Int×List tS)⊕(List tS)) :=
 cond (decide (t32<([p0.2.2.2.2.2.2.1,p0.2.2.2.2.2.2.2.1,p0.2.2.2.2.2.2.2.2.1,p0.2.2.2.2.2.2.2.2.2.1].length:Int)))
 ((ix [p0.2.2.2.2.2.2.1,p0.2.2.2.2.2.2.2.1,p0.2.2.2.2.2.2.2.2.1,p0.2.2.2.2.2.2.2.2.2.1].length t32).bind λj35 =>
 ([p0.2.2.2.2.2.2.1,p0.2.2.2.2.2.2.2.1,p0.2.2.2.2.2.2.2.2.1,p0.2.2.2.2.2.2.2.2.2.1][j35]?).bind λx36 =>
 (aJ x36).bind λt39 =>
 (aA t39 [1,tR (t32+2)]).bind λt43 =>
 (uv t3 [t43]).bind λzs45 =>
 some (.inl (tR (t32+1),zs45)))
 (some (.inr t3))
def bm (p0:tQ) (t6:Int) (t54:Int) (t3_3:List tS):Option ((Int×List tS)⊕(List tS)) :=
 cond (decide (t54<(p0.2.2.1.length:Int)))
 ((bE p0 t6 t54).bind λt61 =>
 (aJ t61).bind λt62 =>
 (aA t62 [2,t6,tR (t54+1)]).bind λt67 =>
 (uv t3_3 [t67]).bind λzs69 =>
 some (.inl (tR (t54+1),zs69)))
 (some (.inr t3_3))
def bG (p0:tQ) (t6:Int) (t3_2:List tS):Option ((Int×List tS)⊕(List tS)) :=
 cond (decide (t6<=4))
 ((loop (λz=>bm p0 t6 z.1 z.2) (0,t3_2)).bind λd_1 =>
 some (.inl (tR (t6+1),d_1)))
 (some (.inr t3_2))
def bn (p0:tQ) (t8:Int) (t79:Int) (t3_7:List tS):Option ((Int×List tS)⊕(List tS)) :=
 cond (decide (t79<(p0.2.2.2.2.1.length:Int)))
 ((at? p0.2.2.2.2.1 t79).bind λx81 =>
 (ix [1,x81.2.1,x81.2.2].length (tR (t8-1))).bind λj91 =>
 ([1,x81.2.1,x81.2.2][j91]?).bind λx92 =>
 (aJ x92).bind λt93 =>
 (aA t93 [3,t8,x81.1]).bind λt98 =>
 (uv t3_7 [t98]).bind λzs100 =>
 some (.inl (tR (t79+1),zs100)))
 (some (.inr t3_7))
def bH (p0:tQ) (t8:Int) (t3_6:List tS):Option ((Int×List tS)⊕(List tS)) :=
 cond (decide (t8<=3))
 ((loop (λz=>bn p0 t8 z.1 z.2) (0,t3_6)).bind λd_3 =>
 some (.inl (tR (t8+1),d_3)))
 (some (.inr t3_6))
def aX (p0:tQ) (t105:Int) (t3_10:List tS):Option ((Int×List tS)⊕(List tS)) :=
 cond (decide (t105<(p0.2.2.2.1.length:Int)))
 ((at? p0.2.2.2.1 t105).bind λx107 =>
 (aJ (tR (x107.2.2.1+1))).bind λt113 =>
 (aA t113 [4,1,x107.1,x107.2.1]).bind λt119 =>
 (uv t3_10 [t119]).bind λzs121 =>
 some (.inl (tR (t105+1),zs121)))
 (some (.inr t3_10))
def bo (p0:tQ):Option (List tS) :=
 (aQ p0).bind λt14 =>
 cond (!t14)
 (some [])
 ((aA (4,0,p0.2.1,[]) ([1,1]:List Int)).bind λt20 =>
 (loop (λz=>mO p0 z.1 z.2) (0,[t20])).bind λd =>
 (loop (λz=>bG p0 z.1 z.2) (1,d)).bind λd_2 =>
 (loop (λz=>bH p0 z.1 z.2) (1,d_2)).bind λd_4 =>
 (loop (λz=>aX p0 z.1 z.2) (0,d_4)).bind λd_5 =>
 some d_5)
def mP:FL:=(356,⟨[.val true uf false],[.val false (.one (.sl u9)) (some true)],λa=>bo a⟩)::mN
theorem s6:Gd mP:=tZ s5 356 Tryz.f356 [(0,⟨⟨[(3,false,[.own 1000000000]),(32,false,[dI])],[(1000000000,.root u9 true)]⟩,
 ⟨[(3,false,[.own 1000000300])],[(1000000300,.root u9 true)]⟩,none⟩),
 (2,⟨⟨[(3,false,[.own 1000002000]),(6,false,[dI])],[(1000002000,.root u9 true)]⟩,
 ⟨[(3,false,[.own 1000002300])],[(1000002300,.root u9 true)]⟩,none⟩),
 (4,⟨⟨[(3,false,[.own 1000004000]),(54,false,[dI])],[(1000004000,.root u9 true)]⟩,
 ⟨[(3,false,[.own 1000004300])],[(1000004300,.root u9 true)]⟩,none⟩),
 (6,⟨⟨[(3,false,[.own 1000006000]),(8,false,[dI])],[(1000006000,.root u9 true)]⟩,
 ⟨[(3,false,[.own 1000006300])],[(1000006300,.root u9 true)]⟩,none⟩),
 (8,⟨⟨[(3,false,[.own 1000008000]),(79,false,[dI])],[(1000008000,.root u9 true)]⟩,
 ⟨[(3,false,[.own 1000008300])],[(1000008300,.root u9 true)]⟩,none⟩),
 (10,⟨⟨[(3,false,[.own 1000010000]),(105,false,[dI])],[(1000010000,.root u9 true)]⟩,
 ⟨[(3,false,[.own 1000010300])],[(1000010300,.root u9 true)]⟩,none⟩)] Tryz.func356
def aY (o1:List Int) (t8:List tS) (t10:Int) (b0_1:Int) (b1:Int) (b2:List UInt8) (b3:List Int):Option ((Int×Int×Int×List UInt8×List Int)⊕((Int×Int×List UInt8×List Int)⊕(Int×Int×List UInt8×List Int))) :=
 cond (decide (t10<(t8.length:Int)))
 ((ix t8.length t10).bind λj12 =>
 (t8[j12]?).bind λx13 =>
 (az x13.1 o1).bind λt17 =>
 cond t17
 (some (.inr (.inr x13.2)))
 (some (.inl (tR (t10+1),b0_1,b1,b2,b3))))
 (some (.inr (.inl (b0_1,b1,b2,b3))))
def bI (b0:tQ) (o1:List Int):Option wN :=
 (bo b0).bind λt8 =>
 (loop (λz=>aY o1 t8 z.1 z.2.1 z.2.2.1 z.2.2.2.1 z.2.2.2.2) (0,0,0,[],[])).bind (Sum.elim (λd =>
 some (128,0,[],[])) (λr=>some r))
def mQ:FL:=(319,⟨[.val true uf false,.val false vW false],[.cold true xU],λa=>bI a.1 a.2⟩)::mP
theorem s7:Gd mQ:=tZ s6 319 Tryz.f319 [(0,⟨⟨[(10,false,[dI])],[(2048,.box [dI,dI,dS,.own 1000000000]),(1000000000,.root tW true)]⟩,
 ⟨[],[(2048,.box [dI,dI,dS,.own 1000000300]),(1000000300,.root tW true)]⟩,some ⟨[],[(2048,.box [dI,dI,dS,.kid 264192 4 tW])]⟩⟩),
 (1000000,⟨⟨[],[(264192,.tree u9)]⟩,⟨[],[]⟩,none⟩)] Tryz.func319
def df (a0:List Int) (b1:List Int) (i5:Int):Option (Int⊕(Unit⊕Bool)) :=
 (cond (decide (i5<(a0.length:Int))) (some (decide (i5<(b1.length:Int)))) (some false)).bind λt15 =>
 cond t15
 ((at? a0 i5).bind λx20 =>
 (at? b1 i5).bind λx24 =>
 cond (x20 != x24)
 ((at? a0 i5).bind λx29 =>
 (at? b1 i5).bind λx33 =>
 some (.inr (.inr (decide (x29<x33)))))
 (some (.inl (tR (i5+1)))))
 (some (.inr (.inl ())))
def eD (a0:List Int) (b1:List Int):Option Bool :=
 (loop (λz=>df a0 b1 z) 0).bind (Sum.elim (λd =>
 let t4:=decide ((a0.length:Int)<(b1.length:Int))
 some t4) (λr=>some r))
def mR:FL:=(358,⟨[.val false vW false,.val false vW false],[.val false uF (some true)],λa=>eD a.1 a.2⟩)::mQ
theorem s8:Gd mR:=tZ s7 358 Tryz.f358 [(0,⟨⟨(5,false,[dI])::us 11 4 [],[]⟩,
 ⟨[],[]⟩,some ⟨[(4,false,[dB])],[]⟩⟩)] Tryz.func358
def bJ (o1:List Int) (t8:List tS) (t10:Int) (b1:Int) (b2:Int) (b3:List UInt8) (b0_1:List Int) (b4:List Int):Option ((Int×Int×Int×List UInt8×List Int×List Int)⊕((Int×Int×List UInt8×List Int×List Int)⊕(List Int×Int×Int×List UInt8×List Int))) :=
 cond (decide (t10<(t8.length:Int)))
 ((ix t8.length t10).bind λj12 =>
 (t8[j12]?).bind λx13 =>
 (eD o1 x13.1).bind λt17 =>
 cond t17
 (some (.inr (.inr x13)))
 (some (.inl (tR (t10+1),b1,b2,b3,b0_1,b4))))
 (some (.inr (.inl (b1,b2,b3,b0_1,b4))))
def aK (b0:tQ) (o1:List Int):Option tS :=
 (bo b0).bind λt8 =>
 (loop (λz=>bJ o1 t8 z.1 z.2.1 z.2.2.1 z.2.2.2.1 z.2.2.2.2.1 z.2.2.2.2.2) (0,0,0,[],[],[])).bind (Sum.elim (λd =>
 (aI o1).bind λt21 =>
 some (t21,130,0,[],[])) (λr=>some r))
def mS:FL:=(320,⟨[.val true uf false,.val false vW false],[.cold true u9],λa=>aK a.1 a.2⟩)::mR
theorem s9:Gd mS:=tZ s8 320 Tryz.f320 [(0,⟨⟨[(10,false,[dI])],[(2048,.box [.own 1000000000,dI,dI,dS,.own 1000000001]),(1000000000,.root tW true),(1000000001,.root tW true)]⟩,
 ⟨[],[(2048,.box [.own 1000000300,dI,dI,dS,.own 1000000301]),(1000000300,.root tW true),(1000000301,.root tW true)]⟩,some ⟨[],[(2048,.box [.kid 264192 0 tW,dI,dI,dS,.kid 264192 4 tW])]⟩⟩),
 (1000000,⟨⟨[],[(264192,.tree u9)]⟩,⟨[],[]⟩,none⟩)] Tryz.func320
def dg (p0:tQ) (t24:List tS) (t26:Int) (t5:List tS):Option ((Int×List tS)⊕(List tS)) :=
 cond (decide (t26<(t24.length:Int)))
 ((at? t24 t26).bind λx28 =>
 (aK p0 x28.1).bind λt34 =>
 (uv t5 [t34]).bind λzs36 =>
 some (.inl (tR (t26+1),zs36)))
 (some (.inr t5))
def dh (t41:List tS) (t43:Int) (t9:List (List Int)):Option ((Int×List (List Int))⊕(List (List Int))) :=
 cond (decide (t43<(t41.length:Int)))
 ((at? t41 t43).bind λx45 =>
 (uv t9 [x45.1]).bind λzs51 =>
 some (.inl (tR (t43+1),zs51)))
 (some (.inr t9))
def cm (p0:tQ) (l:List (List Int)) (t71:Int) (t5_3:List tS) (l_1:List (List Int)):Option ((Int×List tS×List (List Int))⊕(List tS×List (List Int))) :=
 cond (decide (t71<(l.length:Int)))
 (cond (decide ((t5_3.length:Int)>=10))
 (some (.inr (t5_3,l_1)))
 ((ix l_1.length t71).bind λj80 =>
 (l_1[j80]?).bind λx81 =>
 (aK p0 x81).bind λt82 =>
 (ix l_1.length t71).bind λj87 =>
 (l_1[j87]?).bind λx =>
 (uv t5_3 [t82]).bind λzs91 =>
 some (.inl (tR (t71+1),zs91,l_1.set j87 t82.1))))
 (some (.inr (t5_3,l_1)))
def bp (p0:tQ) (i1:uq) (t12:Int) (t5_2:List tS) (l:List (List Int)):Option ((Int×List tS×List (List Int))⊕(List tS×List (List Int))) :=
 (cond (decide (t12<i1.2.2.2.1)) (some (decide ((l.length:Int)>0))) (some false)).bind λt61 =>
 (cond t61 (some (decide ((t5_2.length:Int)<10))) (some false)).bind λt66 =>
 cond t66
 ((loop (λz=>cm p0 l z.1 z.2.1 z.2.2) (0,t5_2,l)).bind λd_2 =>
 some (.inl (tR (t12+1),d_2.1,d_2.2)))
 (some (.inr (t5_2,l)))
def gu (p0:tQ) (i1:uq):Option (List tS) :=
 let t6:=min2 i1.2.2.1 (i1.2.2.2.2.length:Int)
 (cut i1.2.2.2.2 0 t6).bind λt24 =>
 (loop (λz=>dg p0 t24 z.1 z.2) (0,[])).bind λd =>
 (cut i1.2.2.2.2 t6 (i1.2.2.2.2.length:Int)).bind λt41 =>
 (loop (λz=>dh t41 z.1 z.2) (0,[])).bind λd_1 =>
 (loop (λz=>bp p0 i1 z.1 z.2.1 z.2.2) (0,d,d_1)).bind λd_3 =>
 some d_3.1
def mT:FL:=(321,⟨[.val true uf false,.val true vY false],[.val false (.one (.sl u9)) (some true)],λa=>gu a.1 a.2⟩)::mS
theorem sa:Gd mT:=tZ s9 321 Tryz.f321 [(0,⟨⟨[(5,false,[.own 1000000000]),(26,false,[dI])],[(1000000000,.root u9 true)]⟩,
 ⟨[(5,false,[.own 1000000300])],[(1000000300,.root u9 true)]⟩,none⟩),
 (2,⟨⟨[(9,false,[.own 1000002000]),(43,false,[dI])],[(1000002000,.root vW false)]⟩,
 ⟨[(9,false,[.own 1000002300])],[(1000002300,.root vW false)]⟩,none⟩),
 (4,⟨⟨(5,false,[.own 1000004000])::(12,false,[dI])::us 58 3 (us 63 3 []),[(1000004000,.root u9 true),(1000002300,.keep vW false)]⟩,
 ⟨[(5,false,[.own 1000004300])],[(1000004300,.root u9 true),(1000002300,.keep vW false)]⟩,none⟩),
 (6,⟨⟨[(5,false,[.own 1000006000]),(71,false,[dI])],[(1000006000,.root u9 true),(1000002300,.keep vW false)]⟩,
 ⟨[(5,false,[.own 1000006300])],[(1000006300,.root u9 true),(1000002300,.keep vW false)]⟩,none⟩)] Tryz.func321
def gv (bits0:Int) (port1:Int):Option Bool :=
 (aa port1 0 62).bind λt6 =>
 (cond t6
 ((shr .i64 bits0 port1).bind λt10 =>
 some ((yK .i64 t10 1)==1))
 (some false)).bind λt13 =>
 some t13
def mU:FL:=(251,⟨[.val false tW false,.val false tW false],[.val false uF (some true)],λa=>gv a.1 a.2⟩)::mT
theorem sc:Gd mU:=tZ sa 251 Tryz.f251 [] Tryz.func251
def aL (id0:Int) (l1:List Pt) (bits5:Int) (port6:Int):Option ((Int×Int)⊕Int) :=
 (cond (decide (port6<(l1.length:Int))) (some (decide (port6<6))) (some false)).bind λt15 =>
 cond t15
 ((aF id0 l1 port6).bind λt21 =>
 (cond (t21==1) (some true) (some (t21==2))).bind λt27 =>
 cond t27
 ((shl .i64 1 port6).bind λt30 =>
 some (.inl (Bf .i64 bits5 t30,tR (port6+1))))
 (some (.inl (bits5,tR (port6+1)))))
 (some (.inr bits5))
def gw (id0:Int) (l1:List Pt):Option Int :=
 (loop (λz=>aL id0 l1 z.1 z.2) (0,0)).bind λd =>
 some d
def mV:FL:=(252,⟨[.val false tW false,.val false (.one (.sl vP)) false],[.val false tW (some true)],λa=>gw a.1 a.2⟩)::mU
theorem sd:Gd mV:=tZ sc 252 Tryz.f252 [(0,⟨⟨[(5,false,[dI]),(6,false,[dI]),(13,false,[.undef]),(14,false,[.undef]),(25,false,[.undef]),(26,false,[.undef])],[]⟩,
 ⟨[(5,false,[dI])],[]⟩,none⟩)] Tryz.func252
def dj (l0:List u0) (port1:Int) (t10:Int) (out5:List u0):Option ((Int×List u0)⊕(List u0)) :=
 cond (decide (t10<(l0.length:Int)))
 ((at? l0 t10).bind λx12 =>
 (cond x12.2.2.2.2 (some true) (some (x12.2.2.1 != port1))).bind λt21 =>
 cond t21
 ((uv out5 [x12]).bind λzs25 =>
 some (.inl (tR (t10+1),zs25)))
 (some (.inl (tR (t10+1),out5))))
 (some (.inr out5))
def gx (l0:List u0) (port1:Int):Option (List u0) :=
 (loop (λz=>dj l0 port1 z.1 z.2) (0,[])).bind λd =>
 some d
def mW:FL:=(348,⟨[.val false (.one (.sl ur)) false,.val false tW false],[.val false (.one (.sl ur)) (some true)],λa=>gx a.1 a.2⟩)::mV
theorem se:Gd mW:=tZ sd 348 Tryz.f348 [(0,⟨⟨(5,false,[.own 1000000000])::(10,false,[dI])::us 17 4 [],[(1000000000,.root ur true)]⟩,
 ⟨[(5,false,[.own 1000000300])],[(1000000300,.root ur true)]⟩,none⟩)] Tryz.func348
def gy (b0:tQ) (t20:Int) (t26:Int) (b0_1:Int) (b1:List UInt8) (b6:Int) (b7:Int) (b8:Int) (b9:Int) (b10:Int) (b3:List u0):Option ((Int×Int×List UInt8×Int×Int×Int×Int×Int×List u0)⊕(Int×List UInt8×Int×Int×Int×Int×Int×List u0)) :=
 cond (decide (t26<(b0.2.2.1.length:Int)))
 ((gv t20 t26).bind λt31 =>
 cond (!t31)
 ((gx b3 t26).bind λt39 =>
 some (.inl (tR (t26+1),b0_1,b1,b6,b7,b8,b9,b10,t39)))
 (some (.inl (tR (t26+1),b0_1,b1,b6,b7,b8,b9,b10,b3))))
 (some (.inr (b0_1,b1,b6,b7,b8,b9,b10,b3)))
def bv (b0:tQ):Option tQ :=
 (bg b0.2.2.2.2.2.2.2.2.2.2).bind λt9 =>
 (gw b0.1 b0.2.2.1).bind λt20 =>
 (loop (λz=>gy b0 t20 z.1 z.2.1 z.2.2.1 z.2.2.2.1 z.2.2.2.2.1 z.2.2.2.2.2.1 z.2.2.2.2.2.2.1 z.2.2.2.2.2.2.2.1 z.2.2.2.2.2.2.2.2) (0,b0.1,b0.2.1,b0.2.2.2.2.2.2.1,b0.2.2.2.2.2.2.2.1,b0.2.2.2.2.2.2.2.2.1,b0.2.2.2.2.2.2.2.2.2.1,t9,b0.2.2.2.1)).bind λd =>
 some (d.1,d.2.1,b0.2.2.1,d.2.2.2.2.2.2.2,b0.2.2.2.2.1,b0.2.2.2.2.2.1,d.2.2.1,d.2.2.2.1,d.2.2.2.2.1,d.2.2.2.2.2.1,d.2.2.2.2.2.2.1)
def mX:FL:=(296,⟨[.ptr uf (some true)],[],λa=>bv a⟩)::mW
theorem sf:Gd mX:=tZ se 296 Tryz.f296 [(0,⟨⟨[(26,false,[dI])],[(1,.box [dI,dS,.same 4,.own 1000000000,.same 6,.same 7,dI,dI,dI,dI,dI]),(1000000000,.root ur true)]⟩,
 ⟨[],[(1,.box [dI,dS,.same 4,.own 1000000300,.same 6,.same 7,dI,dI,dI,dI,dI]),(1000000300,.root ur true)]⟩,none⟩)] Tryz.func296
def aG (o0:List Int) (low1:Int) (high2:Int) (head3:List Int):Option Bool :=
 cond ((o0.length:Int)==(tR ((head3.length:Int)+4)))
 ((cut o0 0 (tR ((o0.length:Int)-1))).bind λt20 =>
 (uv ([1,3,1]:List Int) head3).bind λzs23 =>
 (az t20 zs23).bind λt24 =>
 (cond t24
 ((at? o0 (tR ((o0.length:Int)-1))).bind λx31 =>
 (aa x31 low1 high2).bind λt35 =>
 some t35)
 (some false)).bind λt36 =>
 some t36)
 ((some false).bind λt36_1 =>
 some t36_1)
def mY:FL:=(389,⟨[.val false vW false,.val false tW false,.val false tW false,.val false vW false],[.val false uF (some true)],λa=>aG a.1 a.2.1 a.2.2.1 a.2.2.2⟩)::mX
theorem sg:Gd mY:=tZ sf 389 Tryz.f389 [] Tryz.func389
def gz (b0:tQ) (o1:List Int):Option Bool :=
 (aG o1 1 1 ([1]:List Int)).bind λt11 =>
 (cond t11
 (some true)
 ((aG o1 1 (b0.2.2.1.length:Int) ([2,2]:List Int)).bind λt16 =>
 some t16)).bind λt17 =>
 (cond t17
 (some true)
 ((aG o1 1 (b0.2.2.1.length:Int) ([2,4]:List Int)).bind λt22 =>
 some t22)).bind λt23 =>
 (cond t23
 (some true)
 ((aG o1 1 99 ([3,1]:List Int)).bind λt27 =>
 some t27)).bind λt28 =>
 cond t28
 (some true)
 ((aG o1 1 99 ([3,2]:List Int)).bind λt31 =>
 (cond t31
 (some true)
 ((aG o1 1 99 ([3,3]:List Int)).bind λt35 =>
 some t35)).bind λt36 =>
 (cond t36
 ((at? o1 5).bind λx41 =>
 (aq (b0.2.2.2.2.1,b0.2.2.2.2.2.1) x41).bind λt43 =>
 some (decide (t43>=0)))
 (some false)).bind λt45 =>
 some t45)
def mZ:FL:=(375,⟨[.val true uf false,.val false vW false],[.val false uF (some true)],λa=>gz a.1 a.2⟩)::mY
theorem si:Gd mZ:=tZ sg 375 Tryz.f375 [] Tryz.func375
def gA (v0:vi) (r1:ub) (k7:Int):Option (Int⊕Int) :=
 (cond (decide (k7<(v0.1.length:Int)))
 ((at? v0.1 k7).bind λx31 =>
 some (decide (x31.1<=r1.1)))
 (some false)).bind λt37 =>
 cond t37 (some (.inl (tR (k7+1)))) (some (.inr k7))
def eE (v0:vi) (r1:ub):Option vi :=
 (cN v0).bind λt9 =>
 (aq v0 r1.1).bind λt13 =>
 cond (decide (t13>=0))
 ((ix t9.1.length t13).bind λj20 =>
 (t9.1[j20]?).bind λx =>
 some (t9.1.set j20 r1,t9.2))
 ((loop (λz=>gA v0 r1 z) 0).bind λd =>
 (cut v0.1 0 d).bind λt43 =>
 (uv [] t43).bind λzs44 =>
 (uv zs44 [r1]).bind λzs47 =>
 (cut v0.1 d (v0.1.length:Int)).bind λt51 =>
 (uv zs47 t51).bind λzs52 =>
 some (zs52,t9.2))
def n7:FL:=(393,⟨[.val true wB false,.val true uQ false],[.val true wB (some true)],λa=>eE a.1 a.2⟩)::mZ
theorem sj:Gd n7:=tZ si 393 Tryz.f393 [(0,⟨⟨(7,false,[dI])::us 28 9 [],[]⟩,
 ⟨[(7,false,[dI])],[]⟩,none⟩)] Tryz.func393
def eF (v0:vi) (id1:Int):Option vi :=
 (cN v0).bind λt8 =>
 (aq v0 id1).bind λt11 =>
 cond (decide (t11>=0))
 ((cut v0.1 0 t11).bind λt17 =>
 (uv [] t17).bind λzs18 =>
 (cut v0.1 (tR (t11+1)) (v0.1.length:Int)).bind λt23 =>
 (uv zs18 t23).bind λzs24 =>
 some (zs24,t8.2))
 (some t8)
def n8:FL:=(394,⟨[.val true wB false,.val false tW false],[.val true wB (some true)],λa=>eF a.1 a.2⟩)::n7
theorem sk:Gd n8:=tZ sj 394 Tryz.f394 [] Tryz.func394
def gB (p0:tQ) (i1:Int) (a2:Int) (a3:Int):Option (tQ×Int) :=
 (aq (p0.2.2.2.2.1,p0.2.2.2.2.2.1) a2).bind λt15 =>
 cond (i1==1)
 ((cond (a3==4) (some (decide (t15<0))) (some false)).bind λt24 =>
 (cond t24 (some (decide ((p0.2.2.2.2.1.length:Int)<6))) (some false)).bind λt33 =>
 cond t33
 ((eE (p0.2.2.2.2.1,p0.2.2.2.2.2.1) (a2,0,0)).bind λt41 =>
 some ((p0.1,p0.2.1,p0.2.2.1,p0.2.2.2.1,t41.1,t41.2,p0.2.2.2.2.2.2.1,p0.2.2.2.2.2.2.2.1,p0.2.2.2.2.2.2.2.2.1,p0.2.2.2.2.2.2.2.2.2.1,p0.2.2.2.2.2.2.2.2.2.2),0))
 ((cond (a3==6) (some (decide (t15>=0))) (some false)).bind λt50 =>
 cond t50
 ((eF (p0.2.2.2.2.1,p0.2.2.2.2.2.1) a2).bind λt57 =>
 some ((p0.1,p0.2.1,p0.2.2.1,p0.2.2.2.1,t57.1,t57.2,p0.2.2.2.2.2.2.1,p0.2.2.2.2.2.2.2.1,p0.2.2.2.2.2.2.2.2.1,p0.2.2.2.2.2.2.2.2.2.1,p0.2.2.2.2.2.2.2.2.2.2),0))
 (some (p0,2))))
 ((ep (p0.2.2.1.length:Int)).bind λt66 =>
 (aa a3 0 t66).bind λt67 =>
 cond (!t67)
 (some (p0,2))
 (cond (i1==2)
 ((ix p0.2.2.2.2.1.length t15).bind λj78 =>
 (p0.2.2.2.2.1[j78]?).bind λx =>
 some ((p0.1,p0.2.1,p0.2.2.1,p0.2.2.2.1,p0.2.2.2.2.1.set j78 (x.1,a3,x.2.2),p0.2.2.2.2.2.1,p0.2.2.2.2.2.2.1,p0.2.2.2.2.2.2.2.1,p0.2.2.2.2.2.2.2.2.1,p0.2.2.2.2.2.2.2.2.2.1,p0.2.2.2.2.2.2.2.2.2.2),0))
 ((ix p0.2.2.2.2.1.length t15).bind λj87 =>
 (p0.2.2.2.2.1[j87]?).bind λx_1 =>
 some ((p0.1,p0.2.1,p0.2.2.1,p0.2.2.2.1,p0.2.2.2.2.1.set j87 (x_1.1,x_1.2.1,a3),p0.2.2.2.2.2.1,p0.2.2.2.2.2.2.1,p0.2.2.2.2.2.2.2.1,p0.2.2.2.2.2.2.2.2.1,p0.2.2.2.2.2.2.2.2.2.1,p0.2.2.2.2.2.2.2.2.2.2),0))))
def n9:FL:=(390,⟨[.ptr uf (some true),.val false tW false,.val false tW false,.val false tW false],[.val false tW (some true)],λa=>gB a.1 a.2.1 a.2.2.1 a.2.2.2⟩)::n8
theorem sm:Gd n9:=tZ sk 390 Tryz.f390 [] Tryz.func390
def iw (p0:tQ) (i1:List Int) (a2:wN):Option (tQ×Int) :=
 (at? i1 3).bind λx9 =>
 (cond (x9==1) (some (a2.1 != 4)) (some false)).bind λt17 =>
 (cond t17
 (some true)
 ((cond (!(x9==1)) (some (a2.1 != 2)) (some false)).bind λt25 =>
 some t25)).bind λt26 =>
 cond t26
 (some (p0,1))
 (cond (x9==1)
 (cond (decide ((a2.2.2.1.length:Int)>10))
 (some (p0,2))
 (some ((p0.1,a2.2.2.1,p0.2.2.1,p0.2.2.2.1,p0.2.2.2.2.1,p0.2.2.2.2.2.1,p0.2.2.2.2.2.2.1,p0.2.2.2.2.2.2.2.1,p0.2.2.2.2.2.2.2.2.1,p0.2.2.2.2.2.2.2.2.2.1,p0.2.2.2.2.2.2.2.2.2.2),0)))
 ((at? i1 3).bind λx52 =>
 cond (x52==3)
 ((at? i1 4).bind λx57 =>
 (at? i1 5).bind λx60 =>
 (gB p0 x57 x60 a2.2.1).bind λt64 =>
 some t64)
 ((at? i1 4).bind λx67 =>
 cond (x67==2)
 ((aa a2.2.1 1 1000).bind λt72 =>
 cond (!t72)
 (some (p0,2))
 ((at? i1 5).bind λx79 =>
 (ix p0.2.2.1.length (tR (x79-1))).bind λj84 =>
 (p0.2.2.1[j84]?).bind λx =>
 some ((p0.1,p0.2.1,p0.2.2.1.set j84 (x.1,a2.2.1,x.2.2.1,x.2.2.2.1,x.2.2.2.2.1,x.2.2.2.2.2.1,x.2.2.2.2.2.2.1,x.2.2.2.2.2.2.2),p0.2.2.2.1,p0.2.2.2.2.1,p0.2.2.2.2.2.1,p0.2.2.2.2.2.2.1,p0.2.2.2.2.2.2.2.1,p0.2.2.2.2.2.2.2.2.1,p0.2.2.2.2.2.2.2.2.2.1,p0.2.2.2.2.2.2.2.2.2.2),0)))
 ((at? i1 5).bind λx33 =>
 (ix p0.2.2.2.2.2.1.length (tR (x33-1))).bind λj38 =>
 (p0.2.2.2.2.2.1[j38]?).bind λx_1 =>
 some ((p0.1,p0.2.1,p0.2.2.1,p0.2.2.2.1,p0.2.2.2.2.1,p0.2.2.2.2.2.1.set j38 a2.2.1,p0.2.2.2.2.2.2.1,p0.2.2.2.2.2.2.2.1,p0.2.2.2.2.2.2.2.2.1,p0.2.2.2.2.2.2.2.2.2.1,p0.2.2.2.2.2.2.2.2.2.2),0)))))
def na:FL:=(376,⟨[.ptr uf (some true),.val false vW false,.val true xU false],[.val false tW (some true)],λa=>iw a.1 a.2.1 a.2.2⟩)::n9
theorem sn:Gd na:=tZ sm 376 Tryz.f376 [] Tryz.func376
def cn (l0:List u0) (tag1:Int) (mac2:Int) (t11:Int):Option (Int⊕(Unit⊕Int)) :=
 cond (decide (t11<(l0.length:Int)))
 ((at? l0 t11).bind λx14 =>
 (cond (x14.1==tag1) (some (x14.2.1==mac2)) (some false)).bind λt25 =>
 cond t25 (some (.inr (.inr t11))) (some (.inl (tR (t11+1)))))
 (some (.inr (.inl ())))
def gC (l0:List u0) (tag1:Int) (mac2:Int):Option Int :=
 (loop (λz=>cn l0 tag1 mac2 z) 0).bind (Sum.elim (λd =>
 some (-1)) (λr=>some r))
def nb:FL:=(326,⟨[.val false (.one (.sl ur)) false,.val false tW false,.val false tW false],[.val false tW (some true)],λa=>gC a.1 a.2.1 a.2.2⟩)::na
theorem so:Gd nb:=tZ sn 326 Tryz.f326 [(0,⟨⟨(11,false,[dI])::us 21 4 [],[]⟩,
 ⟨[],[]⟩,some ⟨[(6,false,[dI])],[]⟩⟩)] Tryz.func326
def gD (b0:tQ) (o1:List Int):Option Bool :=
 (aG o1 2 5 ([1]:List Int)).bind λt11 =>
 (cond t11
 (some true)
 ((aG o1 1 (b0.2.2.1.length:Int) ([2,1]:List Int)).bind λt16 =>
 some t16)).bind λt17 =>
 (cond t17
 (some true)
 ((aG o1 1 (b0.2.2.1.length:Int) ([2,3]:List Int)).bind λt22 =>
 some t22)).bind λt23 =>
 cond t23
 (some true)
 ((cond ((o1.length:Int)==7)
 ((cut o1 0 5).bind λt29 =>
 (az t29 ([1,3,1,4,1]:List Int)).bind λt31 =>
 some t31)
 (some false)).bind λt32 =>
 (cond t32
 ((at? o1 5).bind λx37 =>
 (at? o1 6).bind λx40 =>
 (gC b0.2.2.2.1 x37 x40).bind λt42 =>
 some (decide (t42>=0)))
 (some false)).bind λt44 =>
 some t44)
def nc:FL:=(377,⟨[.val true uf false,.val false vW false],[.val false uF (some true)],λa=>gD a.1 a.2⟩)::nb
theorem sq:Gd nc:=tZ so 377 Tryz.f377 [] Tryz.func377
def co (b0:tQ) (x1:tS):Option (tQ×Int) :=
 (gz b0 x1.1).bind λt11 =>
 cond t11
 ((iw b0 x1.1 x1.2).bind λt17 =>
 some t17)
 ((gD b0 x1.1).bind λt24 =>
 cond t24 (some (b0,4)) (some (b0,3)))
def nd:FL:=(359,⟨[.ptr uf (some true),.val true u9 false],[.val false tW (some true)],λa=>co a.1 a.2⟩)::nc
theorem sr:Gd nd:=tZ sq 359 Tryz.f359 [] Tryz.func359
def eG (p0:tQ) (t25:Int) (x28:tS) (t32:List tS) (t34:Int) (b0_2:Int) (b1_2:List UInt8) (b6_2:Int) (b7_2:Int) (b8_2:Int) (b9_2:Int) (b10_2:Int):Option ((Int×Int×List UInt8×Int×Int×Int×Int×Int)⊕((Int×List UInt8×Int×Int×Int×Int×Int)⊕(Int×Int×Int×List UInt8×Int×Int×Int×Int×Int×List Pt×List u0×List ub×List Int))) :=
 cond (decide (t34<(t32.length:Int)))
 ((at? t32 t34).bind λx36 =>
 (az x28.1 x36.1).bind λt42 =>
 cond t42
 ((aj p0).bind λt44 =>
 some (.inr (.inr (5,tR (t25+1),t44.1,t44.2.1,t44.2.2.2.2.2.2.1,t44.2.2.2.2.2.2.2.1,t44.2.2.2.2.2.2.2.2.1,t44.2.2.2.2.2.2.2.2.2.1,t44.2.2.2.2.2.2.2.2.2.2,t44.2.2.1,t44.2.2.2.1,t44.2.2.2.2.1,t44.2.2.2.2.2.1))))
 (some (.inl (tR (t34+1),b0_2,b1_2,b6_2,b7_2,b8_2,b9_2,b10_2))))
 (some (.inr (.inl (b0_2,b1_2,b6_2,b7_2,b8_2,b9_2,b10_2))))
def gE (p0:tQ) (i1:List tS) (t25:Int) (b0:Int) (b1:List UInt8) (b6:Int) (b7:Int) (b8:Int) (b9:Int) (b10:Int) (b0_1:Int) (b1_1:List UInt8) (b6_1:Int) (b7_1:Int) (b8_1:Int) (b9_1:Int) (b10_1:Int) (b2:List Pt) (b3:List u0) (b4:List ub) (b5:List Int) (b2_1:List Pt) (b3_1:List u0) (b4_1:List ub) (b5_1:List Int):Option ((Int×Int×List UInt8×Int×Int×Int×Int×Int×Int×List UInt8×Int×Int×Int×Int×Int×List Pt×List u0×List ub×List Int×List Pt×List u0×List ub×List Int)⊕((Int×List UInt8×Int×Int×Int×Int×Int×Int×List UInt8×Int×Int×Int×Int×Int×List Pt×List u0×List ub×List Int×List Pt×List u0×List ub×List Int)⊕(Int×Int×Int×List UInt8×Int×Int×Int×Int×Int×List Pt×List u0×List ub×List Int))) :=
 cond (decide (t25<(i1.length:Int)))
 ((at? i1 t25).bind λx28 =>
 (cut i1 0 t25).bind λt32 =>
 (loop (λz=>eG p0 t25 x28 t32 z.1 z.2.1 z.2.2.1 z.2.2.2.1 z.2.2.2.2.1 z.2.2.2.2.2.1 z.2.2.2.2.2.2.1 z.2.2.2.2.2.2.2) (0,b0,b1,b6,b7,b8,b9,b10)).bind (Sum.elim (λd =>
 (co (b0_1,b1_1,b2_1,b3_1,b4_1,b5_1,b6_1,b7_1,b8_1,b9_1,b10_1) x28).bind λt49 =>
 cond (t49.2 != 0)
 ((aj p0).bind λt53 =>
 some (.inr (.inr (t49.2,tR (t25+1),t53.1,t53.2.1,t53.2.2.2.2.2.2.1,t53.2.2.2.2.2.2.2.1,t53.2.2.2.2.2.2.2.2.1,t53.2.2.2.2.2.2.2.2.2.1,t53.2.2.2.2.2.2.2.2.2.2,t53.2.2.1,t53.2.2.2.1,t53.2.2.2.2.1,t53.2.2.2.2.2.1))))
 (some (.inl (tR (t25+1),d.1,d.2.1,d.2.2.1,d.2.2.2.1,d.2.2.2.2.1,d.2.2.2.2.2.1,d.2.2.2.2.2.2,t49.1.1,t49.1.2.1,t49.1.2.2.2.2.2.2.1,t49.1.2.2.2.2.2.2.2.1,t49.1.2.2.2.2.2.2.2.2.1,t49.1.2.2.2.2.2.2.2.2.2.1,t49.1.2.2.2.2.2.2.2.2.2.2,b2,b3,b4,b5,t49.1.2.2.1,t49.1.2.2.2.1,t49.1.2.2.2.2.1,t49.1.2.2.2.2.2.1)))) (λr=>some (.inr (.inr r)))))
 (some (.inr (.inl (b0,b1,b6,b7,b8,b9,b10,b0_1,b1_1,b6_1,b7_1,b8_1,b9_1,b10_1,b2,b3,b4,b5,b2_1,b3_1,b4_1,b5_1))))
def dk (p0:tQ) (i1:List tS):Option (tQ×Int×Int) :=
 (aj p0).bind λt14 =>
 cond ((i1.length:Int)==0)
 (some (t14,0,0))
 ((aQ p0).bind λt20 =>
 cond (!t20)
 (some (t14,3,1))
 ((loop (λz=>gE p0 i1 z.1 z.2.1 z.2.2.1 z.2.2.2.1 z.2.2.2.2.1 z.2.2.2.2.2.1 z.2.2.2.2.2.2.1 z.2.2.2.2.2.2.2.1 z.2.2.2.2.2.2.2.2.1 z.2.2.2.2.2.2.2.2.2.1 z.2.2.2.2.2.2.2.2.2.2.1 z.2.2.2.2.2.2.2.2.2.2.2.1 z.2.2.2.2.2.2.2.2.2.2.2.2.1 z.2.2.2.2.2.2.2.2.2.2.2.2.2.1 z.2.2.2.2.2.2.2.2.2.2.2.2.2.2.1 z.2.2.2.2.2.2.2.2.2.2.2.2.2.2.2.1 z.2.2.2.2.2.2.2.2.2.2.2.2.2.2.2.2.1 z.2.2.2.2.2.2.2.2.2.2.2.2.2.2.2.2.2.1 z.2.2.2.2.2.2.2.2.2.2.2.2.2.2.2.2.2.2.1 z.2.2.2.2.2.2.2.2.2.2.2.2.2.2.2.2.2.2.2.1 z.2.2.2.2.2.2.2.2.2.2.2.2.2.2.2.2.2.2.2.2.1 z.2.2.2.2.2.2.2.2.2.2.2.2.2.2.2.2.2.2.2.2.2.1 z.2.2.2.2.2.2.2.2.2.2.2.2.2.2.2.2.2.2.2.2.2.2) (0,0,[],0,0,0,0,0,t14.1,t14.2.1,t14.2.2.2.2.2.2.1,t14.2.2.2.2.2.2.2.1,t14.2.2.2.2.2.2.2.2.1,t14.2.2.2.2.2.2.2.2.2.1,t14.2.2.2.2.2.2.2.2.2.2,[],[],[],[],t14.2.2.1,t14.2.2.2.1,t14.2.2.2.2.1,t14.2.2.2.2.2.1)).bind (Sum.elim (λd_1 =>
 (cS d_1.2.2.2.2.2.2.2.2.2.2.2.2.2.2.2.2.2.2.2.2 (d_1.2.2.2.2.2.2.2.2.2.2.2.2.2.2.2.2.2.2.1.length:Int)).bind λt63 =>
 cond (!t63)
 ((aj p0).bind λt66 =>
 some (t66,5,(i1.length:Int)))
 ((bv (d_1.2.2.2.2.2.2.2.1,d_1.2.2.2.2.2.2.2.2.1,d_1.2.2.2.2.2.2.2.2.2.2.2.2.2.2.2.2.2.2.1,d_1.2.2.2.2.2.2.2.2.2.2.2.2.2.2.2.2.2.2.2.1,d_1.2.2.2.2.2.2.2.2.2.2.2.2.2.2.2.2.2.2.2.2.1,d_1.2.2.2.2.2.2.2.2.2.2.2.2.2.2.2.2.2.2.2.2.2,d_1.2.2.2.2.2.2.2.2.2.1,d_1.2.2.2.2.2.2.2.2.2.2.1,d_1.2.2.2.2.2.2.2.2.2.2.2.1,d_1.2.2.2.2.2.2.2.2.2.2.2.2.1,d_1.2.2.2.2.2.2.2.2.2.2.2.2.2.1)).bind λt69 =>
 some (t69,0,0))) (λr_1=>some ((r_1.2.2.1,r_1.2.2.2.1,r_1.2.2.2.2.2.2.2.2.2.1,r_1.2.2.2.2.2.2.2.2.2.2.1,r_1.2.2.2.2.2.2.2.2.2.2.2.1,r_1.2.2.2.2.2.2.2.2.2.2.2.2,r_1.2.2.2.2.1,r_1.2.2.2.2.2.1,r_1.2.2.2.2.2.2.1,r_1.2.2.2.2.2.2.2.1,r_1.2.2.2.2.2.2.2.2.1),r_1.1,r_1.2.1)))))
def ne:FL:=(322,⟨[.val true uf false,.val false (.one (.sl u9)) false],[.val true uf (some true),.val false tW (some true),.val false tW (some true)],λa=>dk a.1 a.2⟩)::nd
theorem su:Gd ne:=tZ sr 322 Tryz.f322 [(0,⟨⟨[(25,false,[dI])],[(2048,.box [dI,dS,.own 1000000000,.own 1000000001,.own 1000000002,.own 1000000003,dI,dI,dI,dI,dI]),(265216,.box [dI,dS,.own 1000000004,.own 1000000005,.own 1000000006,.own 1000000007,dI,dI,dI,dI,dI]),(1000000000,.root vP true),(1000000001,.root ur true),(1000000002,.root uQ true),(1000000003,.root tW true),(1000000004,.root vP true),(1000000005,.root ur true),(1000000006,.root uQ true),(1000000007,.root tW true)]⟩,
 ⟨[],[(2048,.box [dI,dS,.own 1000000300,.own 1000000301,.own 1000000302,.own 1000000303,dI,dI,dI,dI,dI]),(265216,.box [dI,dS,.own 1000000304,.own 1000000305,.own 1000000306,.own 1000000307,dI,dI,dI,dI,dI]),(1000000300,.root vP true),(1000000301,.root ur true),(1000000302,.root uQ true),(1000000303,.root tW true),(1000000304,.root vP true),(1000000305,.root ur true),(1000000306,.root uQ true),(1000000307,.root tW true)]⟩,some ⟨[(5,false,[dI]),(6,false,[dI])],[(2048,.box [dI,dS,.own 1000000600,.own 1000000601,.own 1000000602,.own 1000000603,dI,dI,dI,dI,dI]),(1000000600,.root vP true),(1000000601,.root ur true),(1000000602,.root uQ true),(1000000603,.root tW true)]⟩⟩),
 (2,⟨⟨[(34,false,[dI])],[(2048,.box [dI,dS,.same 1000000000,.same 1000000001,.same 1000000002,.same 1000000003,dI,dI,dI,dI,dI])]⟩,
 ⟨[],[(2048,.box [dI,dS,.same 1000000000,.same 1000000001,.same 1000000002,.same 1000000003,dI,dI,dI,dI,dI])]⟩,some ⟨[(5,false,[dI]),(6,false,[dI])],[(2048,.box [dI,dS,.own 1000002600,.own 1000002601,.own 1000002602,.own 1000002603,dI,dI,dI,dI,dI]),(1000002600,.root vP true),(1000002601,.root ur true),(1000002602,.root uQ true),(1000002603,.root tW true)]⟩⟩)] Tryz.func322
def aH (p0:uq):Option Bool :=
 (ev p0).bind λt4 =>
 (aa (t4.length:Int) 1 120).bind λt6 =>
 some t6
def ng:FL:=(323,⟨[.val true vY false],[.val false uF (some true)],λa=>aH a⟩)::ne
theorem sv:Gd ng:=tZ su 323 Tryz.f323 [] Tryz.func323
def eH (p0:tQ) (i1:uq) (t54:Int) (b0:Int) (b1:Int) (b2:Int) (b3:Int) (b4:List tS):Option ((Int×Int×Int×Int×Int×List tS)⊕(Int×Int×Int×Int×List tS)) :=
 cond (decide (t54<(i1.2.2.2.2.length:Int)))
 ((at? i1.2.2.2.2 t54).bind λx56 =>
 (aI x56.1).bind λt62 =>
 (bI p0 x56.1).bind λt66 =>
 (uv b4 [(t62,t66.1,t66.2.1,t66.2.2.1,t66.2.2.2)]).bind λzs69 =>
 some (.inl (tR (t54+1),b0,b1,b2,b3,zs69)))
 (some (.inr (b0,b1,b2,b3,b4)))
def nh (i1:uq) (b0_2:Int) (b1_2:List UInt8) (b6:Int) (b7:Int) (b8:Int) (b9:Int) (b10:Int) (b0_3:Int) (b1_3:Int) (b2_2:Int) (b3_2:Int) (b0_4:Int) (b1_4:List UInt8) (b6_1:Int) (b7_1:Int) (b8_1:Int) (b9_1:Int) (b10_1:Int) (b0_5:Int) (b1_5:Int) (b2_3:Int) (b3_3:Int) (b2_4:List Pt) (b3_4:List u0) (b4_2:List ub) (b5:List Int) (b4_3:List tS) (b2_5:List Pt) (b3_5:List u0) (b4_4:List ub) (b5_1:List Int) (b4_5:List tS):Option ((Int×List UInt8×Int×Int×Int×Int×Int×Int×Int×Int×Int×Int×List UInt8×Int×Int×Int×Int×Int×Int×Int×Int×Int×List Pt×List u0×List ub×List Int×List tS×List Pt×List u0×List ub×List Int×List tS)⊕((Int×List UInt8×Int×Int×Int×Int×Int×Int×Int×Int×Int×Int×List UInt8×Int×Int×Int×Int×Int×Int×Int×Int×Int×List Pt×List u0×List ub×List Int×List tS×List Pt×List u0×List ub×List Int×List tS)⊕(Bool×Int×List UInt8×Int×Int×Int×Int×Int×Int×Int×Int×Int×List Pt×List u0×List ub×List Int×List tS))) :=
 (cond (i1.1==165) (some (decide ((b4_5.length:Int)>0))) (some false)).bind λt109 =>
 cond t109
 ((vE b4_5.length 0 (tR ((b4_5.length:Int)-1))).bind λp =>
 (aH (b0_5,b1_5,b2_3,b3_3,(b4_5.take p.2).drop p.1)).bind λt119 =>
 cond t119
 (some (.inr (.inr (true,b0_4,b1_4,b6_1,b7_1,b8_1,b9_1,b10_1,b0_5,b1_5,b2_3,b3_3,b2_5,b3_5,b4_4,b5_1,(b4_5.take p.2).drop p.1))))
 (some (.inl (b0_2,b1_2,b6,b7,b8,b9,b10,b0_3,b1_3,b2_2,b3_2,b0_4,b1_4,b6_1,b7_1,b8_1,b9_1,b10_1,b0_5,b1_5,b2_3,b3_3,b2_4,b3_4,b4_2,b5,b4_3,b2_5,b3_5,b4_4,b5_1,(b4_5.take p.2).drop p.1))))
 (some (.inr (.inl (b0_2,b1_2,b6,b7,b8,b9,b10,b0_3,b1_3,b2_2,b3_2,b0_4,b1_4,b6_1,b7_1,b8_1,b9_1,b10_1,b0_5,b1_5,b2_3,b3_3,b2_4,b3_4,b4_2,b5,b4_3,b2_5,b3_5,b4_4,b5_1,b4_5))))
def eI (p0:tQ) (i1:uq) (t77:Int) (b0_10:Int) (b1_10:Int) (b2_10:Int) (b3_10:Int) (b4_10:List tS):Option ((Int×Int×Int×Int×Int×List tS)⊕(Int×Int×Int×Int×List tS)) :=
 cond (decide (t77<(i1.2.2.2.2.length:Int)))
 ((at? i1.2.2.2.2 t77).bind λx79 =>
 (aK p0 x79.1).bind λt86 =>
 (uv b4_10 [t86]).bind λzs88 =>
 some (.inl (tR (t77+1),b0_10,b1_10,b2_10,b3_10,zs88)))
 (some (.inr (b0_10,b1_10,b2_10,b3_10,b4_10)))
def ni (i1:uq) (b0_12:Int) (b1_12:List UInt8) (b6_4:Int) (b7_4:Int) (b8_4:Int) (b9_4:Int) (b10_4:Int) (b0_13:Int) (b1_13:Int) (b2_12:Int) (b3_12:Int) (b0_14:Int) (b1_14:List UInt8) (b6_5:Int) (b7_5:Int) (b8_5:Int) (b9_5:Int) (b10_5:Int) (b0_15:Int) (b1_15:Int) (b2_13:Int) (b3_13:Int) (b2_14:List Pt) (b3_14:List u0) (b4_12:List ub) (b5_4:List Int) (b4_13:List tS) (b2_15:List Pt) (b3_15:List u0) (b4_14:List ub) (b5_5:List Int) (b4_15:List tS):Option ((Int×List UInt8×Int×Int×Int×Int×Int×Int×Int×Int×Int×Int×List UInt8×Int×Int×Int×Int×Int×Int×Int×Int×Int×List Pt×List u0×List ub×List Int×List tS×List Pt×List u0×List ub×List Int×List tS)⊕((Int×List UInt8×Int×Int×Int×Int×Int×Int×Int×Int×Int×Int×List UInt8×Int×Int×Int×Int×Int×Int×Int×Int×Int×List Pt×List u0×List ub×List Int×List tS×List Pt×List u0×List ub×List Int×List tS)⊕(Bool×Int×List UInt8×Int×Int×Int×Int×Int×Int×Int×Int×Int×List Pt×List u0×List ub×List Int×List tS))) :=
 (cond (i1.1==165) (some (decide ((b4_15.length:Int)>0))) (some false)).bind λt109_1 =>
 cond t109_1
 ((vE b4_15.length 0 (tR ((b4_15.length:Int)-1))).bind λp_1 =>
 (aH (b0_15,b1_15,b2_13,b3_13,(b4_15.take p_1.2).drop p_1.1)).bind λt119_1 =>
 cond t119_1
 (some (.inr (.inr (true,b0_14,b1_14,b6_5,b7_5,b8_5,b9_5,b10_5,b0_15,b1_15,b2_13,b3_13,b2_15,b3_15,b4_14,b5_5,(b4_15.take p_1.2).drop p_1.1))))
 (some (.inl (b0_12,b1_12,b6_4,b7_4,b8_4,b9_4,b10_4,b0_13,b1_13,b2_12,b3_12,b0_14,b1_14,b6_5,b7_5,b8_5,b9_5,b10_5,b0_15,b1_15,b2_13,b3_13,b2_14,b3_14,b4_12,b5_4,b4_13,b2_15,b3_15,b4_14,b5_5,(b4_15.take p_1.2).drop p_1.1))))
 (some (.inr (.inl (b0_12,b1_12,b6_4,b7_4,b8_4,b9_4,b10_4,b0_13,b1_13,b2_12,b3_12,b0_14,b1_14,b6_5,b7_5,b8_5,b9_5,b10_5,b0_15,b1_15,b2_13,b3_13,b2_14,b3_14,b4_12,b5_4,b4_13,b2_15,b3_15,b4_14,b5_5,b4_15))))
def eJ (i1:uq) (b0_20:Int) (b1_20:List UInt8) (b6_8:Int) (b7_8:Int) (b8_8:Int) (b9_8:Int) (b10_8:Int) (b0_21:Int) (b1_21:Int) (b2_20:Int) (b3_20:Int) (b0_22:Int) (b1_22:List UInt8) (b6_9:Int) (b7_9:Int) (b8_9:Int) (b9_9:Int) (b10_9:Int) (b0_23:Int) (b1_23:Int) (b2_21:Int) (b3_21:Int) (b2_22:List Pt) (b3_22:List u0) (b4_20:List ub) (b5_8:List Int) (b4_21:List tS) (b2_23:List Pt) (b3_23:List u0) (b4_22:List ub) (b5_9:List Int) (b4_23:List tS):Option ((Int×List UInt8×Int×Int×Int×Int×Int×Int×Int×Int×Int×Int×List UInt8×Int×Int×Int×Int×Int×Int×Int×Int×Int×List Pt×List u0×List ub×List Int×List tS×List Pt×List u0×List ub×List Int×List tS)⊕((Int×List UInt8×Int×Int×Int×Int×Int×Int×Int×Int×Int×Int×List UInt8×Int×Int×Int×Int×Int×Int×Int×Int×Int×List Pt×List u0×List ub×List Int×List tS×List Pt×List u0×List ub×List Int×List tS)⊕(Bool×Int×List UInt8×Int×Int×Int×Int×Int×Int×Int×Int×Int×List Pt×List u0×List ub×List Int×List tS))) :=
 (cond (i1.1==165) (some (decide ((b4_23.length:Int)>0))) (some false)).bind λt109_2 =>
 cond t109_2
 ((vE b4_23.length 0 (tR ((b4_23.length:Int)-1))).bind λp_2 =>
 (aH (b0_23,b1_23,b2_21,b3_21,(b4_23.take p_2.2).drop p_2.1)).bind λt119_2 =>
 cond t119_2
 (some (.inr (.inr (true,b0_22,b1_22,b6_9,b7_9,b8_9,b9_9,b10_9,b0_23,b1_23,b2_21,b3_21,b2_23,b3_23,b4_22,b5_9,(b4_23.take p_2.2).drop p_2.1))))
 (some (.inl (b0_20,b1_20,b6_8,b7_8,b8_8,b9_8,b10_8,b0_21,b1_21,b2_20,b3_20,b0_22,b1_22,b6_9,b7_9,b8_9,b9_9,b10_9,b0_23,b1_23,b2_21,b3_21,b2_22,b3_22,b4_20,b5_8,b4_21,b2_23,b3_23,b4_22,b5_9,(b4_23.take p_2.2).drop p_2.1))))
 (some (.inr (.inl (b0_20,b1_20,b6_8,b7_8,b8_8,b9_8,b10_8,b0_21,b1_21,b2_20,b3_20,b0_22,b1_22,b6_9,b7_9,b8_9,b9_9,b10_9,b0_23,b1_23,b2_21,b3_21,b2_22,b3_22,b4_20,b5_8,b4_21,b2_23,b3_23,b4_22,b5_9,b4_23))))
def nj (i1:uq) (b0_28:Int) (b1_28:List UInt8) (b6_12:Int) (b7_12:Int) (b8_12:Int) (b9_12:Int) (b10_12:Int) (b0_29:Int) (b1_29:Int) (b2_28:Int) (b3_28:Int) (b0_30:Int) (b1_30:List UInt8) (b6_13:Int) (b7_13:Int) (b8_13:Int) (b9_13:Int) (b10_13:Int) (b0_31:Int) (b1_31:Int) (b2_29:Int) (b3_29:Int) (b2_30:List Pt) (b3_30:List u0) (b4_28:List ub) (b5_12:List Int) (b4_29:List tS) (b2_31:List Pt) (b3_31:List u0) (b4_30:List ub) (b5_13:List Int) (b4_31:List tS):Option ((Int×List UInt8×Int×Int×Int×Int×Int×Int×Int×Int×Int×Int×List UInt8×Int×Int×Int×Int×Int×Int×Int×Int×Int×List Pt×List u0×List ub×List Int×List tS×List Pt×List u0×List ub×List Int×List tS)⊕((Int×List UInt8×Int×Int×Int×Int×Int×Int×Int×Int×Int×Int×List UInt8×Int×Int×Int×Int×Int×Int×Int×Int×Int×List Pt×List u0×List ub×List Int×List tS×List Pt×List u0×List ub×List Int×List tS)⊕(Bool×Int×List UInt8×Int×Int×Int×Int×Int×Int×Int×Int×Int×List Pt×List u0×List ub×List Int×List tS))) :=
 (cond (i1.1==165) (some (decide ((b4_31.length:Int)>0))) (some false)).bind λt109_3 =>
 cond t109_3
 ((vE b4_31.length 0 (tR ((b4_31.length:Int)-1))).bind λp_3 =>
 (aH (b0_31,b1_31,b2_29,b3_29,(b4_31.take p_3.2).drop p_3.1)).bind λt119_3 =>
 cond t119_3
 (some (.inr (.inr (true,b0_30,b1_30,b6_13,b7_13,b8_13,b9_13,b10_13,b0_31,b1_31,b2_29,b3_29,b2_31,b3_31,b4_30,b5_13,(b4_31.take p_3.2).drop p_3.1))))
 (some (.inl (b0_28,b1_28,b6_12,b7_12,b8_12,b9_12,b10_12,b0_29,b1_29,b2_28,b3_28,b0_30,b1_30,b6_13,b7_13,b8_13,b9_13,b10_13,b0_31,b1_31,b2_29,b3_29,b2_30,b3_30,b4_28,b5_12,b4_29,b2_31,b3_31,b4_30,b5_13,(b4_31.take p_3.2).drop p_3.1))))
 (some (.inr (.inl (b0_28,b1_28,b6_12,b7_12,b8_12,b9_12,b10_12,b0_29,b1_29,b2_28,b3_28,b0_30,b1_30,b6_13,b7_13,b8_13,b9_13,b10_13,b0_31,b1_31,b2_29,b3_29,b2_30,b3_30,b4_28,b5_12,b4_29,b2_31,b3_31,b4_30,b5_13,b4_31))))
def cp (p0:tQ) (i1:uq):Option (tQ×uq×Bool) :=
 (aj p0).bind λt14 =>
 (aQ p0).bind λt16 =>
 (cond (!t16)
 (some true)
 ((cg i1).bind λt20 =>
 some (!t20))).bind λt22 =>
 (cond t22 (some true) (some (i1.1==162))).bind λt27 =>
 cond t27
 (some (t14,(0,0,0,0,[]),false))
 (cond (i1.1==160)
 ((loop (λz=>eH p0 i1 z.1 z.2.1 z.2.2.1 z.2.2.2.1 z.2.2.2.2.1 z.2.2.2.2.2) (0,162,i1.2.1,0,0,[])).bind λd =>
 (aH d).bind λt98 =>
 cond t98
 (some (t14,d,true))
 ((loop (λz=>nh i1 z.1 z.2.1 z.2.2.1 z.2.2.2.1 z.2.2.2.2.1 z.2.2.2.2.2.1 z.2.2.2.2.2.2.1 z.2.2.2.2.2.2.2.1 z.2.2.2.2.2.2.2.2.1 z.2.2.2.2.2.2.2.2.2.1 z.2.2.2.2.2.2.2.2.2.2.1 z.2.2.2.2.2.2.2.2.2.2.2.1 z.2.2.2.2.2.2.2.2.2.2.2.2.1 z.2.2.2.2.2.2.2.2.2.2.2.2.2.1 z.2.2.2.2.2.2.2.2.2.2.2.2.2.2.1 z.2.2.2.2.2.2.2.2.2.2.2.2.2.2.2.1 z.2.2.2.2.2.2.2.2.2.2.2.2.2.2.2.2.1 z.2.2.2.2.2.2.2.2.2.2.2.2.2.2.2.2.2.1 z.2.2.2.2.2.2.2.2.2.2.2.2.2.2.2.2.2.2.1 z.2.2.2.2.2.2.2.2.2.2.2.2.2.2.2.2.2.2.2.1 z.2.2.2.2.2.2.2.2.2.2.2.2.2.2.2.2.2.2.2.2.1 z.2.2.2.2.2.2.2.2.2.2.2.2.2.2.2.2.2.2.2.2.2.1 z.2.2.2.2.2.2.2.2.2.2.2.2.2.2.2.2.2.2.2.2.2.2.1 z.2.2.2.2.2.2.2.2.2.2.2.2.2.2.2.2.2.2.2.2.2.2.2.1 z.2.2.2.2.2.2.2.2.2.2.2.2.2.2.2.2.2.2.2.2.2.2.2.2.1 z.2.2.2.2.2.2.2.2.2.2.2.2.2.2.2.2.2.2.2.2.2.2.2.2.2.1 z.2.2.2.2.2.2.2.2.2.2.2.2.2.2.2.2.2.2.2.2.2.2.2.2.2.2.1 z.2.2.2.2.2.2.2.2.2.2.2.2.2.2.2.2.2.2.2.2.2.2.2.2.2.2.2.1 z.2.2.2.2.2.2.2.2.2.2.2.2.2.2.2.2.2.2.2.2.2.2.2.2.2.2.2.2.1 z.2.2.2.2.2.2.2.2.2.2.2.2.2.2.2.2.2.2.2.2.2.2.2.2.2.2.2.2.2.1 z.2.2.2.2.2.2.2.2.2.2.2.2.2.2.2.2.2.2.2.2.2.2.2.2.2.2.2.2.2.2.1 z.2.2.2.2.2.2.2.2.2.2.2.2.2.2.2.2.2.2.2.2.2.2.2.2.2.2.2.2.2.2.2) (0,[],0,0,0,0,0,0,0,0,0,t14.1,t14.2.1,t14.2.2.2.2.2.2.1,t14.2.2.2.2.2.2.2.1,t14.2.2.2.2.2.2.2.2.1,t14.2.2.2.2.2.2.2.2.2.1,t14.2.2.2.2.2.2.2.2.2.2,d.1,d.2.1,d.2.2.1,d.2.2.2.1,[],[],[],[],[],t14.2.2.1,t14.2.2.2.1,t14.2.2.2.2.1,t14.2.2.2.2.2.1,d.2.2.2.2)).bind (Sum.elim (λd_1 =>
 (aj p0).bind λt123 =>
 some (t123,(162,i1.2.1,7,0,[]),true)) (λr=>some ((r.2.1,r.2.2.1,r.2.2.2.2.2.2.2.2.2.2.2.2.1,r.2.2.2.2.2.2.2.2.2.2.2.2.2.1,r.2.2.2.2.2.2.2.2.2.2.2.2.2.2.1,r.2.2.2.2.2.2.2.2.2.2.2.2.2.2.2.1,r.2.2.2.1,r.2.2.2.2.1,r.2.2.2.2.2.1,r.2.2.2.2.2.2.1,r.2.2.2.2.2.2.2.1),(r.2.2.2.2.2.2.2.2.1,r.2.2.2.2.2.2.2.2.2.1,r.2.2.2.2.2.2.2.2.2.2.1,r.2.2.2.2.2.2.2.2.2.2.2.1,r.2.2.2.2.2.2.2.2.2.2.2.2.2.2.2.2),r.1)))))
 (cond (i1.1==161)
 ((loop (λz=>eI p0 i1 z.1 z.2.1 z.2.2.1 z.2.2.2.1 z.2.2.2.2.1 z.2.2.2.2.2) (0,162,i1.2.1,0,0,[])).bind λd_2 =>
 (aH d_2).bind λt98_1 =>
 cond t98_1
 (some (t14,d_2,true))
 ((loop (λz=>ni i1 z.1 z.2.1 z.2.2.1 z.2.2.2.1 z.2.2.2.2.1 z.2.2.2.2.2.1 z.2.2.2.2.2.2.1 z.2.2.2.2.2.2.2.1 z.2.2.2.2.2.2.2.2.1 z.2.2.2.2.2.2.2.2.2.1 z.2.2.2.2.2.2.2.2.2.2.1 z.2.2.2.2.2.2.2.2.2.2.2.1 z.2.2.2.2.2.2.2.2.2.2.2.2.1 z.2.2.2.2.2.2.2.2.2.2.2.2.2.1 z.2.2.2.2.2.2.2.2.2.2.2.2.2.2.1 z.2.2.2.2.2.2.2.2.2.2.2.2.2.2.2.1 z.2.2.2.2.2.2.2.2.2.2.2.2.2.2.2.2.1 z.2.2.2.2.2.2.2.2.2.2.2.2.2.2.2.2.2.1 z.2.2.2.2.2.2.2.2.2.2.2.2.2.2.2.2.2.2.1 z.2.2.2.2.2.2.2.2.2.2.2.2.2.2.2.2.2.2.2.1 z.2.2.2.2.2.2.2.2.2.2.2.2.2.2.2.2.2.2.2.2.1 z.2.2.2.2.2.2.2.2.2.2.2.2.2.2.2.2.2.2.2.2.2.1 z.2.2.2.2.2.2.2.2.2.2.2.2.2.2.2.2.2.2.2.2.2.2.1 z.2.2.2.2.2.2.2.2.2.2.2.2.2.2.2.2.2.2.2.2.2.2.2.1 z.2.2.2.2.2.2.2.2.2.2.2.2.2.2.2.2.2.2.2.2.2.2.2.2.1 z.2.2.2.2.2.2.2.2.2.2.2.2.2.2.2.2.2.2.2.2.2.2.2.2.2.1 z.2.2.2.2.2.2.2.2.2.2.2.2.2.2.2.2.2.2.2.2.2.2.2.2.2.2.1 z.2.2.2.2.2.2.2.2.2.2.2.2.2.2.2.2.2.2.2.2.2.2.2.2.2.2.2.1 z.2.2.2.2.2.2.2.2.2.2.2.2.2.2.2.2.2.2.2.2.2.2.2.2.2.2.2.2.1 z.2.2.2.2.2.2.2.2.2.2.2.2.2.2.2.2.2.2.2.2.2.2.2.2.2.2.2.2.2.1 z.2.2.2.2.2.2.2.2.2.2.2.2.2.2.2.2.2.2.2.2.2.2.2.2.2.2.2.2.2.2.1 z.2.2.2.2.2.2.2.2.2.2.2.2.2.2.2.2.2.2.2.2.2.2.2.2.2.2.2.2.2.2.2) (0,[],0,0,0,0,0,0,0,0,0,t14.1,t14.2.1,t14.2.2.2.2.2.2.1,t14.2.2.2.2.2.2.2.1,t14.2.2.2.2.2.2.2.2.1,t14.2.2.2.2.2.2.2.2.2.1,t14.2.2.2.2.2.2.2.2.2.2,d_2.1,d_2.2.1,d_2.2.2.1,d_2.2.2.2.1,[],[],[],[],[],t14.2.2.1,t14.2.2.2.1,t14.2.2.2.2.1,t14.2.2.2.2.2.1,d_2.2.2.2.2)).bind (Sum.elim (λd_3 =>
 (aj p0).bind λt123_1 =>
 some (t123_1,(162,i1.2.1,7,0,[]),true)) (λr_1=>some ((r_1.2.1,r_1.2.2.1,r_1.2.2.2.2.2.2.2.2.2.2.2.2.1,r_1.2.2.2.2.2.2.2.2.2.2.2.2.2.1,r_1.2.2.2.2.2.2.2.2.2.2.2.2.2.2.1,r_1.2.2.2.2.2.2.2.2.2.2.2.2.2.2.2.1,r_1.2.2.2.1,r_1.2.2.2.2.1,r_1.2.2.2.2.2.1,r_1.2.2.2.2.2.2.1,r_1.2.2.2.2.2.2.2.1),(r_1.2.2.2.2.2.2.2.2.1,r_1.2.2.2.2.2.2.2.2.2.1,r_1.2.2.2.2.2.2.2.2.2.2.1,r_1.2.2.2.2.2.2.2.2.2.2.2.1,r_1.2.2.2.2.2.2.2.2.2.2.2.2.2.2.2.2),r_1.1)))))
 (cond (i1.1==165)
 ((gu p0 i1).bind λt95 =>
 (aH (162,i1.2.1,0,0,t95)).bind λt98_2 =>
 cond t98_2
 (some (t14,(162,i1.2.1,0,0,t95),true))
 ((loop (λz=>eJ i1 z.1 z.2.1 z.2.2.1 z.2.2.2.1 z.2.2.2.2.1 z.2.2.2.2.2.1 z.2.2.2.2.2.2.1 z.2.2.2.2.2.2.2.1 z.2.2.2.2.2.2.2.2.1 z.2.2.2.2.2.2.2.2.2.1 z.2.2.2.2.2.2.2.2.2.2.1 z.2.2.2.2.2.2.2.2.2.2.2.1 z.2.2.2.2.2.2.2.2.2.2.2.2.1 z.2.2.2.2.2.2.2.2.2.2.2.2.2.1 z.2.2.2.2.2.2.2.2.2.2.2.2.2.2.1 z.2.2.2.2.2.2.2.2.2.2.2.2.2.2.2.1 z.2.2.2.2.2.2.2.2.2.2.2.2.2.2.2.2.1 z.2.2.2.2.2.2.2.2.2.2.2.2.2.2.2.2.2.1 z.2.2.2.2.2.2.2.2.2.2.2.2.2.2.2.2.2.2.1 z.2.2.2.2.2.2.2.2.2.2.2.2.2.2.2.2.2.2.2.1 z.2.2.2.2.2.2.2.2.2.2.2.2.2.2.2.2.2.2.2.2.1 z.2.2.2.2.2.2.2.2.2.2.2.2.2.2.2.2.2.2.2.2.2.1 z.2.2.2.2.2.2.2.2.2.2.2.2.2.2.2.2.2.2.2.2.2.2.1 z.2.2.2.2.2.2.2.2.2.2.2.2.2.2.2.2.2.2.2.2.2.2.2.1 z.2.2.2.2.2.2.2.2.2.2.2.2.2.2.2.2.2.2.2.2.2.2.2.2.1 z.2.2.2.2.2.2.2.2.2.2.2.2.2.2.2.2.2.2.2.2.2.2.2.2.2.1 z.2.2.2.2.2.2.2.2.2.2.2.2.2.2.2.2.2.2.2.2.2.2.2.2.2.2.1 z.2.2.2.2.2.2.2.2.2.2.2.2.2.2.2.2.2.2.2.2.2.2.2.2.2.2.2.1 z.2.2.2.2.2.2.2.2.2.2.2.2.2.2.2.2.2.2.2.2.2.2.2.2.2.2.2.2.1 z.2.2.2.2.2.2.2.2.2.2.2.2.2.2.2.2.2.2.2.2.2.2.2.2.2.2.2.2.2.1 z.2.2.2.2.2.2.2.2.2.2.2.2.2.2.2.2.2.2.2.2.2.2.2.2.2.2.2.2.2.2.1 z.2.2.2.2.2.2.2.2.2.2.2.2.2.2.2.2.2.2.2.2.2.2.2.2.2.2.2.2.2.2.2) (0,[],0,0,0,0,0,0,0,0,0,t14.1,t14.2.1,t14.2.2.2.2.2.2.1,t14.2.2.2.2.2.2.2.1,t14.2.2.2.2.2.2.2.2.1,t14.2.2.2.2.2.2.2.2.2.1,t14.2.2.2.2.2.2.2.2.2.2,162,i1.2.1,0,0,[],[],[],[],[],t14.2.2.1,t14.2.2.2.1,t14.2.2.2.2.1,t14.2.2.2.2.2.1,t95)).bind (Sum.elim (λd_4 =>
 (aj p0).bind λt123_2 =>
 some (t123_2,(162,i1.2.1,7,0,[]),true)) (λr_2=>some ((r_2.2.1,r_2.2.2.1,r_2.2.2.2.2.2.2.2.2.2.2.2.2.1,r_2.2.2.2.2.2.2.2.2.2.2.2.2.2.1,r_2.2.2.2.2.2.2.2.2.2.2.2.2.2.2.1,r_2.2.2.2.2.2.2.2.2.2.2.2.2.2.2.2.1,r_2.2.2.2.1,r_2.2.2.2.2.1,r_2.2.2.2.2.2.1,r_2.2.2.2.2.2.2.1,r_2.2.2.2.2.2.2.2.1),(r_2.2.2.2.2.2.2.2.2.1,r_2.2.2.2.2.2.2.2.2.2.1,r_2.2.2.2.2.2.2.2.2.2.2.1,r_2.2.2.2.2.2.2.2.2.2.2.2.1,r_2.2.2.2.2.2.2.2.2.2.2.2.2.2.2.2.2),r_2.1)))))
 ((dk p0 i1.2.2.2.2).bind λt39 =>
 (cP i1.2.2.2.2).bind λt47 =>
 (aH (162,i1.2.1,t39.2.1,t39.2.2,t47)).bind λt98_3 =>
 cond t98_3
 (some (t39.1,(162,i1.2.1,t39.2.1,t39.2.2,t47),true))
 ((loop (λz=>nj i1 z.1 z.2.1 z.2.2.1 z.2.2.2.1 z.2.2.2.2.1 z.2.2.2.2.2.1 z.2.2.2.2.2.2.1 z.2.2.2.2.2.2.2.1 z.2.2.2.2.2.2.2.2.1 z.2.2.2.2.2.2.2.2.2.1 z.2.2.2.2.2.2.2.2.2.2.1 z.2.2.2.2.2.2.2.2.2.2.2.1 z.2.2.2.2.2.2.2.2.2.2.2.2.1 z.2.2.2.2.2.2.2.2.2.2.2.2.2.1 z.2.2.2.2.2.2.2.2.2.2.2.2.2.2.1 z.2.2.2.2.2.2.2.2.2.2.2.2.2.2.2.1 z.2.2.2.2.2.2.2.2.2.2.2.2.2.2.2.2.1 z.2.2.2.2.2.2.2.2.2.2.2.2.2.2.2.2.2.1 z.2.2.2.2.2.2.2.2.2.2.2.2.2.2.2.2.2.2.1 z.2.2.2.2.2.2.2.2.2.2.2.2.2.2.2.2.2.2.2.1 z.2.2.2.2.2.2.2.2.2.2.2.2.2.2.2.2.2.2.2.2.1 z.2.2.2.2.2.2.2.2.2.2.2.2.2.2.2.2.2.2.2.2.2.1 z.2.2.2.2.2.2.2.2.2.2.2.2.2.2.2.2.2.2.2.2.2.2.1 z.2.2.2.2.2.2.2.2.2.2.2.2.2.2.2.2.2.2.2.2.2.2.2.1 z.2.2.2.2.2.2.2.2.2.2.2.2.2.2.2.2.2.2.2.2.2.2.2.2.1 z.2.2.2.2.2.2.2.2.2.2.2.2.2.2.2.2.2.2.2.2.2.2.2.2.2.1 z.2.2.2.2.2.2.2.2.2.2.2.2.2.2.2.2.2.2.2.2.2.2.2.2.2.2.1 z.2.2.2.2.2.2.2.2.2.2.2.2.2.2.2.2.2.2.2.2.2.2.2.2.2.2.2.1 z.2.2.2.2.2.2.2.2.2.2.2.2.2.2.2.2.2.2.2.2.2.2.2.2.2.2.2.2.1 z.2.2.2.2.2.2.2.2.2.2.2.2.2.2.2.2.2.2.2.2.2.2.2.2.2.2.2.2.2.1 z.2.2.2.2.2.2.2.2.2.2.2.2.2.2.2.2.2.2.2.2.2.2.2.2.2.2.2.2.2.2.1 z.2.2.2.2.2.2.2.2.2.2.2.2.2.2.2.2.2.2.2.2.2.2.2.2.2.2.2.2.2.2.2) (0,[],0,0,0,0,0,0,0,0,0,t39.1.1,t39.1.2.1,t39.1.2.2.2.2.2.2.1,t39.1.2.2.2.2.2.2.2.1,t39.1.2.2.2.2.2.2.2.2.1,t39.1.2.2.2.2.2.2.2.2.2.1,t39.1.2.2.2.2.2.2.2.2.2.2,162,i1.2.1,t39.2.1,t39.2.2,[],[],[],[],[],t39.1.2.2.1,t39.1.2.2.2.1,t39.1.2.2.2.2.1,t39.1.2.2.2.2.2.1,t47)).bind (Sum.elim (λd_5 =>
 (aj p0).bind λt123_3 =>
 some (t123_3,(162,i1.2.1,7,0,[]),true)) (λr_3=>some ((r_3.2.1,r_3.2.2.1,r_3.2.2.2.2.2.2.2.2.2.2.2.2.1,r_3.2.2.2.2.2.2.2.2.2.2.2.2.2.1,r_3.2.2.2.2.2.2.2.2.2.2.2.2.2.2.1,r_3.2.2.2.2.2.2.2.2.2.2.2.2.2.2.2.1,r_3.2.2.2.1,r_3.2.2.2.2.1,r_3.2.2.2.2.2.1,r_3.2.2.2.2.2.2.1,r_3.2.2.2.2.2.2.2.1),(r_3.2.2.2.2.2.2.2.2.1,r_3.2.2.2.2.2.2.2.2.2.1,r_3.2.2.2.2.2.2.2.2.2.2.1,r_3.2.2.2.2.2.2.2.2.2.2.2.1,r_3.2.2.2.2.2.2.2.2.2.2.2.2.2.2.2.2),r_3.1))))))))
def nk:FL:=(241,⟨[.val true uf false,.val true vY false],[.val true uf (some true),.val true vY (some true),.val false uF (some true)],λa=>cp a.1 a.2⟩)::ng
theorem sw:Gd nk:=tZ sv 241 Tryz.f241 [(1,⟨⟨[(54,false,[dI])],[(1052672,.box [dI,dI,dI,dI,.own 1000001000]),(1000001000,.root u9 true)]⟩,
 ⟨[],[(1052672,.box [dI,dI,dI,dI,.own 1000001300]),(1000001300,.root u9 true)]⟩,none⟩),
 (3,⟨⟨[(77,false,[dI])],[(1052672,.box [dI,dI,dI,dI,.own 1000003000]),(1000003000,.root u9 true)]⟩,
 ⟨[],[(1052672,.box [dI,dI,dI,dI,.own 1000003300]),(1000003300,.root u9 true)]⟩,none⟩),
 (5,⟨⟨us 105 4 [],[(3072,.box [dI,dS,.own 1000005000,.own 1000005001,.own 1000005002,.own 1000005003,dI,dI,dI,dI,dI]),(4096,.box [dI,dI,dI,dI,.own 1000005004]),(265216,.box [dI,dS,.own 1000005005,.own 1000005006,.own 1000005007,.own 1000005008,dI,dI,dI,dI,dI]),(1052672,.box [dI,dI,dI,dI,.own 1000005009]),(1000005000,.root vP true),(1000005001,.root ur true),(1000005002,.root uQ true),(1000005003,.root tW true),(1000005004,.root u9 true),(1000005005,.root vP true),(1000005006,.root ur true),(1000005007,.root uQ true),(1000005008,.root tW true),(1000005009,.root u9 true)]⟩,
 ⟨[],[(3072,.box [dI,dS,.own 1000005300,.own 1000005301,.own 1000005302,.own 1000005303,dI,dI,dI,dI,dI]),(4096,.box [dI,dI,dI,dI,.own 1000005304]),(265216,.box [dI,dS,.own 1000005305,.own 1000005306,.own 1000005307,.own 1000005308,dI,dI,dI,dI,dI]),(1052672,.box [dI,dI,dI,dI,.own 1000005309]),(1000005300,.root vP true),(1000005301,.root ur true),(1000005302,.root uQ true),(1000005303,.root tW true),(1000005304,.root u9 true),(1000005305,.root vP true),(1000005306,.root ur true),(1000005307,.root uQ true),(1000005308,.root tW true),(1000005309,.root u9 true)]⟩,some ⟨[(6,false,[dB])],[(3072,.box [dI,dS,.own 1000005600,.own 1000005601,.own 1000005602,.own 1000005603,dI,dI,dI,dI,dI]),(4096,.box [dI,dI,dI,dI,.own 1000005604]),(1000005600,.root vP true),(1000005601,.root ur true),(1000005602,.root uQ true),(1000005603,.root tW true),(1000005604,.root u9 true)]⟩⟩)] Tryz.func241
def eK (p0:uq):Option uq :=
 (cP p0.2.2.2.2).bind λt8 =>
 (aH (162,p0.2.1,6,1,t8)).bind λt11 =>
 cond (!t11) (some (162,p0.2.1,7,0,[])) (some (162,p0.2.1,6,1,t8))
def nl:FL:=(242,⟨[.val true vY false],[.val true vY (some true)],λa=>eK a⟩)::nk
theorem sx:Gd nl:=tZ sw 242 Tryz.f242 [] Tryz.func242
def eL (p0:ue) (i1:Int):Option (ue×List uY) :=
 (ix p0.2.2.2.2.2.2.2.2.2.2.2.2.1.length i1).bind λj12 =>
 (p0.2.2.2.2.2.2.2.2.2.2.2.2.1[j12]?).bind λx13 =>
 cond (x13.2.2.2.1 != 163)
 ((cp (x13.2.2.2.2.2.2.2.2.1,x13.2.2.2.2.2.2.2.2.2.1,x13.2.2.2.2.2.2.2.2.2.2.1,x13.2.2.2.2.2.2.2.2.2.2.2.1,x13.2.2.2.2.2.2.2.2.2.2.2.2.1,x13.2.2.2.2.2.2.2.2.2.2.2.2.2.1,x13.2.2.2.2.2.2.2.2.2.2.2.2.2.2.1,x13.2.2.2.2.2.2.2.2.2.2.2.2.2.2.2.1,x13.2.2.2.2.2.2.2.2.2.2.2.2.2.2.2.2.1,x13.2.2.2.2.2.2.2.2.2.2.2.2.2.2.2.2.2.1,x13.2.2.2.2.2.2.2.2.2.2.2.2.2.2.2.2.2.2.1) (x13.2.2.2.1,x13.2.2.2.2.1,x13.2.2.2.2.2.1,x13.2.2.2.2.2.2.1,x13.2.2.2.2.2.2.2.1)).bind λt41 =>
 (bD p0 i1).bind λt81 =>
 some (t81,[(x13.1,t41.2.1.1,t41.2.1.2.1,t41.2.1.2.2.1,t41.2.1.2.2.2.1,t41.2.1.2.2.2.2)]))
 (let t46:=p0.2.2.2.2.2.2.2.2.2.2.1==x13.2.2.2.2.2.2.2.2.2.2.2.2.2.2.2.2.2.2.1
 cond t46
 ((cp (p0.1,p0.2.1,p0.2.2.1,p0.2.2.2.1,p0.2.2.2.2.1,p0.2.2.2.2.2.1,p0.2.2.2.2.2.2.1,p0.2.2.2.2.2.2.2.1,p0.2.2.2.2.2.2.2.2.1,p0.2.2.2.2.2.2.2.2.2.1,p0.2.2.2.2.2.2.2.2.2.2.1) (x13.2.2.2.1,x13.2.2.2.2.1,x13.2.2.2.2.2.1,x13.2.2.2.2.2.2.1,x13.2.2.2.2.2.2.2.1)).bind λt64 =>
 (bD (t64.1.1,t64.1.2.1,t64.1.2.2.1,t64.1.2.2.2.1,t64.1.2.2.2.2.1,t64.1.2.2.2.2.2.1,t64.1.2.2.2.2.2.2.1,t64.1.2.2.2.2.2.2.2.1,t64.1.2.2.2.2.2.2.2.2.1,t64.1.2.2.2.2.2.2.2.2.2.1,t64.1.2.2.2.2.2.2.2.2.2.2,p0.2.2.2.2.2.2.2.2.2.2.2.1,p0.2.2.2.2.2.2.2.2.2.2.2.2.1,p0.2.2.2.2.2.2.2.2.2.2.2.2.2.1,p0.2.2.2.2.2.2.2.2.2.2.2.2.2.2) i1).bind λt81_1 =>
 some (t81_1,[(x13.1,t64.2.1.1,t64.2.1.2.1,t64.2.1.2.2.1,t64.2.1.2.2.2.1,t64.2.1.2.2.2.2)]))
 (let t71:=decide (x13.2.2.2.2.2.2.2.2.2.2.2.2.2.2.2.2.2.2.2.2>=3)
 cond t71
 ((eK (x13.2.2.2.1,x13.2.2.2.2.1,x13.2.2.2.2.2.1,x13.2.2.2.2.2.2.1,x13.2.2.2.2.2.2.2.1)).bind λt77 =>
 (bD p0 i1).bind λt81_2 =>
 some (t81_2,[(x13.1,t77.1,t77.2.1,t77.2.2.1,t77.2.2.2.1,t77.2.2.2.2)]))
 ((ix p0.2.2.2.2.2.2.2.2.2.2.2.2.1.length i1).bind λj22 =>
 (p0.2.2.2.2.2.2.2.2.2.2.2.2.1[j22]?).bind λx24 =>
 (ix p0.2.2.2.2.2.2.2.2.2.2.2.2.1.length i1).bind λj26 =>
 (p0.2.2.2.2.2.2.2.2.2.2.2.2.1[j26]?).bind λx =>
 (ew (p0.1,p0.2.1,p0.2.2.1,p0.2.2.2.1,p0.2.2.2.2.1,p0.2.2.2.2.2.1,p0.2.2.2.2.2.2.1,p0.2.2.2.2.2.2.2.1,p0.2.2.2.2.2.2.2.2.1,p0.2.2.2.2.2.2.2.2.2.1,p0.2.2.2.2.2.2.2.2.2.2.1,p0.2.2.2.2.2.2.2.2.2.2.2.1,p0.2.2.2.2.2.2.2.2.2.2.2.2.1.set j26 (x.1,x.2.1,x.2.2.1,x.2.2.2.1,x.2.2.2.2.1,x.2.2.2.2.2.1,x.2.2.2.2.2.2.1,x.2.2.2.2.2.2.2.1,x.2.2.2.2.2.2.2.2.1,x.2.2.2.2.2.2.2.2.2.1,x.2.2.2.2.2.2.2.2.2.2.1,x.2.2.2.2.2.2.2.2.2.2.2.1,x.2.2.2.2.2.2.2.2.2.2.2.2.1,x.2.2.2.2.2.2.2.2.2.2.2.2.2.1,x.2.2.2.2.2.2.2.2.2.2.2.2.2.2.1,x.2.2.2.2.2.2.2.2.2.2.2.2.2.2.2.1,x.2.2.2.2.2.2.2.2.2.2.2.2.2.2.2.2.1,x.2.2.2.2.2.2.2.2.2.2.2.2.2.2.2.2.2.1,x.2.2.2.2.2.2.2.2.2.2.2.2.2.2.2.2.2.2.1,x.2.2.2.2.2.2.2.2.2.2.2.2.2.2.2.2.2.2.2.1,tR (x24.2.2.2.2.2.2.2.2.2.2.2.2.2.2.2.2.2.2.2.2+1)),p0.2.2.2.2.2.2.2.2.2.2.2.2.2.1,p0.2.2.2.2.2.2.2.2.2.2.2.2.2.2) i1).bind λt30 =>
 some (t30,[]))))
def nn:FL:=(149,⟨[.ptr uP (some true),.val false tW false],[.val false (.one (.sl wU)) (some true)],λa=>eL a.1 a.2⟩)::nl
theorem sy:Gd nn:=tZ sx 149 Tryz.f149 [] Tryz.func149
def dl (a0:ue) (k1:Int):Option (ue×List uY) :=
 (ix a0.2.2.2.2.2.2.2.2.2.2.2.2.1.length k1).bind λj11 =>
 (a0.2.2.2.2.2.2.2.2.2.2.2.2.1[j11]?).bind λx19 =>
 cond (x19.2.2.1==0)
 ((ez a0 k1).bind λt23 =>
 some (t23,[]))
 ((a0.2.2.2.2.2.2.2.2.2.2.2.2.1[j11]?).bind λx28 =>
 cond (x28.2.2.1==2)
 ((eL a0 k1).bind λt32 =>
 some t32)
 ((a0.2.2.2.2.2.2.2.2.2.2.2.2.1[j11]?).bind λx37 =>
 (a0.2.2.2.2.2.2.2.2.2.2.2.2.1[j11]?).bind λx42 =>
 let t33:=decide (x37.2.2.2.2.2.2.2.2.2.2.2.2.2.2.2.2.2.2.2.1<(x42.2.2.2.2.2.2.2.1.length:Int))
 cond t33
 ((a0.2.2.2.2.2.2.2.2.2.2.2.2.1[j11]?).bind λx48 =>
 (a0.2.2.2.2.2.2.2.2.2.2.2.2.1[j11]?).bind λx =>
 some ((a0.1,a0.2.1,a0.2.2.1,a0.2.2.2.1,a0.2.2.2.2.1,a0.2.2.2.2.2.1,a0.2.2.2.2.2.2.1,a0.2.2.2.2.2.2.2.1,a0.2.2.2.2.2.2.2.2.1,a0.2.2.2.2.2.2.2.2.2.1,a0.2.2.2.2.2.2.2.2.2.2.1,a0.2.2.2.2.2.2.2.2.2.2.2.1,a0.2.2.2.2.2.2.2.2.2.2.2.2.1.set j11 (x.1,x.2.1,x.2.2.1,x.2.2.2.1,x.2.2.2.2.1,x.2.2.2.2.2.1,x.2.2.2.2.2.2.1,x.2.2.2.2.2.2.2.1,x.2.2.2.2.2.2.2.2.1,x.2.2.2.2.2.2.2.2.2.1,x.2.2.2.2.2.2.2.2.2.2.1,x.2.2.2.2.2.2.2.2.2.2.2.1,x.2.2.2.2.2.2.2.2.2.2.2.2.1,x.2.2.2.2.2.2.2.2.2.2.2.2.2.1,x.2.2.2.2.2.2.2.2.2.2.2.2.2.2.1,x.2.2.2.2.2.2.2.2.2.2.2.2.2.2.2.1,x.2.2.2.2.2.2.2.2.2.2.2.2.2.2.2.2.1,x.2.2.2.2.2.2.2.2.2.2.2.2.2.2.2.2.2.1,x.2.2.2.2.2.2.2.2.2.2.2.2.2.2.2.2.2.2.1,tR (x48.2.2.2.2.2.2.2.2.2.2.2.2.2.2.2.2.2.2.2.1+1),x.2.2.2.2.2.2.2.2.2.2.2.2.2.2.2.2.2.2.2.2),a0.2.2.2.2.2.2.2.2.2.2.2.2.2.1,a0.2.2.2.2.2.2.2.2.2.2.2.2.2.2),[]))
 ((a0.2.2.2.2.2.2.2.2.2.2.2.2.1[j11]?).bind λx_1 =>
 some ((a0.1,a0.2.1,a0.2.2.1,a0.2.2.2.1,a0.2.2.2.2.1,a0.2.2.2.2.2.1,a0.2.2.2.2.2.2.1,a0.2.2.2.2.2.2.2.1,a0.2.2.2.2.2.2.2.2.1,a0.2.2.2.2.2.2.2.2.2.1,a0.2.2.2.2.2.2.2.2.2.2.1,a0.2.2.2.2.2.2.2.2.2.2.2.1,a0.2.2.2.2.2.2.2.2.2.2.2.2.1.set j11 (x_1.1,x_1.2.1,2,x_1.2.2.2.1,x_1.2.2.2.2.1,x_1.2.2.2.2.2.1,x_1.2.2.2.2.2.2.1,x_1.2.2.2.2.2.2.2.1,x_1.2.2.2.2.2.2.2.2.1,x_1.2.2.2.2.2.2.2.2.2.1,x_1.2.2.2.2.2.2.2.2.2.2.1,x_1.2.2.2.2.2.2.2.2.2.2.2.1,x_1.2.2.2.2.2.2.2.2.2.2.2.2.1,x_1.2.2.2.2.2.2.2.2.2.2.2.2.2.1,x_1.2.2.2.2.2.2.2.2.2.2.2.2.2.2.1,x_1.2.2.2.2.2.2.2.2.2.2.2.2.2.2.2.1,x_1.2.2.2.2.2.2.2.2.2.2.2.2.2.2.2.2.1,x_1.2.2.2.2.2.2.2.2.2.2.2.2.2.2.2.2.2.1,x_1.2.2.2.2.2.2.2.2.2.2.2.2.2.2.2.2.2.2.1,x_1.2.2.2.2.2.2.2.2.2.2.2.2.2.2.2.2.2.2.2.1,x_1.2.2.2.2.2.2.2.2.2.2.2.2.2.2.2.2.2.2.2.2),a0.2.2.2.2.2.2.2.2.2.2.2.2.2.1,a0.2.2.2.2.2.2.2.2.2.2.2.2.2.2),[]))))
def np:FL:=(75,⟨[.ptr uP (some true),.val false tW false],[.val false (.one (.sl wU)) (some true)],λa=>dl a.1 a.2⟩)::nn
theorem sA:Gd np:=tZ sy 75 Tryz.f75 [] Tryz.func75
def eM (n1:Int) (i8:Int) (b0:Int) (b1:List UInt8) (b6:Int) (b7:Int) (b8:Int) (b9:Int) (b10:Int) (b11:List UInt8) (b13:Int) (b14:Int) (all7:List uY) (b2:List Pt) (b3:List u0) (b4:List ub) (b5:List Int) (b12:List ut):Option ((Int×Int×List UInt8×Int×Int×Int×Int×Int×List UInt8×Int×Int×List uY×List Pt×List u0×List ub×List Int×List ut)⊕(Int×List UInt8×Int×Int×Int×Int×Int×List UInt8×Int×Int×List uY×List Pt×List u0×List ub×List Int×List ut)) :=
 (cond (decide (i8<n1)) (some (decide ((b12.length:Int)>0))) (some false)).bind λt29 =>
 cond t29
 ((dl (b0,b1,b2,b3,b4,b5,b6,b7,b8,b9,b10,b11,b12,b13,b14) 0).bind λt32 =>
 (uv all7 t32.2).bind λzs35 =>
 some (.inl (tR (i8+1),t32.1.1,t32.1.2.1,t32.1.2.2.2.2.2.2.1,t32.1.2.2.2.2.2.2.2.1,t32.1.2.2.2.2.2.2.2.2.1,t32.1.2.2.2.2.2.2.2.2.2.1,t32.1.2.2.2.2.2.2.2.2.2.2.1,t32.1.2.2.2.2.2.2.2.2.2.2.2.1,t32.1.2.2.2.2.2.2.2.2.2.2.2.2.2.1,t32.1.2.2.2.2.2.2.2.2.2.2.2.2.2.2,zs35,t32.1.2.2.1,t32.1.2.2.2.1,t32.1.2.2.2.2.1,t32.1.2.2.2.2.2.1,t32.1.2.2.2.2.2.2.2.2.2.2.2.2.1)))
 (some (.inr (b0,b1,b6,b7,b8,b9,b10,b11,b13,b14,all7,b2,b3,b4,b5,b12)))
def bz (a0:ue) (n1:Int):Option (ue×List uY) :=
 (gi a0).bind λt11 =>
 (gm a0).bind λt13 =>
 (cond (!t13)
 (some true)
 ((aa n1 0 500).bind λt17 =>
 some (!t17))).bind λt19 =>
 cond t19
 (some (t11,[]))
 ((loop (λz=>eM n1 z.1 z.2.1 z.2.2.1 z.2.2.2.1 z.2.2.2.2.1 z.2.2.2.2.2.1 z.2.2.2.2.2.2.1 z.2.2.2.2.2.2.2.1 z.2.2.2.2.2.2.2.2.1 z.2.2.2.2.2.2.2.2.2.1 z.2.2.2.2.2.2.2.2.2.2.1 z.2.2.2.2.2.2.2.2.2.2.2.1 z.2.2.2.2.2.2.2.2.2.2.2.2.1 z.2.2.2.2.2.2.2.2.2.2.2.2.2.1 z.2.2.2.2.2.2.2.2.2.2.2.2.2.2.1 z.2.2.2.2.2.2.2.2.2.2.2.2.2.2.2.1 z.2.2.2.2.2.2.2.2.2.2.2.2.2.2.2.2) (0,t11.1,t11.2.1,t11.2.2.2.2.2.2.1,t11.2.2.2.2.2.2.2.1,t11.2.2.2.2.2.2.2.2.1,t11.2.2.2.2.2.2.2.2.2.1,t11.2.2.2.2.2.2.2.2.2.2.1,t11.2.2.2.2.2.2.2.2.2.2.2.1,t11.2.2.2.2.2.2.2.2.2.2.2.2.2.1,t11.2.2.2.2.2.2.2.2.2.2.2.2.2.2,[],t11.2.2.1,t11.2.2.2.1,t11.2.2.2.2.1,t11.2.2.2.2.2.1,t11.2.2.2.2.2.2.2.2.2.2.2.2.1)).bind λd =>
 some ((d.1,d.2.1,d.2.2.2.2.2.2.2.2.2.2.2.1,d.2.2.2.2.2.2.2.2.2.2.2.2.1,d.2.2.2.2.2.2.2.2.2.2.2.2.2.1,d.2.2.2.2.2.2.2.2.2.2.2.2.2.2.1,d.2.2.1,d.2.2.2.1,d.2.2.2.2.1,d.2.2.2.2.2.1,d.2.2.2.2.2.2.1,d.2.2.2.2.2.2.2.1,d.2.2.2.2.2.2.2.2.2.2.2.2.2.2.2,d.2.2.2.2.2.2.2.2.1,d.2.2.2.2.2.2.2.2.2.1),d.2.2.2.2.2.2.2.2.2.2.1))
def nq:FL:=(13,⟨[.val true uP false,.val false tW false],[.val true uP (some true),.val false (.one (.sl wU)) (some true)],λa=>bz a.1 a.2⟩)::np
theorem sB:Gd nq:=tZ sA 13 Tryz.f13 [(0,⟨⟨(7,false,[.own 1000000000])::(8,false,[dI])::us 25 4 [],[(265216,.box [dI,dS,.own 1000000001,.own 1000000002,.own 1000000003,.own 1000000004,dI,dI,dI,dI,dI,dS,.own 1000000005,dI,dI]),(1000000000,.root wU true),(1000000001,.root vP true),(1000000002,.root ur true),(1000000003,.root uQ true),(1000000004,.root tW true),(1000000005,.root vJ true)]⟩,
 ⟨[(7,false,[.own 1000000300])],[(265216,.box [dI,dS,.own 1000000301,.own 1000000302,.own 1000000303,.own 1000000304,dI,dI,dI,dI,dI,dS,.own 1000000305,dI,dI]),(1000000300,.root wU true),(1000000301,.root vP true),(1000000302,.root ur true),(1000000303,.root uQ true),(1000000304,.root tW true),(1000000305,.root vJ true)]⟩,none⟩)] Tryz.func13
def iy (a0:List Pt) (left1:Int):Option Int :=
 let left1_1:=tR (left1-(a0.length:Int))
 cond (decide (left1_1<0)) (some (-1)) (some left1_1)
def nr:FL:=(172,⟨[.val false (.one (.sl vP)) false,.val false tW false],[.val false tW (some true)],λa=>iy a.1 a.2⟩)::nq
theorem sC:Gd nr:=tZ sB 172 Tryz.f172 [] Tryz.func172
def iz (a0:List u0) (left1:Int):Option Int :=
 let left1_1:=tR (left1-(a0.length:Int))
 cond (decide (left1_1<0)) (some (-1)) (some left1_1)
def nu:FL:=(173,⟨[.val false (.one (.sl ur)) false,.val false tW false],[.val false tW (some true)],λa=>iz a.1 a.2⟩)::nr
theorem sD:Gd nu:=tZ sC 173 Tryz.f173 [] Tryz.func173
def iA (a0:List ub) (left1:Int):Option Int :=
 let left1_1:=tR (left1-(a0.length:Int))
 cond (decide (left1_1<0)) (some (-1)) (some left1_1)
def nv:FL:=(261,⟨[.val false (.one (.sl uQ)) false,.val false tW false],[.val false tW (some true)],λa=>iA a.1 a.2⟩)::nu
theorem sE:Gd nv:=tZ sD 261 Tryz.f261 [] Tryz.func261
def eN (a0:List Int) (left1:Int):Option Int :=
 let left1_1:=tR (left1-(a0.length:Int))
 cond (decide (left1_1<0)) (some (-1)) (some left1_1)
def nx:FL:=(262,⟨[.val false vW false,.val false tW false],[.val false tW (some true)],λa=>eN a.1 a.2⟩)::nv
theorem sF:Gd nx:=tZ sE 262 Tryz.f262 [] Tryz.func262
def iB (a0:vi) (left1:Int):Option Int :=
 (iA a0.1 left1).bind λt8 =>
 cond (decide (t8<0))
 (some (-1))
 ((eN a0.2 t8).bind λt14 =>
 cond (decide (t14<0)) (some (-1)) (some t14))
def ny:FL:=(174,⟨[.val true wB false,.val false tW false],[.val false tW (some true)],λa=>iB a.1 a.2⟩)::nx
theorem sG:Gd ny:=tZ sF 174 Tryz.f174 [] Tryz.func174
def gF (a0:tQ) (left1:Int):Option Int :=
 let left1_1:=tR (left1-(a0.2.1.length:Int))
 cond (decide (left1_1<0))
 (some (-1))
 ((iy a0.2.2.1 left1_1).bind λt15 =>
 cond (decide (t15<0))
 (some (-1))
 ((iz a0.2.2.2.1 t15).bind λt21 =>
 cond (decide (t21<0))
 (some (-1))
 ((iB (a0.2.2.2.2.1,a0.2.2.2.2.2.1) t21).bind λt27 =>
 cond (decide (t27<0)) (some (-1)) (some t27))))
def nz:FL:=(103,⟨[.val true uf false,.val false tW false],[.val false tW (some true)],λa=>gF a.1 a.2⟩)::ny
theorem sH:Gd nz:=tZ sG 103 Tryz.f103 [] Tryz.func103
def iC (a0:List Int) (left1:Int):Option Int :=
 let left1_1:=tR (left1-(a0.length:Int))
 cond (decide (left1_1<0)) (some (-1)) (some left1_1)
def nA:FL:=(81,⟨[.val false vh false,.val false tW false],[.val false tW (some true)],λa=>iC a.1 a.2⟩)::nz
theorem sI:Gd nA:=tZ sH 81 Tryz.f81 [] Tryz.func81
def iD (a0:wN) (left1:Int):Option Int :=
 let left1_1:=tR (left1-(a0.2.2.1.length:Int))
 cond (decide (left1_1<0))
 (some (-1))
 ((eN a0.2.2.2 left1_1).bind λt15 =>
 cond (decide (t15<0)) (some (-1)) (some t15))
def nB:FL:=(379,⟨[.val true xU false,.val false tW false],[.val false tW (some true)],λa=>iD a.1 a.2⟩)::nA
theorem sJ:Gd nB:=tZ sI 379 Tryz.f379 [] Tryz.func379
def gG (a0:tS) (left1:Int):Option Int :=
 (eN a0.1 left1).bind λt8 =>
 cond (decide (t8<0))
 (some (-1))
 ((iD a0.2 t8).bind λt14 =>
 cond (decide (t14<0)) (some (-1)) (some t14))
def nC:FL:=(363,⟨[.val true u9 false,.val false tW false],[.val false tW (some true)],λa=>gG a.1 a.2⟩)::nB
theorem sK:Gd nC:=tZ sJ 363 Tryz.f363 [] Tryz.func363
def nD (a0:List tS) (left1_2:Int) (i5:Int):Option ((Int×Int)⊕(Int⊕Int)) :=
 cond (decide (i5<(a0.length:Int)))
 ((at? a0 i5).bind λx20 =>
 (gG x20 left1_2).bind λt23 =>
 cond (decide (t23<0)) (some (.inr (.inr (-1)))) (some (.inl (t23,tR (i5+1)))))
 (some (.inr (.inl left1_2)))
def iE (a0:List tS) (left1:Int):Option Int :=
 let left1_1:=tR (left1-(a0.length:Int))
 cond (decide (left1_1<0))
 (some (-1))
 ((loop (λz=>nD a0 z.1 z.2) (left1_1,0)).bind (Sum.elim (λd =>
 some d) (λr=>some r)))
def nE:FL:=(328,⟨[.val false (.one (.sl u9)) false,.val false tW false],[.val false tW (some true)],λa=>iE a.1 a.2⟩)::nC
theorem sL:Gd nE:=tZ sK 328 Tryz.f328 [(0,⟨⟨[(1,false,[dI]),(5,false,[dI])],[]⟩,
 ⟨[(1,false,[dI])],[]⟩,some ⟨[(4,false,[dI])],[]⟩⟩)] Tryz.func328
def iF (a0:uq) (left1:Int):Option Int :=
 (iE a0.2.2.2.2 left1).bind λt8 =>
 cond (decide (t8<0)) (some (-1)) (some t8)
def nF:FL:=(263,⟨[.val true vY false,.val false tW false],[.val false tW (some true)],λa=>iF a.1 a.2⟩)::nE
theorem sM:Gd nF:=tZ sL 263 Tryz.f263 [] Tryz.func263
def gH (a0:ut) (left1:Int):Option Int :=
 (iC a0.2.1 left1).bind λt8 =>
 cond (decide (t8<0))
 (some (-1))
 ((iF (a0.2.2.2.1,a0.2.2.2.2.1,a0.2.2.2.2.2.1,a0.2.2.2.2.2.2.1,a0.2.2.2.2.2.2.2.1) t8).bind λt14 =>
 cond (decide (t14<0))
 (some (-1))
 ((gF (a0.2.2.2.2.2.2.2.2.1,a0.2.2.2.2.2.2.2.2.2.1,a0.2.2.2.2.2.2.2.2.2.2.1,a0.2.2.2.2.2.2.2.2.2.2.2.1,a0.2.2.2.2.2.2.2.2.2.2.2.2.1,a0.2.2.2.2.2.2.2.2.2.2.2.2.2.1,a0.2.2.2.2.2.2.2.2.2.2.2.2.2.2.1,a0.2.2.2.2.2.2.2.2.2.2.2.2.2.2.2.1,a0.2.2.2.2.2.2.2.2.2.2.2.2.2.2.2.2.1,a0.2.2.2.2.2.2.2.2.2.2.2.2.2.2.2.2.2.1,a0.2.2.2.2.2.2.2.2.2.2.2.2.2.2.2.2.2.2.1) t14).bind λt20 =>
 cond (decide (t20<0)) (some (-1)) (some t20)))
def nG:FL:=(175,⟨[.val true vJ false,.val false tW false],[.val false tW (some true)],λa=>gH a.1 a.2⟩)::nF
theorem sN:Gd nG:=tZ sM 175 Tryz.f175 [] Tryz.func175
def nH (a0:List ut) (left1_2:Int) (i5:Int):Option ((Int×Int)⊕(Int⊕Int)) :=
 cond (decide (i5<(a0.length:Int)))
 ((at? a0 i5).bind λx20 =>
 (gH x20 left1_2).bind λt23 =>
 cond (decide (t23<0)) (some (.inr (.inr (-1)))) (some (.inl (t23,tR (i5+1)))))
 (some (.inr (.inl left1_2)))
def iG (a0:List ut) (left1:Int):Option Int :=
 let left1_1:=tR (left1-(a0.length:Int))
 cond (decide (left1_1<0))
 (some (-1))
 ((loop (λz=>nH a0 z.1 z.2) (left1_1,0)).bind (Sum.elim (λd =>
 some d) (λr=>some r)))
def nI:FL:=(104,⟨[.val false (.one (.sl vJ)) false,.val false tW false],[.val false tW (some true)],λa=>iG a.1 a.2⟩)::nG
theorem sO:Gd nI:=tZ sN 104 Tryz.f104 [(0,⟨⟨[(1,false,[dI]),(5,false,[dI])],[]⟩,
 ⟨[(1,false,[dI])],[]⟩,some ⟨[(4,false,[dI])],[]⟩⟩)] Tryz.func104
def il (a0:ue) (left1:Int):Option Int :=
 (gF (a0.1,a0.2.1,a0.2.2.1,a0.2.2.2.1,a0.2.2.2.2.1,a0.2.2.2.2.2.1,a0.2.2.2.2.2.2.1,a0.2.2.2.2.2.2.2.1,a0.2.2.2.2.2.2.2.2.1,a0.2.2.2.2.2.2.2.2.2.1,a0.2.2.2.2.2.2.2.2.2.2.1) left1).bind λt8 =>
 cond (decide (t8<0))
 (some (-1))
 (let left1_1:=tR (t8-(a0.2.2.2.2.2.2.2.2.2.2.2.1.length:Int))
 cond (decide (left1_1<0))
 (some (-1))
 ((iG a0.2.2.2.2.2.2.2.2.2.2.2.2.1 left1_1).bind λt21 =>
 cond (decide (t21<0)) (some (-1)) (some t21)))
def nJ:FL:=(29,⟨[.val true uP false,.val false tW false],[.val false tW (some true)],λa=>il a.1 a.2⟩)::nI
theorem sP:Gd nJ:=tZ sO 29 Tryz.f29 [] Tryz.func29
def nK (a0:zz):Option zz :=
 some a0
def nL:FL:=(123,⟨[.val true yF false],[.val true yF (some true)],λa=>nK a⟩)::nJ
theorem sQ:Gd nL:=tZ sP 123 Tryz.f123 [] Tryz.func123
def iH (a0:Pt):Option Pt :=
 (nK a0.2.2.2).bind λt15 =>
 some (a0.1,a0.2.1,a0.2.2.1,t15.1,t15.2.1,t15.2.2.1,t15.2.2.2.1,t15.2.2.2.2)
def nM:FL:=(279,⟨[.val true vP false],[.val true vP (some true)],λa=>iH a⟩)::nL
theorem sR:Gd nM:=tZ sQ 279 Tryz.f279 [] Tryz.func279
def sS (a0:List Pt) (i4:Int) (l:List Pt):Option ((Int×List Pt)⊕(List Pt)) :=
 cond (decide (i4<(a0.length:Int)))
 ((at? a0 i4).bind λx18 =>
 (iH x18).bind λt20 =>
 (ix l.length i4).bind λj21 =>
 (l[j21]?).bind λx =>
 some (.inl (tR (i4+1),l.set j21 t20)))
 (some (.inr l))
def iI (a0:List Pt):Option (List Pt) :=
 (zD (a0.length:Int)).bind λn =>
 (loop (λz=>sS a0 z.1 z.2) (0,List.replicate n ((false,0,false,0,0,0,0,0):Pt))).bind λd =>
 some d
def nN:FL:=(184,⟨[.val false (.one (.sl vP)) false],[.val false (.one (.sl vP)) (some true)],λa=>iI a⟩)::nM
theorem sT:Gd nN:=tZ sR 184 Tryz.f184 [(0,⟨⟨[(4,false,[dI])],[(265216,.keep vP true)]⟩,
 ⟨[],[(265216,.keep vP true)]⟩,none⟩)] Tryz.func184
def iJ (a0:u0):Option u0 :=
 some a0
def nO:FL:=(280,⟨[.val true ur false],[.val true ur (some true)],λa=>iJ a⟩)::nN
theorem sU:Gd nO:=tZ sT 280 Tryz.f280 [] Tryz.func280
def sV (a0:List u0) (i4:Int) (l:List u0):Option ((Int×List u0)⊕(List u0)) :=
 cond (decide (i4<(a0.length:Int)))
 ((at? a0 i4).bind λx18 =>
 (iJ x18).bind λt20 =>
 (ix l.length i4).bind λj21 =>
 (l[j21]?).bind λx =>
 some (.inl (tR (i4+1),l.set j21 t20)))
 (some (.inr l))
def iK (a0:List u0):Option (List u0) :=
 (zD (a0.length:Int)).bind λn =>
 (loop (λz=>sV a0 z.1 z.2) (0,List.replicate n ((0,0,0,0,false):u0))).bind λd =>
 some d
def nP:FL:=(185,⟨[.val false (.one (.sl ur)) false],[.val false (.one (.sl ur)) (some true)],λa=>iK a⟩)::nO
theorem sW:Gd nP:=tZ sU 185 Tryz.f185 [(0,⟨⟨[(4,false,[dI])],[(265216,.keep ur true)]⟩,
 ⟨[],[(265216,.keep ur true)]⟩,none⟩)] Tryz.func185
def iL (a0:ub):Option ub :=
 some a0
def nQ:FL:=(340,⟨[.val true uQ false],[.val true uQ (some true)],λa=>iL a⟩)::nP
theorem sX:Gd nQ:=tZ sW 340 Tryz.f340 [] Tryz.func340
def sY (a0:List ub) (i4:Int) (l:List ub):Option ((Int×List ub)⊕(List ub)) :=
 cond (decide (i4<(a0.length:Int)))
 ((at? a0 i4).bind λx18 =>
 (iL x18).bind λt20 =>
 (ix l.length i4).bind λj21 =>
 (l[j21]?).bind λx =>
 some (.inl (tR (i4+1),l.set j21 t20)))
 (some (.inr l))
def iM (a0:List ub):Option (List ub) :=
 (zD (a0.length:Int)).bind λn =>
 (loop (λz=>sY a0 z.1 z.2) (0,List.replicate n ((0,0,0):ub))).bind λd =>
 some d
def nR:FL:=(281,⟨[.val false (.one (.sl uQ)) false],[.val false (.one (.sl uQ)) (some true)],λa=>iM a⟩)::nQ
theorem sZ:Gd nR:=tZ sX 281 Tryz.f281 [(0,⟨⟨[(4,false,[dI])],[(265216,.keep uQ true)]⟩,
 ⟨[],[(265216,.keep uQ true)]⟩,none⟩)] Tryz.func281
def ta (a0:List Int) (i4:Int) (l:List Int):Option ((Int×List Int)⊕(List Int)) :=
 cond (decide (i4<(a0.length:Int)))
 ((at? a0 i4).bind λx18 =>
 (ix l.length i4).bind λj20 =>
 (l[j20]?).bind λx =>
 some (.inl (tR (i4+1),l.set j20 x18)))
 (some (.inr l))
def eO (a0:List Int):Option (List Int) :=
 (zD (a0.length:Int)).bind λn =>
 (loop (λz=>ta a0 z.1 z.2) (0,List.replicate n (0:Int))).bind λd =>
 some d
def nS:FL:=(282,⟨[.val false vW false],[.val false vW (some true)],λa=>eO a⟩)::nR
theorem tb:Gd nS:=tZ sZ 282 Tryz.f282 [(0,⟨⟨[(4,false,[dI])],[(265216,.keep tW true)]⟩,
 ⟨[],[(265216,.keep tW true)]⟩,none⟩)] Tryz.func282
def gI (a0:vi):Option vi :=
 (iM a0.1).bind λt6 =>
 (eO a0.2).bind λt10 =>
 some (t6,t10)
def nT:FL:=(186,⟨[.val true wB false],[.val true wB (some true)],λa=>gI a⟩)::nS
theorem td:Gd nT:=tZ tb 186 Tryz.f186 [] Tryz.func186
def eP (a0:tQ):Option tQ :=
 (iI a0.2.2.1).bind λt12 =>
 (iK a0.2.2.2.1).bind λt16 =>
 (gI (a0.2.2.2.2.1,a0.2.2.2.2.2.1)).bind λt20 =>
 some (a0.1,a0.2.1,t12,t16,t20.1,t20.2,a0.2.2.2.2.2.2.1,a0.2.2.2.2.2.2.2.1,a0.2.2.2.2.2.2.2.2.1,a0.2.2.2.2.2.2.2.2.2.1,a0.2.2.2.2.2.2.2.2.2.2)
def nU:FL:=(109,⟨[.val true uf false],[.val true uf (some true)],λa=>eP a⟩)::nT
theorem te:Gd nU:=tZ td 109 Tryz.f109 [] Tryz.func109
def tg (a0:List Int) (i4:Int) (l:List Int):Option ((Int×List Int)⊕(List Int)) :=
 cond (decide (i4<(a0.length:Int)))
 ((at? a0 i4).bind λx18 =>
 (ix l.length i4).bind λj20 =>
 (l[j20]?).bind λx =>
 some (.inl (tR (i4+1),l.set j20 x18)))
 (some (.inr l))
def iN (a0:List Int):Option (List Int) :=
 (zD (a0.length:Int)).bind λn =>
 (loop (λz=>tg a0 z.1 z.2) (0,List.replicate n (0:Int))).bind λd =>
 some d
def nV:FL:=(86,⟨[.val false vh false],[.val false vh (some true)],λa=>iN a⟩)::nU
theorem tj:Gd nV:=tZ te 86 Tryz.f86 [(0,⟨⟨[(4,false,[dI])],[(265216,.keep (.one (.int .u8)) true)]⟩,
 ⟨[],[(265216,.keep (.one (.int .u8)) true)]⟩,none⟩)] Tryz.func86
def gJ (a0:wN):Option wN :=
 (eO a0.2.2.2).bind λt15 =>
 some (a0.1,a0.2.1,a0.2.2.1,t15)
def nW:FL:=(387,⟨[.val true xU false],[.val true xU (some true)],λa=>gJ a⟩)::nV
theorem tk:Gd nW:=tZ tj 387 Tryz.f387 [] Tryz.func387
def eQ (a0:tS):Option tS :=
 (eO a0.1).bind λt6 =>
 (gJ a0.2).bind λt10 =>
 some (t6,t10.1,t10.2.1,t10.2.2.1,t10.2.2.2)
def nX:FL:=(369,⟨[.val true u9 false],[.val true u9 (some true)],λa=>eQ a⟩)::nW
theorem tn:Gd nX:=tZ tk 369 Tryz.f369 [] Tryz.func369
def to (a0:List tS) (i4:Int) (l:List tS):Option ((Int×List tS)⊕(List tS)) :=
 cond (decide (i4<(a0.length:Int)))
 ((at? a0 i4).bind λx18 =>
 (eQ x18).bind λt20 =>
 (ix l.length i4).bind λj21 =>
 (l[j21]?).bind λx =>
 some (.inl (tR (i4+1),l.set j21 t20)))
 (some (.inr l))
def iO (a0:List tS):Option (List tS) :=
 (zD (a0.length:Int)).bind λn =>
 (loop (λz=>to a0 z.1 z.2) (0,List.replicate n (([],0,0,[],[]):tS))).bind λd =>
 some d
def nY:FL:=(341,⟨[.val false (.one (.sl u9)) false],[.val false (.one (.sl u9)) (some true)],λa=>iO a⟩)::nX
theorem tq:Gd nY:=tZ tn 341 Tryz.f341 [(0,⟨⟨[(4,false,[dI])],[(265216,.keep u9 true)]⟩,
 ⟨[],[(265216,.keep u9 true)]⟩,none⟩)] Tryz.func341
def eR (a0:uq):Option uq :=
 (iO a0.2.2.2.2).bind λt18 =>
 some (a0.1,a0.2.1,a0.2.2.1,a0.2.2.2.1,t18)
def nZ:FL:=(283,⟨[.val true vY false],[.val true vY (some true)],λa=>eR a⟩)::nY
theorem tu:Gd nZ:=tZ tq 283 Tryz.f283 [] Tryz.func283
def eS (a0:ut):Option ut :=
 (iN a0.2.1).bind λt9 =>
 (eR (a0.2.2.2.1,a0.2.2.2.2.1,a0.2.2.2.2.2.1,a0.2.2.2.2.2.2.1,a0.2.2.2.2.2.2.2.1)).bind λt16 =>
 (eP (a0.2.2.2.2.2.2.2.2.1,a0.2.2.2.2.2.2.2.2.2.1,a0.2.2.2.2.2.2.2.2.2.2.1,a0.2.2.2.2.2.2.2.2.2.2.2.1,a0.2.2.2.2.2.2.2.2.2.2.2.2.1,a0.2.2.2.2.2.2.2.2.2.2.2.2.2.1,a0.2.2.2.2.2.2.2.2.2.2.2.2.2.2.1,a0.2.2.2.2.2.2.2.2.2.2.2.2.2.2.2.1,a0.2.2.2.2.2.2.2.2.2.2.2.2.2.2.2.2.1,a0.2.2.2.2.2.2.2.2.2.2.2.2.2.2.2.2.2.1,a0.2.2.2.2.2.2.2.2.2.2.2.2.2.2.2.2.2.2.1)).bind λt20 =>
 some (a0.1,t9,a0.2.2.1,t16.1,t16.2.1,t16.2.2.1,t16.2.2.2.1,t16.2.2.2.2,t20.1,t20.2.1,t20.2.2.1,t20.2.2.2.1,t20.2.2.2.2.1,t20.2.2.2.2.2.1,t20.2.2.2.2.2.2.1,t20.2.2.2.2.2.2.2.1,t20.2.2.2.2.2.2.2.2.1,t20.2.2.2.2.2.2.2.2.2.1,t20.2.2.2.2.2.2.2.2.2.2,a0.2.2.2.2.2.2.2.2.2.2.2.2.2.2.2.2.2.2.2.1,a0.2.2.2.2.2.2.2.2.2.2.2.2.2.2.2.2.2.2.2.2)
def o4:FL:=(187,⟨[.val true vJ false],[.val true vJ (some true)],λa=>eS a⟩)::nZ
theorem tv:Gd o4:=tZ tu 187 Tryz.f187 [] Tryz.func187
def tz (a0:List ut) (i4:Int) (l:List ut):Option ((Int×List ut)⊕(List ut)) :=
 cond (decide (i4<(a0.length:Int)))
 ((at? a0 i4).bind λx18 =>
 (eS x18).bind λt20 =>
 (ix l.length i4).bind λj21 =>
 (l[j21]?).bind λx =>
 some (.inl (tR (i4+1),l.set j21 t20)))
 (some (.inr l))
def iP (a0:List ut):Option (List ut) :=
 (zD (a0.length:Int)).bind λn =>
 (loop (λz=>tz a0 z.1 z.2) (0,List.replicate n ((0,[],0,0,0,0,0,[],0,[],[],[],[],[],0,0,0,0,0,0,0):ut))).bind λd =>
 some d
def o5:FL:=(110,⟨[.val false (.one (.sl vJ)) false],[.val false (.one (.sl vJ)) (some true)],λa=>iP a⟩)::o4
theorem tA:Gd o5:=tZ tv 110 Tryz.f110 [(0,⟨⟨[(4,false,[dI])],[(265216,.keep vJ true)]⟩,
 ⟨[],[(265216,.keep vJ true)]⟩,none⟩)] Tryz.func110
def ce (a0:ue):Option ue :=
 (eP (a0.1,a0.2.1,a0.2.2.1,a0.2.2.2.1,a0.2.2.2.2.1,a0.2.2.2.2.2.1,a0.2.2.2.2.2.2.1,a0.2.2.2.2.2.2.2.1,a0.2.2.2.2.2.2.2.2.1,a0.2.2.2.2.2.2.2.2.2.1,a0.2.2.2.2.2.2.2.2.2.2.1)).bind λt6 =>
 (iP a0.2.2.2.2.2.2.2.2.2.2.2.2.1).bind λt13 =>
 some (t6.1,t6.2.1,t6.2.2.1,t6.2.2.2.1,t6.2.2.2.2.1,t6.2.2.2.2.2.1,t6.2.2.2.2.2.2.1,t6.2.2.2.2.2.2.2.1,t6.2.2.2.2.2.2.2.2.1,t6.2.2.2.2.2.2.2.2.2.1,t6.2.2.2.2.2.2.2.2.2.2,a0.2.2.2.2.2.2.2.2.2.2.2.1,t13,a0.2.2.2.2.2.2.2.2.2.2.2.2.2.1,a0.2.2.2.2.2.2.2.2.2.2.2.2.2.2)
def o6:FL:=(31,⟨[.val true uP false],[.val true uP (some true)],λa=>ce a⟩)::o5
theorem tB:Gd o6:=tZ tA 31 Tryz.f31 [] Tryz.func31
def gK (a0:zz) (b1:zz):Option Bool :=
 cond (a0.1 != b1.1)
 (some false)
 (cond (a0.2.1 != b1.2.1)
 (some false)
 (cond (a0.2.2.1 != b1.2.2.1)
 (some false)
 (cond (a0.2.2.2.1 != b1.2.2.2.1)
 (some false)
 (cond (a0.2.2.2.2 != b1.2.2.2.2) (some false) (some true)))))
def o7:FL:=(126,⟨[.val true yF false,.val true yF false],[.val false uF (some true)],λa=>gK a.1 a.2⟩)::o6
theorem tC:Gd o7:=tZ tB 126 Tryz.f126 [] Tryz.func126
def eT (a0:Pt) (b1:Pt):Option Bool :=
 cond (!(a0.1==b1.1))
 (some false)
 (cond (a0.2.1 != b1.2.1)
 (some false)
 (cond (!(a0.2.2.1==b1.2.2.1))
 (some false)
 ((gK a0.2.2.2 b1.2.2.2).bind λt24 =>
 cond (!t24) (some false) (some true))))
def o8:FL:=(284,⟨[.val true vP false,.val true vP false],[.val false uF (some true)],λa=>eT a.1 a.2⟩)::o7
theorem tD:Gd o8:=tZ tC 284 Tryz.f284 [] Tryz.func284
def tE (a0:List Pt) (b1:List Pt) (i5:Int):Option (Int⊕(Unit⊕Bool)) :=
 cond (decide (i5<(a0.length:Int)))
 ((at? a0 i5).bind λx19 =>
 (at? b1 i5).bind λx23 =>
 (eT x19 x23).bind λt25 =>
 cond (!t25) (some (.inr (.inr false))) (some (.inl (tR (i5+1)))))
 (some (.inr (.inl ())))
def iQ (a0:List Pt) (b1:List Pt):Option Bool :=
 cond ((a0.length:Int) != (b1.length:Int))
 (some false)
 ((loop (λz=>tE a0 b1 z) 0).bind (Sum.elim (λd =>
 some true) (λr=>some r)))
def o9:FL:=(188,⟨[.val false (.one (.sl vP)) false,.val false (.one (.sl vP)) false],[.val false uF (some true)],λa=>iQ a.1 a.2⟩)::o8
theorem tF:Gd o9:=tZ tD 188 Tryz.f188 [(0,⟨⟨[(5,false,[dI])],[]⟩,
 ⟨[],[]⟩,some ⟨[(4,false,[dB])],[]⟩⟩)] Tryz.func188
def eU (a0:u0) (b1:u0):Option Bool :=
 cond (a0.1 != b1.1)
 (some false)
 (cond (a0.2.1 != b1.2.1)
 (some false)
 (cond (a0.2.2.1 != b1.2.2.1)
 (some false)
 (cond (a0.2.2.2.1 != b1.2.2.2.1)
 (some false)
 (cond (!(a0.2.2.2.2==b1.2.2.2.2)) (some false) (some true)))))
def oa:FL:=(285,⟨[.val true ur false,.val true ur false],[.val false uF (some true)],λa=>eU a.1 a.2⟩)::o9
theorem tG:Gd oa:=tZ tF 285 Tryz.f285 [] Tryz.func285
def tH (a0:List u0) (b1:List u0) (i5:Int):Option (Int⊕(Unit⊕Bool)) :=
 cond (decide (i5<(a0.length:Int)))
 ((at? a0 i5).bind λx19 =>
 (at? b1 i5).bind λx23 =>
 (eU x19 x23).bind λt25 =>
 cond (!t25) (some (.inr (.inr false))) (some (.inl (tR (i5+1)))))
 (some (.inr (.inl ())))
def iR (a0:List u0) (b1:List u0):Option Bool :=
 cond ((a0.length:Int) != (b1.length:Int))
 (some false)
 ((loop (λz=>tH a0 b1 z) 0).bind (Sum.elim (λd =>
 some true) (λr=>some r)))
def ob:FL:=(189,⟨[.val false (.one (.sl ur)) false,.val false (.one (.sl ur)) false],[.val false uF (some true)],λa=>iR a.1 a.2⟩)::oa
theorem tI:Gd ob:=tZ tG 189 Tryz.f189 [(0,⟨⟨[(5,false,[dI])],[]⟩,
 ⟨[],[]⟩,some ⟨[(4,false,[dB])],[]⟩⟩)] Tryz.func189
def eV (a0:ub) (b1:ub):Option Bool :=
 cond (a0.1 != b1.1)
 (some false)
 (cond (a0.2.1 != b1.2.1) (some false) (cond (a0.2.2 != b1.2.2) (some false) (some true)))
def oc:FL:=(342,⟨[.val true uQ false,.val true uQ false],[.val false uF (some true)],λa=>eV a.1 a.2⟩)::ob
theorem tJ:Gd oc:=tZ tI 342 Tryz.f342 [] Tryz.func342
def tK (a0:List ub) (b1:List ub) (i5:Int):Option (Int⊕(Unit⊕Bool)) :=
 cond (decide (i5<(a0.length:Int)))
 ((at? a0 i5).bind λx19 =>
 (at? b1 i5).bind λx23 =>
 (eV x19 x23).bind λt25 =>
 cond (!t25) (some (.inr (.inr false))) (some (.inl (tR (i5+1)))))
 (some (.inr (.inl ())))
def iS (a0:List ub) (b1:List ub):Option Bool :=
 cond ((a0.length:Int) != (b1.length:Int))
 (some false)
 ((loop (λz=>tK a0 b1 z) 0).bind (Sum.elim (λd =>
 some true) (λr=>some r)))
def od:FL:=(286,⟨[.val false (.one (.sl uQ)) false,.val false (.one (.sl uQ)) false],[.val false uF (some true)],λa=>iS a.1 a.2⟩)::oc
theorem tL:Gd od:=tZ tJ 286 Tryz.f286 [(0,⟨⟨[(5,false,[dI])],[]⟩,
 ⟨[],[]⟩,some ⟨[(4,false,[dB])],[]⟩⟩)] Tryz.func286
def tM (a0:List Int) (b1:List Int) (i5:Int):Option (Int⊕(Unit⊕Bool)) :=
 cond (decide (i5<(a0.length:Int)))
 ((at? a0 i5).bind λx19 =>
 (at? b1 i5).bind λx23 =>
 cond (x19 != x23) (some (.inr (.inr false))) (some (.inl (tR (i5+1)))))
 (some (.inr (.inl ())))
def dp (a0:List Int) (b1:List Int):Option Bool :=
 cond ((a0.length:Int) != (b1.length:Int))
 (some false)
 ((loop (λz=>tM a0 b1 z) 0).bind (Sum.elim (λd =>
 some true) (λr=>some r)))
def oe:FL:=(287,⟨[.val false vW false,.val false vW false],[.val false uF (some true)],λa=>dp a.1 a.2⟩)::od
theorem tN:Gd oe:=tZ tL 287 Tryz.f287 [(0,⟨⟨[(5,false,[dI])],[]⟩,
 ⟨[],[]⟩,some ⟨[(4,false,[dB])],[]⟩⟩)] Tryz.func287
def gL (a0:vi) (b1:vi):Option Bool :=
 (iS a0.1 b1.1).bind λt9 =>
 cond (!t9)
 (some false)
 ((dp a0.2 b1.2).bind λt15 =>
 cond (!t15) (some false) (some true))
def iU:FL:=(190,⟨[.val true wB false,.val true wB false],[.val false uF (some true)],λa=>gL a.1 a.2⟩)::oe
theorem iV:Gd iU:=tZ tN 190 Tryz.f190 [] Tryz.func190
def dv (a0:tQ) (b1:tQ):Option Bool :=
 cond (a0.1 != b1.1)
 (some false)
 (cond (!(a0.2.1==b1.2.1))
 (some false)
 ((iQ a0.2.2.1 b1.2.2.1).bind λt19 =>
 cond (!t19)
 (some false)
 ((iR a0.2.2.2.1 b1.2.2.2.1).bind λt25 =>
 cond (!t25)
 (some false)
 ((gL (a0.2.2.2.2.1,a0.2.2.2.2.2.1) (b1.2.2.2.2.1,b1.2.2.2.2.2.1)).bind λt31 =>
 cond (!t31)
 (some false)
 (cond (a0.2.2.2.2.2.2.1 != b1.2.2.2.2.2.2.1)
 (some false)
 (cond (a0.2.2.2.2.2.2.2.1 != b1.2.2.2.2.2.2.2.1)
 (some false)
 (cond (a0.2.2.2.2.2.2.2.2.1 != b1.2.2.2.2.2.2.2.2.1)
 (some false)
 (cond (a0.2.2.2.2.2.2.2.2.2.1 != b1.2.2.2.2.2.2.2.2.2.1)
 (some false)
 (cond (a0.2.2.2.2.2.2.2.2.2.2 != b1.2.2.2.2.2.2.2.2.2.2) (some false) (some true))))))))))
def AN:Fn:=⟨[.val true uf false,.val true uf false],[.val false uF (some true)],λa=>dv a.1 a.2⟩
theorem HJ:Bb Tryz.prog 111 AN:=Tw iV 111 Tryz.f111 [] AN Tryz.func111
end
end Go.V.W
