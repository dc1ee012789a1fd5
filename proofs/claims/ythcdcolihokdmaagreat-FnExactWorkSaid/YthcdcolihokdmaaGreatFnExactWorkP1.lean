/- The law FnExactWork: part of the proof that for every input it returns true. No condition. -/
import Derived.Test.YthcdcolihokdmaaGreatV4
import Derived.Test.YthcdcolihokdmaaGreatProg
import Derived.Test.YthcdcolihokdmaaGreatChecked
import Derived.KernelRfl
set_option linter.unusedVariables false
set_option linter.unusedSimpArgs false
namespace Go.V.W
open Go.Proofs
noncomputable section
def us:Nat->Nat->List (Nat×Bool×List vp)->List (Nat×Bool×List vp)|_,0,l=>l|a,n+1,l=>(a,false,[.undef])::us (a+1) n l
@[reducible] def tU:Cs:=.one (.int .i64)
@[reducible] def uD:Cs:=.one .bool
@[reducible] def vd:Cs:=.one (.sl (.one (.int .u8)))
@[reducible] def vR:Cs:=.one (.sl (.one (.int .i64)))
@[reducible] def Pl:Cs:=.one .str
@[reducible] def dI:vp:=.dat (.int .i64)
@[reducible] def dB:vp:=.dat .bool
@[reducible] def dS:vp:=.dat .str
@[reducible] def yD:Cs:=.cons (.int .i64) (.cons (.int .i64) (.cons (.int .i64) (.cons (.int .i64) tU)))
@[reducible] def vV:Cs:=.cons .bool (.cons (.int .i64) (.cons .bool (.cons (.int .i64) (.cons (.int .i64) (.cons (.int .i64) (.cons (.int .i64) tU))))))
@[reducible] def uo:Cs:=.cons (.int .i64) (.cons (.int .i64) (.cons (.int .i64) (.cons (.int .i64) uD)))
@[reducible] def uU:Cs:=.cons (.int .i64) (.cons (.int .i64) tU)
@[reducible] def wy:Cs:=.cons (.sl uU) vR
@[reducible] def uc:Cs:=.cons (.int .i64) (.cons .str (.cons (.sl vV) (.cons (.sl uo) (.cons (.sl uU) (.cons (.sl tU) (.cons (.int .i64) (.cons (.int .i64) (.cons (.int .i64) (.cons (.int .i64) tU)))))))))
@[reducible] def xQ:Cs:=.cons (.int .i64) (.cons (.int .i64) (.cons .str vR))
@[reducible] def u5:Cs:=.cons (.sl tU) (.cons (.int .i64) (.cons (.int .i64) (.cons .str vR)))
@[reducible] def vT:Cs:=.cons (.int .i64) (.cons (.int .i64) (.cons (.int .i64) (.cons (.int .i64) (.one (.sl u5)))))
@[reducible] def vU:Cs:=.cons (.int .i64) (.cons (.sl (.one (.int .u8))) (.cons (.int .i64) (.cons (.int .i64) (.cons (.int .i64) (.cons (.int .i64) (.cons (.int .i64) (.cons (.sl u5) (.cons (.int .i64) (.cons .str (.cons (.sl vV) (.cons (.sl uo) (.cons (.sl uU) (.cons (.sl tU) (.cons (.int .i64) (.cons (.int .i64) (.cons (.int .i64) (.cons (.int .i64) (.cons (.int .i64) (.cons (.int .i64) tU)))))))))))))))))))
@[reducible] def uN:Cs:=.cons (.int .i64) (.cons .str (.cons (.sl vV) (.cons (.sl uo) (.cons (.sl uU) (.cons (.sl tU) (.cons (.int .i64) (.cons (.int .i64) (.cons (.int .i64) (.cons (.int .i64) (.cons (.int .i64) (.cons .str (.cons (.sl vU) (.cons (.int .i64) tU)))))))))))))
@[reducible] def yA:Cs:=.cons (.sl (.one (.int .u8))) (.cons (.int .i64) uD)
@[reducible] def xE:Cs:=.cons (.int .i64) (.cons (.int .i64) (.cons (.int .i64) (.cons (.int .i64) (.cons (.int .i64) (.one (.sl u5))))))
abbrev zz:Type:=Int×Int×Int×Int×Int
abbrev Pt:Type:=Bool×Int×Bool×Int×Int×Int×Int×Int
abbrev tZ:Type:=Int×Int×Int×Int×Bool
abbrev ua:Type:=Int×Int×Int
abbrev ve:Type:=List ua×List Int
abbrev tO:Type:=Int×List UInt8×List Pt×List tZ×List ua×List Int×Int×Int×Int×Int×Int
abbrev wJ:Type:=Int×Int×List UInt8×List Int
abbrev tQ:Type:=List Int×Int×Int×List UInt8×List Int
abbrev um:Type:=Int×Int×Int×Int×List tQ
abbrev ur:Type:=Int×List Int×Int×Int×Int×Int×Int×List tQ×Int×List UInt8×List Pt×List tZ×List ua×List Int×Int×Int×Int×Int×Int×Int×Int
abbrev ue:Type:=Int×List UInt8×List Pt×List tZ×List ua×List Int×Int×Int×Int×Int×Int×List UInt8×List ur×Int×Int
abbrev wa:Type:=List Int×Int×Bool
abbrev vB:Type:=Int×Int×Int×Int×Int×List tQ
def tis:List (Nat×ul):=[(2,⟨false,.one (.int .i64),[],0⟩),
 (3,⟨false,.one (.int .i64),[],0⟩),
 (4,⟨false,.one .bool,[],0⟩),
 (5,⟨false,.one (.int .u8),[],0⟩),
 (6,⟨false,.one (.int .u8),[],0⟩),
 (9,⟨false,.one .str,[],0⟩),
 (10,⟨false,.one .str,[],0⟩),
 (11,⟨false,.one .str,[],0⟩),
 (12,⟨false,.one (.int .u64),[],0⟩),
 (21,⟨false,.one (.int .i32),[],0⟩),
 (22,⟨false,.one (.sl (.one (.int .u8))),[],5⟩),
 (24,⟨false,.one (.sl vV),[],239⟩),
 (25,⟨false,.one (.sl uo),[],320⟩),
 (26,⟨false,.one (.sl uU),[],322⟩),
 (27,⟨false,.one (.sl tU),[],3⟩),
 (28,⟨true,wy,[(26,0),(27,1)],0⟩),
 (29,⟨true,wy,[(26,0),(27,1)],0⟩),
 (30,⟨true,uc,[(3,0),(9,1),(24,2),(25,3),(29,4),(3,6),(3,7),(3,8),(3,9),(3,10)],0⟩),
 (31,⟨true,uc,[(3,0),(9,1),(24,2),(25,3),(29,4),(3,6),(3,7),(3,8),(3,9),(3,10)],0⟩),
 (32,⟨false,.one (.sl vU),[],148⟩),
 (33,⟨true,uN,[(31,0),(9,11),(32,12),(3,13),(3,14)],0⟩),
 (34,⟨true,uN,[(31,0),(9,11),(32,12),(3,13),(3,14)],0⟩),
 (39,⟨false,.one (.sl u5),[],209⟩),
 (40,⟨true,vT,[(3,0),(3,1),(3,2),(3,3),(39,4)],0⟩),
 (41,⟨true,vT,[(3,0),(3,1),(3,2),(3,3),(39,4)],0⟩),
 (44,⟨false,.one (.sl xE),[],49⟩),
 (48,⟨true,xE,[(3,0),(41,1)],0⟩),
 (49,⟨true,xE,[(3,0),(41,1)],0⟩),
 (50,⟨false,.one (.sl uc),[],83⟩),
 (51,⟨false,.one (.sl (.cons (.int .i64) (.cons (.int .i64) (.cons (.int .i64) tU)))),[],232⟩),
 (52,⟨false,.one (.sl (.cons (.int .i64) (.cons .bool (.cons (.int .i64) (.cons (.int .i64) (.cons (.int .i64) (.cons (.int .i64) tU))))))),[],237⟩),
 (53,⟨true,.cons (.sl uc) (.cons (.sl (.cons (.int .i64) (.cons (.int .i64) (.cons (.int .i64) tU)))) (.one (.sl (.cons (.int .i64) (.cons .bool (.cons (.int .i64) (.cons (.int .i64) (.cons (.int .i64) (.cons (.int .i64) tU))))))))),[(50,0),(51,1),(52,2)],0⟩),
 (54,⟨true,.cons (.sl uc) (.cons (.sl (.cons (.int .i64) (.cons (.int .i64) (.cons (.int .i64) tU)))) (.one (.sl (.cons (.int .i64) (.cons .bool (.cons (.int .i64) (.cons (.int .i64) (.cons (.int .i64) (.cons (.int .i64) tU))))))))),[(50,0),(51,1),(52,2)],0⟩),
 (55,⟨true,.cons (.int .i64) (.cons (.int .i64) (.cons (.int .i64) vd)),[(3,0),(3,1),(3,2),(22,3)],0⟩),
 (56,⟨true,.cons (.int .i64) (.cons (.int .i64) (.cons (.int .i64) vd)),[(3,0),(3,1),(3,2),(22,3)],0⟩),
 (59,⟨false,.one (.sl uc),[],31⟩),
 (60,⟨false,.one (.sl (.cons (.int .i64) (.cons (.int .i64) (.cons (.int .i64) tU)))),[],230⟩),
 (61,⟨false,.one (.sl (.cons (.int .i64) (.cons .bool (.cons (.int .i64) (.cons (.int .i64) (.cons (.int .i64) (.cons (.int .i64) tU))))))),[],234⟩),
 (62,⟨true,.cons (.sl uc) (.cons (.sl (.cons (.int .i64) (.cons (.int .i64) (.cons (.int .i64) tU)))) (.one (.sl (.cons (.int .i64) (.cons .bool (.cons (.int .i64) (.cons (.int .i64) (.cons (.int .i64) (.cons (.int .i64) tU))))))))),[(59,0),(60,1),(61,2)],0⟩),
 (63,⟨true,.cons (.sl uc) (.cons (.sl (.cons (.int .i64) (.cons (.int .i64) (.cons (.int .i64) tU)))) (.one (.sl (.cons (.int .i64) (.cons .bool (.cons (.int .i64) (.cons (.int .i64) (.cons (.int .i64) (.cons (.int .i64) tU))))))))),[(59,0),(60,1),(61,2)],0⟩),
 (64,⟨false,.one (.sl (.cons (.int .i64) (.cons (.int .i64) (.cons (.int .i64) (.cons (.int .i64) (.cons (.int .i64) vd)))))),[],169⟩),
 (68,⟨true,.cons (.int .i64) (.cons (.int .i64) (.cons (.int .i64) vd)),[(3,0),(3,1),(3,2),(22,3)],0⟩),
 (77,⟨false,.one (.sl vV),[],332⟩),
 (78,⟨false,.one (.sl uo),[],334⟩),
 (79,⟨false,.one (.sl uU),[],372⟩),
 (80,⟨true,wy,[(79,0),(27,1)],0⟩),
 (81,⟨true,wy,[(79,0),(27,1)],0⟩),
 (82,⟨true,uc,[(3,0),(9,1),(77,2),(78,3),(81,4),(3,6),(3,7),(3,8),(3,9),(3,10)],0⟩),
 (83,⟨true,uc,[(3,0),(9,1),(77,2),(78,3),(81,4),(3,6),(3,7),(3,8),(3,9),(3,10)],0⟩),
 (84,⟨false,.one (.sl vU),[],263⟩),
 (85,⟨true,uN,[(83,0),(9,11),(84,12),(3,13),(3,14)],0⟩),
 (86,⟨true,uN,[(83,0),(9,11),(84,12),(3,13),(3,14)],0⟩),
 (94,⟨true,yD,[(3,0),(3,1),(3,2),(3,3),(3,4)],0⟩),
 (95,⟨true,yD,[(3,0),(3,1),(3,2),(3,3),(3,4)],0⟩),
 (96,⟨true,.cons (.int .i64) (.cons (.int .i64) (.cons .bool (.cons (.sl (.one (.int .u8))) (.cons (.int .i64) (.cons (.int .i64) (.cons (.int .i64) (.cons (.sl (.one (.int .u8))) (.cons (.int .i64) (.cons (.int .i64) (.cons (.int .i64) (.cons (.int .i64) tU))))))))))),[(3,0),(3,1),(4,2),(22,3),(56,4),(95,8)],0⟩),
 (97,⟨true,.cons (.int .i64) (.cons (.int .i64) (.cons .bool (.cons (.sl (.one (.int .u8))) (.cons (.int .i64) (.cons (.int .i64) (.cons (.int .i64) (.cons (.sl (.one (.int .u8))) (.cons (.int .i64) (.cons (.int .i64) (.cons (.int .i64) (.cons (.int .i64) tU))))))))))),[(3,0),(3,1),(4,2),(22,3),(56,4),(95,8)],0⟩),
 (99,⟨false,.one (.sl (.cons (.int .i64) (.cons (.int .i64) (.cons (.int .i64) (.cons (.int .i64) vd))))),[],194⟩),
 (102,⟨true,yD,[(3,0),(3,1),(3,2),(3,3),(3,4)],0⟩),
 (103,⟨true,.cons (.int .i64) (.cons (.int .i64) (.cons .bool (.cons (.sl (.one (.int .u8))) (.cons (.int .i64) (.cons (.int .i64) (.cons (.int .i64) (.cons (.sl (.one (.int .u8))) (.cons (.int .i64) (.cons (.int .i64) (.cons (.int .i64) (.cons (.int .i64) tU))))))))))),[(3,0),(3,1),(4,2),(22,3),(68,4),(102,8)],0⟩),
 (104,⟨true,.cons (.int .i64) (.cons (.int .i64) (.cons .bool (.cons (.sl (.one (.int .u8))) (.cons (.int .i64) (.cons (.int .i64) (.cons (.int .i64) (.cons (.sl (.one (.int .u8))) (.cons (.int .i64) (.cons (.int .i64) (.cons (.int .i64) (.cons (.int .i64) tU))))))))))),[(3,0),(3,1),(4,2),(22,3),(68,4),(102,8)],0⟩),
 (111,⟨false,.one (.sl (.cons (.int .i64) (.cons (.int .i64) (.cons .bool (.cons (.sl (.one (.int .u8))) (.cons (.int .i64) (.cons (.int .i64) (.cons (.int .i64) (.cons (.sl (.one (.int .u8))) (.cons (.int .i64) (.cons (.int .i64) (.cons (.int .i64) (.cons (.int .i64) tU))))))))))))),[],97⟩),
 (114,⟨false,.one (.sl (.cons (.int .i64) (.cons (.int .i64) (.cons .bool (.cons (.sl (.one (.int .u8))) (.cons (.int .i64) (.cons (.int .i64) (.cons (.int .i64) (.cons (.sl (.one (.int .u8))) (.cons (.int .i64) (.cons (.int .i64) (.cons (.int .i64) (.cons (.int .i64) tU))))))))))))),[],104⟩),
 (125,⟨false,.one (.sl Pl),[],9⟩),
 (137,⟨true,yA,[(22,0),(3,1),(4,2)],0⟩),
 (138,⟨true,yA,[(22,0),(3,1),(4,2)],0⟩),
 (147,⟨true,vU,[(3,0),(22,1),(3,2),(41,3),(31,8),(3,19),(3,20)],0⟩),
 (148,⟨true,vU,[(3,0),(22,1),(3,2),(41,3),(31,8),(3,19),(3,20)],0⟩),
 (154,⟨false,.one (.sl (.cons (.int .i64) (.cons (.int .i64) (.cons (.int .i64) (.cons (.int .i64) (.cons (.int .i64) vd)))))),[],227⟩),
 (155,⟨true,.cons (.sl uc) (.cons (.sl (.cons (.int .i64) (.cons (.int .i64) (.cons (.int .i64) tU)))) (.cons (.sl (.cons (.int .i64) (.cons .bool (.cons (.int .i64) (.cons (.int .i64) (.cons (.int .i64) (.cons (.int .i64) tU))))))) (.cons (.sl (.cons (.int .i64) (.cons (.int .i64) (.cons (.int .i64) (.cons (.int .i64) (.cons (.int .i64) vd)))))) (.cons (.sl (.cons (.int .i64) (.cons (.int .i64) (.cons (.int .i64) (.cons (.int .i64) (.cons (.int .i64) vd)))))) (.cons (.sl tU) tU))))),[(63,0),(154,3),(64,4),(27,5),(3,6)],0⟩),
 (156,⟨true,.cons (.sl uc) (.cons (.sl (.cons (.int .i64) (.cons (.int .i64) (.cons (.int .i64) tU)))) (.cons (.sl (.cons (.int .i64) (.cons .bool (.cons (.int .i64) (.cons (.int .i64) (.cons (.int .i64) (.cons (.int .i64) tU))))))) (.cons (.sl (.cons (.int .i64) (.cons (.int .i64) (.cons (.int .i64) (.cons (.int .i64) (.cons (.int .i64) vd)))))) (.cons (.sl (.cons (.int .i64) (.cons (.int .i64) (.cons (.int .i64) (.cons (.int .i64) (.cons (.int .i64) vd)))))) (.cons (.sl tU) tU))))),[(63,0),(154,3),(64,4),(27,5),(3,6)],0⟩),
 (168,⟨true,.cons (.int .i64) (.cons (.int .i64) (.cons (.int .i64) (.cons (.int .i64) (.cons (.int .i64) vd)))),[(3,0),(3,1),(68,2)],0⟩),
 (169,⟨true,.cons (.int .i64) (.cons (.int .i64) (.cons (.int .i64) (.cons (.int .i64) (.cons (.int .i64) vd)))),[(3,0),(3,1),(68,2)],0⟩),
 (193,⟨true,.cons (.int .i64) (.cons (.int .i64) (.cons (.int .i64) (.cons (.int .i64) vd))),[(3,0),(68,1)],0⟩),
 (194,⟨true,.cons (.int .i64) (.cons (.int .i64) (.cons (.int .i64) (.cons (.int .i64) vd))),[(3,0),(68,1)],0⟩),
 (196,⟨true,.cons (.sl (.one (.int .u8))) (.cons (.int .i64) tU),[(22,0),(3,1),(3,2)],0⟩),
 (197,⟨true,.cons (.sl (.one (.int .u8))) (.cons (.int .i64) tU),[(22,0),(3,1),(3,2)],0⟩),
 (205,⟨true,xQ,[(3,0),(3,1),(9,2),(27,3)],0⟩),
 (206,⟨true,xQ,[(3,0),(3,1),(9,2),(27,3)],0⟩),
 (208,⟨true,u5,[(27,0),(206,1)],0⟩),
 (209,⟨true,u5,[(27,0),(206,1)],0⟩),
 (210,⟨false,.one (.int .u64),[],0⟩),
 (226,⟨true,.cons (.int .i64) (.cons (.int .i64) (.cons (.int .i64) (.cons (.int .i64) (.cons (.int .i64) vd)))),[(3,0),(3,1),(68,2)],0⟩),
 (227,⟨true,.cons (.int .i64) (.cons (.int .i64) (.cons (.int .i64) (.cons (.int .i64) (.cons (.int .i64) vd)))),[(3,0),(3,1),(68,2)],0⟩),
 (229,⟨true,.cons (.int .i64) (.cons (.int .i64) (.cons (.int .i64) tU)),[(3,0),(3,1),(3,2),(3,3)],0⟩),
 (230,⟨true,.cons (.int .i64) (.cons (.int .i64) (.cons (.int .i64) tU)),[(3,0),(3,1),(3,2),(3,3)],0⟩),
 (232,⟨true,.cons (.int .i64) (.cons (.int .i64) (.cons (.int .i64) tU)),[(3,0),(3,1),(3,2),(3,3)],0⟩),
 (233,⟨true,.cons (.int .i64) (.cons .bool (.cons (.int .i64) (.cons (.int .i64) (.cons (.int .i64) (.cons (.int .i64) tU))))),[(3,0),(4,1),(102,2)],0⟩),
 (234,⟨true,.cons (.int .i64) (.cons .bool (.cons (.int .i64) (.cons (.int .i64) (.cons (.int .i64) (.cons (.int .i64) tU))))),[(3,0),(4,1),(102,2)],0⟩),
 (236,⟨true,.cons (.int .i64) (.cons .bool (.cons (.int .i64) (.cons (.int .i64) (.cons (.int .i64) (.cons (.int .i64) tU))))),[(3,0),(4,1),(95,2)],0⟩),
 (237,⟨true,.cons (.int .i64) (.cons .bool (.cons (.int .i64) (.cons (.int .i64) (.cons (.int .i64) (.cons (.int .i64) tU))))),[(3,0),(4,1),(95,2)],0⟩),
 (238,⟨true,vV,[(4,0),(3,1),(4,2),(102,3)],0⟩),
 (239,⟨true,vV,[(4,0),(3,1),(4,2),(102,3)],0⟩),
 (243,⟨true,.cons (.int .i64) (.cons (.int .i64) (.cons (.int .i64) (.cons (.int .i64) (.cons (.int .i64) vd)))),[(3,0),(3,1),(68,2)],0⟩),
 (244,⟨true,.cons (.int .i64) (.cons (.int .i64) (.cons (.int .i64) (.cons (.int .i64) (.cons (.int .i64) vd)))),[(3,0),(3,1),(68,2)],0⟩),
 (245,⟨false,.one (.sl (.cons (.int .i64) (.cons (.int .i64) (.cons (.int .i64) (.cons (.int .i64) (.cons (.int .i64) vd)))))),[],244⟩),
 (259,⟨false,.one (.sl u5),[],392⟩),
 (260,⟨true,vT,[(3,0),(3,1),(3,2),(3,3),(259,4)],0⟩),
 (261,⟨true,vT,[(3,0),(3,1),(3,2),(3,3),(259,4)],0⟩),
 (262,⟨true,vU,[(3,0),(22,1),(3,2),(261,3),(83,8),(3,19),(3,20)],0⟩),
 (263,⟨true,vU,[(3,0),(22,1),(3,2),(261,3),(83,8),(3,19),(3,20)],0⟩),
 (301,⟨false,.one (.int .i8),[],0⟩),
 (319,⟨true,uo,[(3,0),(3,1),(3,2),(3,3),(4,4)],0⟩),
 (320,⟨true,uo,[(3,0),(3,1),(3,2),(3,3),(4,4)],0⟩),
 (321,⟨true,uU,[(3,0),(3,1),(3,2)],0⟩),
 (322,⟨true,uU,[(3,0),(3,1),(3,2)],0⟩),
 (331,⟨true,vV,[(4,0),(3,1),(4,2),(95,3)],0⟩),
 (332,⟨true,vV,[(4,0),(3,1),(4,2),(95,3)],0⟩),
 (334,⟨true,uo,[(3,0),(3,1),(3,2),(3,3),(4,4)],0⟩),
 (366,⟨true,yA,[(22,0),(3,1),(4,2)],0⟩),
 (367,⟨true,yA,[(22,0),(3,1),(4,2)],0⟩),
 (372,⟨true,uU,[(3,0),(3,1),(3,2)],0⟩),
 (387,⟨false,.one (.sl vR),[],27⟩),
 (390,⟨true,xQ,[(3,0),(3,1),(9,2),(27,3)],0⟩),
 (391,⟨true,u5,[(27,0),(390,1)],0⟩),
 (392,⟨true,u5,[(27,0),(390,1)],0⟩),
 (417,⟨false,.one (.int .u32),[],0⟩),
 (418,⟨false,.one (.int .u8),[],0⟩),
 (419,⟨false,.one (.int .u8),[],0⟩),
 (422,⟨false,.one (.int .i32),[],0⟩),
 (423,⟨false,.one (.int .i32),[],0⟩)]
theorem tisT:wh Tryz.prog tis:=wh.of_all (by kernel_rfl)
theorem Tt:Jv Tryz.prog tis:=Jv.of_all (by kernel_rfl)
theorem tisD:Deep Tryz.prog tis:=Deep.of_all (by kernel_rfl)
theorem zN:Tryz.prog.follows .mixedOrders=true:=by kernel_rfl
def vL (fn:Func):Code:=match fn.body with|some c=>c|none=>.skip
theorem qn:wN Tryz.prog ⟨tis,[],[],false⟩:=⟨tisT,Tt,(λf F h=>by cases h),(λf M h=>by cases h),(λh=>by cases h)⟩
theorem TX {l : List (FuncId×Fn)} (g : wN Tryz.prog ⟨tis, l, [], false⟩) (n : FuncId) (f : Func) (ann : List (Nat×tY)) (F : Fn) (h1 : Tryz.prog.funcs[n]?=some f) (h2 : (f.name == "runtime.NumGoroutine")=false := by kernel_rfl) (h3 : f.body=some (vL f) := by kernel_rfl) (h4 : Fz ⟨tis, l, [], false⟩ ann f (vL f) F.ps F.rs=F.den := by kernel_rfl) : Bz Tryz.prog n F := by
 have h:=JS (ann:=ann) (ps:=F.ps) (rs:=F.rs) g zN h1 h2 h3;rw[h4]at h;exact h
abbrev FL:=List (FuncId×Fn)
def Gd (l:FL):Prop:=wN Tryz.prog ⟨tis,l,[],false⟩
theorem tX {l : List (FuncId×Fn)} (g : Gd l) (n : FuncId) (f : Func) (ann : List (Nat×tY)) {F : Fn} (h1 : Tryz.prog.funcs[n]?=some f) (h2 : (f.name == "runtime.NumGoroutine")=false := by kernel_rfl) (h3 : f.body=some (vL f) := by kernel_rfl) (h4 : Fz ⟨tis, l, [], false⟩ ann f (vL f) F.ps F.rs=F.den := by kernel_rfl) : Gd ((n, F)::l) := wN.cons g (TX g n f ann F h1 h2 h3 h4)
def gW (a0:List Pt) (left1:Int):Option Int :=
 let left1_1:=tP (left1-(a0.length:Int))
 cond (decide (left1_1<0)) (some (-1)) (some left1_1)
def lf:FL:=(172,⟨[.val false (.one (.sl vV)) false,.val false tU false],[.val false tU (some true)],λa=>gW a.1 a.2⟩)::[]
theorem qo:Gd lf:=tX qn 172 Tryz.f172 [] Tryz.func172
def gX (a0:List tZ) (left1:Int):Option Int :=
 let left1_1:=tP (left1-(a0.length:Int))
 cond (decide (left1_1<0)) (some (-1)) (some left1_1)
def lg:FL:=(173,⟨[.val false (.one (.sl uo)) false,.val false tU false],[.val false tU (some true)],λa=>gX a.1 a.2⟩)::lf
theorem qp:Gd lg:=tX qo 173 Tryz.f173 [] Tryz.func173
def gY (a0:List ua) (left1:Int):Option Int :=
 let left1_1:=tP (left1-(a0.length:Int))
 cond (decide (left1_1<0)) (some (-1)) (some left1_1)
def lh:FL:=(261,⟨[.val false (.one (.sl uU)) false,.val false tU false],[.val false tU (some true)],λa=>gY a.1 a.2⟩)::lg
theorem qq:Gd lh:=tX qp 261 Tryz.f261 [] Tryz.func261
def ei (a0:List Int) (left1:Int):Option Int :=
 let left1_1:=tP (left1-(a0.length:Int))
 cond (decide (left1_1<0)) (some (-1)) (some left1_1)
def lj:FL:=(262,⟨[.val false vR false,.val false tU false],[.val false tU (some true)],λa=>ei a.1 a.2⟩)::lh
theorem qr:Gd lj:=tX qq 262 Tryz.f262 [] Tryz.func262
def gZ (a0:ve) (left1:Int):Option Int :=
 (gY a0.1 left1).bind λt8 =>
 cond (decide (t8<0))
 (some (-1))
 ((ei a0.2 t8).bind λt14 =>
 cond (decide (t14<0)) (some (-1)) (some t14))
def lk:FL:=(174,⟨[.val true wy false,.val false tU false],[.val false tU (some true)],λa=>gZ a.1 a.2⟩)::lj
theorem qs:Gd lk:=tX qr 174 Tryz.f174 [] Tryz.func174
def fN (a0:tO) (left1:Int):Option Int :=
 let left1_1:=tP (left1-(a0.2.1.length:Int))
 cond (decide (left1_1<0))
 (some (-1))
 ((gW a0.2.2.1 left1_1).bind λt15 =>
 cond (decide (t15<0))
 (some (-1))
 ((gX a0.2.2.2.1 t15).bind λt21 =>
 cond (decide (t21<0))
 (some (-1))
 ((gZ (a0.2.2.2.2.1,a0.2.2.2.2.2.1) t21).bind λt27 =>
 cond (decide (t27<0)) (some (-1)) (some t27))))
def ll:FL:=(103,⟨[.val true uc false,.val false tU false],[.val false tU (some true)],λa=>fN a.1 a.2⟩)::lk
theorem qt:Gd ll:=tX qs 103 Tryz.f103 [] Tryz.func103
def hC (a0:List Int) (left1:Int):Option Int :=
 let left1_1:=tP (left1-(a0.length:Int))
 cond (decide (left1_1<0)) (some (-1)) (some left1_1)
def lm:FL:=(81,⟨[.val false vd false,.val false tU false],[.val false tU (some true)],λa=>hC a.1 a.2⟩)::ll
theorem qu:Gd lm:=tX qt 81 Tryz.f81 [] Tryz.func81
def hN (a0:wJ) (left1:Int):Option Int :=
 let left1_1:=tP (left1-(a0.2.2.1.length:Int))
 cond (decide (left1_1<0))
 (some (-1))
 ((ei a0.2.2.2 left1_1).bind λt15 =>
 cond (decide (t15<0)) (some (-1)) (some t15))
def ln:FL:=(379,⟨[.val true xQ false,.val false tU false],[.val false tU (some true)],λa=>hN a.1 a.2⟩)::lm
theorem qv:Gd ln:=tX qu 379 Tryz.f379 [] Tryz.func379
def fO (a0:tQ) (left1:Int):Option Int :=
 (ei a0.1 left1).bind λt8 =>
 cond (decide (t8<0))
 (some (-1))
 ((hN a0.2 t8).bind λt14 =>
 cond (decide (t14<0)) (some (-1)) (some t14))
def lp:FL:=(363,⟨[.val true u5 false,.val false tU false],[.val false tU (some true)],λa=>fO a.1 a.2⟩)::ln
theorem qw:Gd lp:=tX qv 363 Tryz.f363 [] Tryz.func363
def lq (a0:List tQ) (left1_2:Int) (i5:Int):Option ((Int×Int)⊕(Int⊕Int)) :=
 cond (decide (i5<(a0.length:Int)))
 ((at? a0 i5).bind λx20 =>
 (fO x20 left1_2).bind λt23 =>
 cond (decide (t23<0)) (some (.inr (.inr (-1)))) (some (.inl (t23,tP (i5+1)))))
 (some (.inr (.inl left1_2)))
def hO (a0:List tQ) (left1:Int):Option Int :=
 let left1_1:=tP (left1-(a0.length:Int))
 cond (decide (left1_1<0))
 (some (-1))
 ((loop (λz=>lq a0 z.1 z.2) (left1_1,0)).bind (Sum.elim (λd =>
 some d) (λr=>some r)))
def lr:FL:=(328,⟨[.val false (.one (.sl u5)) false,.val false tU false],[.val false tU (some true)],λa=>hO a.1 a.2⟩)::lp
theorem qx:Gd lr:=tX qw 328 Tryz.f328 [(0,⟨⟨[(1,false,[dI]),(5,false,[dI])],[]⟩,
 ⟨[(1,false,[dI])],[]⟩,some ⟨[(4,false,[dI])],[]⟩⟩)] Tryz.func328
def hU (a0:um) (left1:Int):Option Int :=
 (hO a0.2.2.2.2 left1).bind λt8 =>
 cond (decide (t8<0)) (some (-1)) (some t8)
def lu:FL:=(263,⟨[.val true vT false,.val false tU false],[.val false tU (some true)],λa=>hU a.1 a.2⟩)::lr
theorem qy:Gd lu:=tX qx 263 Tryz.f263 [] Tryz.func263
def fP (a0:ur) (left1:Int):Option Int :=
 (hC a0.2.1 left1).bind λt8 =>
 cond (decide (t8<0))
 (some (-1))
 ((hU (a0.2.2.2.1,a0.2.2.2.2.1,a0.2.2.2.2.2.1,a0.2.2.2.2.2.2.1,a0.2.2.2.2.2.2.2.1) t8).bind λt14 =>
 cond (decide (t14<0))
 (some (-1))
 ((fN (a0.2.2.2.2.2.2.2.2.1,a0.2.2.2.2.2.2.2.2.2.1,a0.2.2.2.2.2.2.2.2.2.2.1,a0.2.2.2.2.2.2.2.2.2.2.2.1,a0.2.2.2.2.2.2.2.2.2.2.2.2.1,a0.2.2.2.2.2.2.2.2.2.2.2.2.2.1,a0.2.2.2.2.2.2.2.2.2.2.2.2.2.2.1,a0.2.2.2.2.2.2.2.2.2.2.2.2.2.2.2.1,a0.2.2.2.2.2.2.2.2.2.2.2.2.2.2.2.2.1,a0.2.2.2.2.2.2.2.2.2.2.2.2.2.2.2.2.2.1,a0.2.2.2.2.2.2.2.2.2.2.2.2.2.2.2.2.2.2.1) t14).bind λt20 =>
 cond (decide (t20<0)) (some (-1)) (some t20)))
def lv:FL:=(175,⟨[.val true vU false,.val false tU false],[.val false tU (some true)],λa=>fP a.1 a.2⟩)::lu
theorem qz:Gd lv:=tX qy 175 Tryz.f175 [] Tryz.func175
def lw (a0:List ur) (left1_2:Int) (i5:Int):Option ((Int×Int)⊕(Int⊕Int)) :=
 cond (decide (i5<(a0.length:Int)))
 ((at? a0 i5).bind λx20 =>
 (fP x20 left1_2).bind λt23 =>
 cond (decide (t23<0)) (some (.inr (.inr (-1)))) (some (.inl (t23,tP (i5+1)))))
 (some (.inr (.inl left1_2)))
def hZ (a0:List ur) (left1:Int):Option Int :=
 let left1_1:=tP (left1-(a0.length:Int))
 cond (decide (left1_1<0))
 (some (-1))
 ((loop (λz=>lw a0 z.1 z.2) (left1_1,0)).bind (Sum.elim (λd =>
 some d) (λr=>some r)))
def lz:FL:=(104,⟨[.val false (.one (.sl vU)) false,.val false tU false],[.val false tU (some true)],λa=>hZ a.1 a.2⟩)::lv
theorem qA:Gd lz:=tX qz 104 Tryz.f104 [(0,⟨⟨[(1,false,[dI]),(5,false,[dI])],[]⟩,
 ⟨[(1,false,[dI])],[]⟩,some ⟨[(4,false,[dI])],[]⟩⟩)] Tryz.func104
def gV (a0:ue) (left1:Int):Option Int :=
 (fN (a0.1,a0.2.1,a0.2.2.1,a0.2.2.2.1,a0.2.2.2.2.1,a0.2.2.2.2.2.1,a0.2.2.2.2.2.2.1,a0.2.2.2.2.2.2.2.1,a0.2.2.2.2.2.2.2.2.1,a0.2.2.2.2.2.2.2.2.2.1,a0.2.2.2.2.2.2.2.2.2.2.1) left1).bind λt8 =>
 cond (decide (t8<0))
 (some (-1))
 (let left1_1:=tP (t8-(a0.2.2.2.2.2.2.2.2.2.2.2.1.length:Int))
 cond (decide (left1_1<0))
 (some (-1))
 ((hZ a0.2.2.2.2.2.2.2.2.2.2.2.2.1 left1_1).bind λt21 =>
 cond (decide (t21<0)) (some (-1)) (some t21)))
def lA:FL:=(29,⟨[.val true uN false,.val false tU false],[.val false tU (some true)],λa=>gV a.1 a.2⟩)::lz
theorem qB:Gd lA:=tX qA 29 Tryz.f29 [] Tryz.func29
def fQ (l0:List tZ):Option (List tZ) :=
 (ut ([]:List tZ) l0).bind λzs5 =>
 some zs5
def lB:FL:=(264,⟨[.val false (.one (.sl uo)) false],[.val false (.one (.sl uo)) (some true)],λa=>fQ a⟩)::lA
theorem qC:Gd lB:=tX qB 264 Tryz.f264 [] Tryz.func264
def fR (v0:ve):Option ve :=
 (ut ([]:List ua) v0.1).bind λzs6 =>
 (ut ([]:List Int) v0.2).bind λzs10 =>
 some (zs6,zs10)
def lC:FL:=(265,⟨[.val true wy false],[.val true wy (some true)],λa=>fR a⟩)::lB
theorem qD:Gd lC:=tX qC 265 Tryz.f265 [] Tryz.func265
def ak (b0:tO):Option tO :=
 (ut ([]:List Pt) b0.2.2.1).bind λzs8 =>
 (fQ b0.2.2.2.1).bind λt12 =>
 (fR (b0.2.2.2.2.1,b0.2.2.2.2.2.1)).bind λt16 =>
 some (b0.1,b0.2.1,zs8,t12,t16.1,t16.2,b0.2.2.2.2.2.2.1,b0.2.2.2.2.2.2.2.1,b0.2.2.2.2.2.2.2.2.1,b0.2.2.2.2.2.2.2.2.2.1,b0.2.2.2.2.2.2.2.2.2.2)
def lD:FL:=(176,⟨[.val true uc false],[.val true uc (some true)],λa=>ak a⟩)::lC
theorem qE:Gd lD:=tX qD 176 Tryz.f176 [] Tryz.func176
def cQ (l0:List tQ) (i4:Int) (out3:List tQ):Option ((Int×List tQ)⊕(List tQ)) :=
 cond (decide (i4<(l0.length:Int)))
 ((at? l0 i4).bind λx15 =>
 (ut ([]:List Int) x15.2.2.2.2).bind λzs21 =>
 (at? l0 i4).bind λx27 =>
 (ut ([]:List Int) x27.1).bind λzs30 =>
 (ut out3 [(zs30,x15.2.1,x15.2.2.1,x15.2.2.2.1,zs21)]).bind λzs34 =>
 some (.inl (tP (i4+1),zs34)))
 (some (.inr out3))
def cc (l0:List tQ):Option (List tQ) :=
 (loop (λz=>cQ l0 z.1 z.2) (0,([]:List tQ))).bind λd =>
 some d
def lE:FL:=(266,⟨[.val false (.one (.sl u5)) false],[.val false (.one (.sl u5)) (some true)],λa=>cc a⟩)::lD
theorem qF:Gd lE:=tX qE 266 Tryz.f266 [(0,⟨⟨[(3,false,[.own 1000000000]),(4,false,[dI])],[(1000000000,.root u5 true)]⟩,
 ⟨[(3,false,[.own 1000000300])],[(1000000300,.root u5 true)]⟩,none⟩)] Tryz.func266
def ej (p0:um):Option um :=
 (cc p0.2.2.2.2).bind λt7 =>
 some (p0.1,p0.2.1,p0.2.2.1,p0.2.2.2.1,t7)
def lF:FL:=(177,⟨[.val true vT false],[.val true vT (some true)],λa=>ej a⟩)::lE
theorem qG:Gd lF:=tX qF 177 Tryz.f177 [] Tryz.func177
def em (a0:ue) (i4:Int) (b0:Int) (b1:List UInt8) (b6:Int) (b7:Int) (b8:Int) (b9:Int) (b10:Int) (b11:List UInt8) (b13:Int) (b14:Int) (b12:List ur):Option ((Int×Int×List UInt8×Int×Int×Int×Int×Int×List UInt8×Int×Int×List ur)⊕(Int×List UInt8×Int×Int×Int×Int×Int×List UInt8×Int×Int×List ur)) :=
 cond (decide (i4<(a0.2.2.2.2.2.2.2.2.2.2.2.2.1.length:Int)))
 ((at? a0.2.2.2.2.2.2.2.2.2.2.2.2.1 i4).bind λx26 =>
 (ut ([]:List Int) x26.2.1).bind λzs31 =>
 (ej (x26.2.2.2.1,x26.2.2.2.2.1,x26.2.2.2.2.2.1,x26.2.2.2.2.2.2.1,x26.2.2.2.2.2.2.2.1)).bind λt35 =>
 (ak (x26.2.2.2.2.2.2.2.2.1,x26.2.2.2.2.2.2.2.2.2.1,x26.2.2.2.2.2.2.2.2.2.2.1,x26.2.2.2.2.2.2.2.2.2.2.2.1,x26.2.2.2.2.2.2.2.2.2.2.2.2.1,x26.2.2.2.2.2.2.2.2.2.2.2.2.2.1,x26.2.2.2.2.2.2.2.2.2.2.2.2.2.2.1,x26.2.2.2.2.2.2.2.2.2.2.2.2.2.2.2.1,x26.2.2.2.2.2.2.2.2.2.2.2.2.2.2.2.2.1,x26.2.2.2.2.2.2.2.2.2.2.2.2.2.2.2.2.2.1,x26.2.2.2.2.2.2.2.2.2.2.2.2.2.2.2.2.2.2.1)).bind λt39 =>
 (ut b12 [(x26.1,zs31,x26.2.2.1,t35.1,t35.2.1,t35.2.2.1,t35.2.2.2.1,t35.2.2.2.2,t39.1,t39.2.1,t39.2.2.1,t39.2.2.2.1,t39.2.2.2.2.1,t39.2.2.2.2.2.1,t39.2.2.2.2.2.2.1,t39.2.2.2.2.2.2.2.1,t39.2.2.2.2.2.2.2.2.1,t39.2.2.2.2.2.2.2.2.2.1,t39.2.2.2.2.2.2.2.2.2.2,x26.2.2.2.2.2.2.2.2.2.2.2.2.2.2.2.2.2.2.2.1,x26.2.2.2.2.2.2.2.2.2.2.2.2.2.2.2.2.2.2.2.2)]).bind λzs45 =>
 some (.inl (tP (i4+1),b0,b1,b6,b7,b8,b9,b10,b11,b13,b14,zs45)))
 (some (.inr (b0,b1,b6,b7,b8,b9,b10,b11,b13,b14,b12)))
def fS (a0:ue):Option ue :=
 (ak (a0.1,a0.2.1,a0.2.2.1,a0.2.2.2.1,a0.2.2.2.2.1,a0.2.2.2.2.2.1,a0.2.2.2.2.2.2.1,a0.2.2.2.2.2.2.2.1,a0.2.2.2.2.2.2.2.2.1,a0.2.2.2.2.2.2.2.2.2.1,a0.2.2.2.2.2.2.2.2.2.2.1)).bind λt8 =>
 (loop (λz=>em a0 z.1 z.2.1 z.2.2.1 z.2.2.2.1 z.2.2.2.2.1 z.2.2.2.2.2.1 z.2.2.2.2.2.2.1 z.2.2.2.2.2.2.2.1 z.2.2.2.2.2.2.2.2.1 z.2.2.2.2.2.2.2.2.2.1 z.2.2.2.2.2.2.2.2.2.2.1 z.2.2.2.2.2.2.2.2.2.2.2) (0,t8.1,t8.2.1,t8.2.2.2.2.2.2.1,t8.2.2.2.2.2.2.2.1,t8.2.2.2.2.2.2.2.2.1,t8.2.2.2.2.2.2.2.2.2.1,t8.2.2.2.2.2.2.2.2.2.2,a0.2.2.2.2.2.2.2.2.2.2.2.1,a0.2.2.2.2.2.2.2.2.2.2.2.2.2.1,a0.2.2.2.2.2.2.2.2.2.2.2.2.2.2,[])).bind λd =>
 some (d.1,d.2.1,t8.2.2.1,t8.2.2.2.1,t8.2.2.2.2.1,t8.2.2.2.2.2.1,d.2.2.1,d.2.2.2.1,d.2.2.2.2.1,d.2.2.2.2.2.1,d.2.2.2.2.2.2.1,d.2.2.2.2.2.2.2.1,d.2.2.2.2.2.2.2.2.2.2,d.2.2.2.2.2.2.2.2.1,d.2.2.2.2.2.2.2.2.2.1)
def lG:FL:=(105,⟨[.val true uN false],[.val true uN (some true)],λa=>fS a⟩)::lF
theorem qH:Gd lG:=tX qG 105 Tryz.f105 [(0,⟨⟨[(4,false,[dI])],[(273408,.box [dI,dS,.same 265218,.same 265219,.same 265220,.same 265221,dI,dI,dI,dI,dI,dS,.own 1000000000,dI,dI]),(1000000000,.root vU true)]⟩,
 ⟨[],[(273408,.box [dI,dS,.same 265218,.same 265219,.same 265220,.same 265221,dI,dI,dI,dI,dI,dS,.own 1000000300,dI,dI]),(1000000300,.root vU true)]⟩,none⟩)] Tryz.func105
def ac (x0:Int) (least1:Int) (most2:Int):Option Bool :=
 (cond (decide (x0>=least1)) (some (decide (x0<=most2))) (some false)).bind λt14 =>
 some t14
def lH:FL:=(107,⟨[.val false tU false,.val false tU false,.val false tU false],[.val false uD (some true)],λa=>ac a.1 a.2.1 a.2.2⟩)::lG
theorem qI:Gd lH:=tX qH 107 Tryz.f107 [] Tryz.func107
def eo (v0:zz):Option Bool :=
 (ac v0.1 1 99).bind λt5 =>
 (cond t5
 ((ac v0.2.1 0 100000).bind λt9 =>
 some t9)
 (some false)).bind λt10 =>
 (cond t10
 ((ac v0.2.2.1 0 10).bind λt14 =>
 some t14)
 (some false)).bind λt15 =>
 (cond t15
 ((ac v0.2.2.2.1 1 99).bind λt19 =>
 some t19)
 (some false)).bind λt20 =>
 (cond t20
 ((ac v0.2.2.2.2 0 7).bind λt24 =>
 some t24)
 (some false)).bind λt25 =>
 some t25
def lI:FL:=(245,⟨[.val true yD false],[.val false uD (some true)],λa=>eo a⟩)::lH
theorem qJ:Gd lI:=tX qI 245 Tryz.f245 [] Tryz.func245
def ep (p0:Pt):Option Bool :=
 (ac p0.2.1 1 1000).bind λt5 =>
 (cond (!t5)
 (some true)
 ((cond (!p0.1) (some p0.2.2.1) (some false)).bind λt14 =>
 some t14)).bind λt15 =>
 cond t15
 (some false)
 (cond (!p0.2.2.1)
 (let t2:=p0.2.2.2.1==0&&(p0.2.2.2.2.1==0&&(p0.2.2.2.2.2.1==0&&(p0.2.2.2.2.2.2.1==0&&(p0.2.2.2.2.2.2.2==0))))
 some t2)
 ((eo p0.2.2.2).bind λt25 =>
 some t25))
def lJ:FL:=(268,⟨[.val true vV false],[.val false uD (some true)],λa=>ep a⟩)::lI
theorem qK:Gd lJ:=tX qJ 268 Tryz.f268 [] Tryz.func268
def fT (e0:tZ):Option Bool :=
 (ac e0.1 1 99).bind λt5 =>
 (cond t5
 ((ac e0.2.1 1 9999).bind λt9 =>
 some t9)
 (some false)).bind λt10 =>
 (cond t10
 ((ac e0.2.2.1 0 7).bind λt14 =>
 some t14)
 (some false)).bind λt15 =>
 (cond t15
 ((ac e0.2.2.2.1 0 4).bind λt19 =>
 some t19)
 (some false)).bind λt20 =>
 (cond t20
 ((cond (!e0.2.2.2.2) (some true) (some (e0.2.2.2.1==0))).bind λt29 =>
 some t29)
 (some false)).bind λt30 =>
 some t30
def lK:FL:=(292,⟨[.val true uo false],[.val false uD (some true)],λa=>fT a⟩)::lJ
theorem qL:Gd lK:=tX qK 292 Tryz.f292 [] Tryz.func292
def eq (e0:tZ) (tag1:Int) (mac2:Int):Option Bool :=
 cond (e0.1 != tag1) (some (decide (e0.1<tag1))) (some (decide (e0.2.1<mac2)))
def lL:FL:=(329,⟨[.val true uo false,.val false tU false,.val false tU false],[.val false uD (some true)],λa=>eq a.1 a.2.1 a.2.2⟩)::lK
theorem qM:Gd lL:=tX qL 329 Tryz.f329 [] Tryz.func329
def i0 (l0:List tZ) (i3:Int):Option (Int⊕(Unit⊕Bool)) :=
 cond (decide (i3<(l0.length:Int)))
 ((at? l0 i3).bind λx12 =>
 (fT x12).bind λt14 =>
 (cond (!t14)
 (some true)
 ((cond (decide (i3>0))
 ((at? l0 (tP (i3-1))).bind λx23 =>
 (at? l0 i3).bind λx27 =>
 (at? l0 i3).bind λx32 =>
 (eq x23 x27.1 x32.2.1).bind λt35 =>
 some (!t35))
 (some false)).bind λt37 =>
 some t37)).bind λt38 =>
 cond t38 (some (.inr (.inr false))) (some (.inl (tP (i3+1)))))
 (some (.inr (.inl ())))
def fU (l0:List tZ):Option Bool :=
 (loop (λz=>i0 l0 z) 0).bind (Sum.elim (λd =>
 let t2:=decide ((l0.length:Int)<=12)
 some t2) (λr=>some r))
def lM:FL:=(269,⟨[.val false (.one (.sl uo)) false],[.val false uD (some true)],λa=>fU a⟩)::lL
theorem qN:Gd lM:=tX qM 269 Tryz.f269 [(0,⟨⟨(3,false,[dI])::us 17 21 [],[]⟩,
 ⟨[],[]⟩,some ⟨[(2,false,[dB])],[]⟩⟩)] Tryz.func269
def qO (v0:ve) (id1:Int) (i5:Int):Option (Int⊕(Unit⊕Int)) :=
 cond (decide (i5<(v0.1.length:Int)))
 ((at? v0.1 i5).bind λx16 =>
 cond (x16.1==id1) (some (.inr (.inr i5))) (some (.inl (tP (i5+1)))))
 (some (.inr (.inl ())))
def ce (v0:ve) (id1:Int):Option Int :=
 (loop (λz=>qO v0 id1 z) 0).bind (Sum.elim (λd =>
 some (-1)) (λr=>some r))
def lN:FL:=(290,⟨[.val true wy false,.val false tU false],[.val false tU (some true)],λa=>ce a.1 a.2⟩)::lM
theorem qP:Gd lN:=tX qN 290 Tryz.f290 [(0,⟨⟨[(5,false,[dI])],[]⟩,
 ⟨[],[]⟩,some ⟨[(4,false,[dI])],[]⟩⟩)] Tryz.func290
def ia (p0:ve) (t27:Int) (t6:Int):Option (Int⊕(Unit⊕Bool)) :=
 cond (decide (t6<(p0.1.length:Int)))
 ((at? p0.1 t6).bind λx39 =>
 (ac x39.1 1 99).bind λt43 =>
 (cond (!t43)
 (some true)
 ((ac x39.2.1 0 (tP (t27-1))).bind λt49 =>
 some (!t49))).bind λt51 =>
 (cond t51
 (some true)
 ((ac x39.2.2 0 (tP (t27-1))).bind λt56 =>
 some (!t56))).bind λt58 =>
 (cond t58 (some true) (some ((yJ .i64 x39.2.2 x39.2.1) != x39.2.2))).bind λt68 =>
 (cond t68
 (some true)
 ((cond (decide (t6>0))
 ((at? p0.1 (tP (t6-1))).bind λx77 =>
 some (decide (x77.1>=x39.1)))
 (some false)).bind λt83 =>
 some t83)).bind λt84 =>
 cond t84 (some (.inr (.inr false))) (some (.inl (tP (t6+1)))))
 (some (.inr (.inl ())))
def lO (p0:ve) (t8:Int):Option (Int⊕(Unit⊕Bool)) :=
 cond (decide (t8<(p0.2.length:Int)))
 ((at? p0.2 t8).bind λx96 =>
 (ce p0 x96).bind λt98 =>
 cond (decide (t98<0)) (some (.inr (.inr false))) (some (.inl (tP (t8+1)))))
 (some (.inr (.inl ())))
def cR (p0:ve) (i1:Int):Option Bool :=
 (ac i1 1 6).bind λt10 =>
 (cond (!t10) (some true) (some ((p0.2.length:Int) != i1))).bind λt18 =>
 (cond t18 (some true) (some (decide ((p0.1.length:Int)>6)))).bind λt24 =>
 cond t24
 (some false)
 ((shl .i64 1 (IntKind.u64.wrap (i1))).bind λt27 =>
 (loop (λz=>ia p0 t27 z) 0).bind (Sum.elim (λd =>
 (loop (λz=>lO p0 z) 0).bind (Sum.elim (λd_1 =>
 some true) (λr=>some r))) (λr_1=>some r_1)))
def lP:FL:=(270,⟨[.val true wy false,.val false tU false],[.val false uD (some true)],λa=>cR a.1 a.2⟩)::lN
theorem qQ:Gd lP:=tX qP 270 Tryz.f270 [(0,⟨⟨(6,false,[dI])::us 46 5 (us 53 5 (us 60 8 (us 70 14 []))),[]⟩,
 ⟨[],[]⟩,some ⟨[(4,false,[dB])],[]⟩⟩),
 (2,⟨⟨[(8,false,[dI])],[]⟩,
 ⟨[],[]⟩,some ⟨[(4,false,[dB])],[]⟩⟩)] Tryz.func270
def fV (b0:tO):Option Bool :=
 (ac b0.2.2.2.2.2.2.1 0 1000000).bind λt5 =>
 (cond t5
 ((ac b0.2.2.2.2.2.2.2.1 0 1000000).bind λt9 =>
 some t9)
 (some false)).bind λt10 =>
 (cond t10
 ((ac b0.2.2.2.2.2.2.2.2.1 0 1000000).bind λt14 =>
 some t14)
 (some false)).bind λt15 =>
 (cond t15
 ((ac b0.2.2.2.2.2.2.2.2.2.1 0 1000000).bind λt19 =>
 some t19)
 (some false)).bind λt20 =>
 (cond t20
 ((ac b0.2.2.2.2.2.2.2.2.2.2 0 1000000).bind λt24 =>
 some t24)
 (some false)).bind λt25 =>
 some t25
def lQ:FL:=(271,⟨[.val true uc false],[.val false uD (some true)],λa=>fV a⟩)::lP
theorem qR:Gd lQ:=tX qQ 271 Tryz.f271 [] Tryz.func271
def ib (b0:tO) (i3:Int):Option (Int⊕(Unit⊕Bool)) :=
 cond (decide (i3<(b0.2.2.1.length:Int)))
 ((at? b0.2.2.1 i3).bind λx14 =>
 (ep x14).bind λt16 =>
 cond (!t16) (some (.inr (.inr false))) (some (.inl (tP (i3+1)))))
 (some (.inr (.inl ())))
def bn (b0:tO):Option Bool :=
 (loop (λz=>ib b0 z) 0).bind (Sum.elim (λd =>
 (ac b0.1 1 99).bind λt20 =>
 (cond t20 (some (decide ((b0.2.1.length:Int)<=10))) (some false)).bind λt26 =>
 (cond t26
 ((ac (b0.2.2.1.length:Int) 1 6).bind λt31 =>
 some t31)
 (some false)).bind λt32 =>
 (cond t32
 ((fU b0.2.2.2.1).bind λt36 =>
 some t36)
 (some false)).bind λt37 =>
 (cond t37
 ((cR (b0.2.2.2.2.1,b0.2.2.2.2.2.1) (b0.2.2.1.length:Int)).bind λt44 =>
 some t44)
 (some false)).bind λt45 =>
 (cond t45
 ((fV b0).bind λt48 =>
 some t48)
 (some false)).bind λt49 =>
 some t49) (λr=>some r))
def lR:FL:=(179,⟨[.val true uc false],[.val false uD (some true)],λa=>bn a⟩)::lQ
theorem qS:Gd lR:=tX qR 179 Tryz.f179 [(0,⟨⟨[(3,false,[dI])],[]⟩,
 ⟨[],[]⟩,some ⟨[(2,false,[dB])],[]⟩⟩)] Tryz.func179
def aS (n0:Int):Option Int :=
 cond (decide (n0>2147483647))
 (some 2147483647)
 (cond (decide (n0<(-2147483648))) (some (-2147483648)) (some n0))
def lS:FL:=(132,⟨[.val false tU false],[.val false tU (some true)],λa=>aS a⟩)::lR
theorem qT:Gd lS:=tX qS 132 Tryz.f132 [] Tryz.func132
def qU (o0:List Int) (i3:Int):Option (Int⊕(Unit⊕Bool)) :=
 cond (decide (i3<(o0.length:Int)))
 ((at? o0 i3).bind λx12 =>
 (ac x12 0 100000).bind λt14 =>
 cond (!t14) (some (.inr (.inr false))) (some (.inl (tP (i3+1)))))
 (some (.inr (.inl ())))
def bo (o0:List Int):Option Bool :=
 (loop (λz=>qU o0 z) 0).bind (Sum.elim (λd =>
 (ac (o0.length:Int) 1 10).bind λt18 =>
 some t18) (λr=>some r))
def lT:FL:=(220,⟨[.val false vR false],[.val false uD (some true)],λa=>bo a⟩)::lS
theorem qV:Gd lT:=tX qT 220 Tryz.f220 [(0,⟨⟨[(3,false,[dI])],[]⟩,
 ⟨[],[]⟩,some ⟨[(2,false,[dB])],[]⟩⟩)] Tryz.func220
def aU (p0:wJ):Option Bool :=
 cond (p0.1==5)
 (cond (p0.1==5)
 ((cond (p0.2.1==0) (some (p0.2.2.1==[])) (some false)).bind λt16 =>
 (cond t16 (some ((p0.2.2.2.length:Int)==0)) (some false)).bind λt22 =>
 some t22)
 (cond (p0.1==2)
 ((aS p0.2.1).bind λt27 =>
 (cond (t27==p0.2.1) (some (p0.2.2.1==[])) (some false)).bind λt35 =>
 (cond t35 (some ((p0.2.2.2.length:Int)==0)) (some false)).bind λt41 =>
 some t41)
 (cond (p0.1==4)
 ((cond (decide ((p0.2.2.1.length:Int)<=20)) (some (p0.2.1==0)) (some false)).bind λt52 =>
 (cond t52 (some ((p0.2.2.2.length:Int)==0)) (some false)).bind λt58 =>
 some t58)
 (cond (p0.1==6)
 ((bo p0.2.2.2).bind λt63 =>
 (cond t63 (some (p0.2.1==0)) (some false)).bind λt68 =>
 (cond t68 (some (p0.2.2.1==[])) (some false)).bind λt73 =>
 some t73)
 (some false)))))
 (cond (p0.1==128)
 (cond (p0.1==128)
 ((cond (p0.2.1==0) (some (p0.2.2.1==[])) (some false)).bind λt16_1 =>
 (cond t16_1 (some ((p0.2.2.2.length:Int)==0)) (some false)).bind λt22_1 =>
 some t22_1)
 (cond (p0.1==2)
 ((aS p0.2.1).bind λt27_1 =>
 (cond (t27_1==p0.2.1) (some (p0.2.2.1==[])) (some false)).bind λt35_1 =>
 (cond t35_1 (some ((p0.2.2.2.length:Int)==0)) (some false)).bind λt41_1 =>
 some t41_1)
 (cond (p0.1==4)
 ((cond (decide ((p0.2.2.1.length:Int)<=20)) (some (p0.2.1==0)) (some false)).bind λt52_1 =>
 (cond t52_1 (some ((p0.2.2.2.length:Int)==0)) (some false)).bind λt58_1 =>
 some t58_1)
 (cond (p0.1==6)
 ((bo p0.2.2.2).bind λt63_1 =>
 (cond t63_1 (some (p0.2.1==0)) (some false)).bind λt68_1 =>
 (cond t68_1 (some (p0.2.2.1==[])) (some false)).bind λt73_1 =>
 some t73_1)
 (some false)))))
 (cond (p0.1==130)
 ((cond (p0.2.1==0) (some (p0.2.2.1==[])) (some false)).bind λt16_2 =>
 (cond t16_2 (some ((p0.2.2.2.length:Int)==0)) (some false)).bind λt22_2 =>
 some t22_2)
 (cond (p0.1==2)
 ((aS p0.2.1).bind λt27_2 =>
 (cond (t27_2==p0.2.1) (some (p0.2.2.1==[])) (some false)).bind λt35_2 =>
 (cond t35_2 (some ((p0.2.2.2.length:Int)==0)) (some false)).bind λt41_2 =>
 some t41_2)
 (cond (p0.1==4)
 ((cond (decide ((p0.2.2.1.length:Int)<=20)) (some (p0.2.1==0)) (some false)).bind λt52_2 =>
 (cond t52_2 (some ((p0.2.2.2.length:Int)==0)) (some false)).bind λt58_2 =>
 some t58_2)
 (cond (p0.1==6)
 ((bo p0.2.2.2).bind λt63_2 =>
 (cond t63_2 (some (p0.2.1==0)) (some false)).bind λt68_2 =>
 (cond t68_2 (some (p0.2.2.1==[])) (some false)).bind λt73_2 =>
 some t73_2)
 (some false))))))
def lU:FL:=(221,⟨[.val true xQ false],[.val false uD (some true)],λa=>aU a⟩)::lT
theorem qW:Gd lU:=tX qV 221 Tryz.f221 [] Tryz.func221
def ic (k0:Int):Option Bool :=
 (cond (k0==160) (some true) (some (k0==161))).bind λt8 =>
 (cond t8 (some true) (some (k0==162))).bind λt12 =>
 (cond t12 (some true) (some (k0==163))).bind λt16 =>
 (cond t16 (some true) (some (k0==165))).bind λt20 =>
 some t20
def lV:FL:=(222,⟨[.val false tU false],[.val false uD (some true)],λa=>ic a⟩)::lU
theorem qX:Gd lV:=tX qW 222 Tryz.f222 [] Tryz.func222
def fW (p0:um) (t3:Int):Option (Int⊕(Unit⊕Bool)) :=
 cond (decide (t3<(p0.2.2.2.2.length:Int)))
 ((at? p0.2.2.2.2 t3).bind λx14 =>
 (bo x14.1).bind λt17 =>
 (cond (!t17)
 (some true)
 ((at? p0.2.2.2.2 t3).bind λx23 =>
 (aU x23.2).bind λt26 =>
 some (!t26))).bind λt28 =>
 cond t28 (some (.inr (.inr false))) (some (.inl (tP (t3+1)))))
 (some (.inr (.inl ())))
def bp (p0:um):Option Bool :=
 (loop (λz=>fW p0 z) 0).bind (Sum.elim (λd =>
 (cond (p0.1 != 162) (some (p0.1 != 165)) (some false)).bind λt36 =>
 (cond t36
 ((cond (p0.2.2.1 != 0) (some true) (some (p0.2.2.2.1 != 0))).bind λt45 =>
 some t45)
 (some false)).bind λt46 =>
 cond t46
 (some false)
 ((ic p0.1).bind λt49 =>
 (cond t49
 ((aS p0.2.1).bind λt53 =>
 some (t53==p0.2.1))
 (some false)).bind λt57 =>
 (cond t57
 ((ac p0.2.2.1 0 1000).bind λt61 =>
 some t61)
 (some false)).bind λt62 =>
 (cond t62
 ((ac p0.2.2.2.1 0 1000).bind λt66 =>
 some t66)
 (some false)).bind λt67 =>
 (cond t67 (some (decide ((p0.2.2.2.2.length:Int)<=10))) (some false)).bind λt73 =>
 some t73)) (λr=>some r))
def lW:FL:=(137,⟨[.val true vT false],[.val false uD (some true)],λa=>bp a⟩)::lV
theorem qY:Gd lW:=tX qX 137 Tryz.f137 [(0,⟨⟨(3,false,[dI])::us 20 8 [],[]⟩,
 ⟨[],[]⟩,some ⟨[(2,false,[dB])],[]⟩⟩)] Tryz.func137
def ie (p0:um):Option Bool :=
 (bp p0).bind λt4 =>
 (cond t4 (some (p0.1 != 162)) (some false)).bind λt9 =>
 some t9
def lX:FL:=(267,⟨[.val true vT false],[.val false uD (some true)],λa=>ie a⟩)::lW
theorem qZ:Gd lX:=tX qY 267 Tryz.f267 [] Tryz.func267
def eu (j0:ur) (last1:Int):Option Bool :=
 (ac j0.1 1 last1).bind λt8 =>
 (cond (!t8)
 (some true)
 ((ac j0.2.2.1 0 2).bind λt13 =>
 some (!t13))).bind λt15 =>
 (cond t15
 (some true)
 ((ac j0.2.2.2.2.2.2.2.2.2.2.2.2.2.2.2.2.2.2.2.2 0 3).bind λt19 =>
 some (!t19))).bind λt21 =>
 (cond t21
 (some true)
 ((ac j0.2.2.2.2.2.2.2.2.2.2.2.2.2.2.2.2.2.2.2.1 0 (j0.2.2.2.2.2.2.2.1.length:Int)).bind λt29 =>
 some (!t29))).bind λt31 =>
 cond t31
 (some false)
 ((cond (j0.2.2.1==0)
 (some true)
 ((ie (j0.2.2.2.1,j0.2.2.2.2.1,j0.2.2.2.2.2.1,j0.2.2.2.2.2.2.1,j0.2.2.2.2.2.2.2.1)).bind λt38 =>
 (cond t38
 ((bn (j0.2.2.2.2.2.2.2.2.1,j0.2.2.2.2.2.2.2.2.2.1,j0.2.2.2.2.2.2.2.2.2.2.1,j0.2.2.2.2.2.2.2.2.2.2.2.1,j0.2.2.2.2.2.2.2.2.2.2.2.2.1,j0.2.2.2.2.2.2.2.2.2.2.2.2.2.1,j0.2.2.2.2.2.2.2.2.2.2.2.2.2.2.1,j0.2.2.2.2.2.2.2.2.2.2.2.2.2.2.2.1,j0.2.2.2.2.2.2.2.2.2.2.2.2.2.2.2.2.1,j0.2.2.2.2.2.2.2.2.2.2.2.2.2.2.2.2.2.1,j0.2.2.2.2.2.2.2.2.2.2.2.2.2.2.2.2.2.2.1)).bind λt42 =>
 some t42)
 (some false)).bind λt43 =>
 some t43)).bind λt44 =>
 some t44)
def lY:FL:=(178,⟨[.val true vU false,.val false tU false],[.val false uD (some true)],λa=>eu a.1 a.2⟩)::lX
theorem r7:Gd lY:=tX qZ 178 Tryz.f178 [] Tryz.func178
def ig (p0:ue) (t3:Int):Option (Int⊕(Unit⊕Bool)) :=
 cond (decide (t3<(p0.2.2.2.2.2.2.2.2.2.2.2.2.1.length:Int)))
 ((at? p0.2.2.2.2.2.2.2.2.2.2.2.2.1 t3).bind λx14 =>
 (eu x14 p0.2.2.2.2.2.2.2.2.2.2.2.2.2.2).bind λt18 =>
 (cond (!t18)
 (some true)
 ((cond (decide (t3>0))
 ((at? p0.2.2.2.2.2.2.2.2.2.2.2.2.1 (tP (t3-1))).bind λx28 =>
 (at? p0.2.2.2.2.2.2.2.2.2.2.2.2.1 t3).bind λx34 =>
 some (decide (x28.1>=x34.1)))
 (some false)).bind λt38 =>
 some t38)).bind λt39 =>
 cond t39 (some (.inr (.inr false))) (some (.inl (tP (t3+1)))))
 (some (.inr (.inl ())))
def fX (p0:ue):Option Bool :=
 (loop (λz=>ig p0 z) 0).bind (Sum.elim (λd =>
 (bn (p0.1,p0.2.1,p0.2.2.1,p0.2.2.2.1,p0.2.2.2.2.1,p0.2.2.2.2.2.1,p0.2.2.2.2.2.2.1,p0.2.2.2.2.2.2.2.1,p0.2.2.2.2.2.2.2.2.1,p0.2.2.2.2.2.2.2.2.2.1,p0.2.2.2.2.2.2.2.2.2.2.1)).bind λt42 =>
 (cond t42
 (some (decide ((p0.2.2.2.2.2.2.2.2.2.2.2.1.length:Int)<=20)))
 (some false)).bind λt48 =>
 (cond t48
 (some (decide ((p0.2.2.2.2.2.2.2.2.2.2.2.2.1.length:Int)<=6)))
 (some false)).bind λt54 =>
 (cond t54
 ((ac p0.2.2.2.2.2.2.2.2.2.2.2.2.2.1 0 1000000).bind λt58 =>
 some t58)
 (some false)).bind λt59 =>
 (cond t59
 ((ac p0.2.2.2.2.2.2.2.2.2.2.2.2.2.2 0 1000000).bind λt63 =>
 some t63)
 (some false)).bind λt64 =>
 some t64) (λr=>some r))
def lZ:FL:=(106,⟨[.val true uN false],[.val false uD (some true)],λa=>fX a⟩)::lY
theorem r8:Gd lZ:=tX r7 106 Tryz.f106 [(0,⟨⟨(3,false,[dI])::us 21 18 [],[]⟩,
 ⟨[],[]⟩,some ⟨[(2,false,[dB])],[]⟩⟩)] Tryz.func106
def cf (n0:Int):Option Int :=
 cond (decide (n0>=1000000)) (some n0) (some (tP (n0+1)))
def m5:FL:=(195,⟨[.val false tU false],[.val false tU (some true)],λa=>cf a⟩)::lZ
theorem r9:Gd m5:=tX r8 195 Tryz.f195 [] Tryz.func195
def cg (p0:List Int) (i1:Int):Option (Int×(List Int)×Int×Bool) :=
 (cond (decide (i1<0)) (some true) (some (decide (i1>=(p0.length:Int))))).bind λt17 =>
 (cond t17 (some true) (some (decide ((tP (i1+1))>=(p0.length:Int))))).bind λt24 =>
 cond t24
 (some (0,([]:List Int),0,false))
 ((at? p0 (tP (i1+1))).bind λx29 =>
 cond (decide ((tP (x29))>127))
 ((cond ((tP (x29)) != 129) (some true) (some (decide ((tP (i1+2))>=(p0.length:Int))))).bind λt43 =>
 (cond t43
 (some true)
 ((at? p0 (tP (i1+2))).bind λx47 =>
 some (decide (x47<128)))).bind λt50 =>
 cond t50
 (some (0,([]:List Int),0,false))
 ((at? p0 (tP (i1+2))).bind λx54 =>
 (cond (decide ((tP (x54))>250))
 (some true)
 (some (decide ((tP (x54))>(tP ((p0.length:Int)-(tP ((tP (i1+2))+1)))))))).bind λt68 =>
 cond t68
 (some (0,([]:List Int),0,false))
 ((at? p0 i1).bind λx72 =>
 (cut p0 (tP ((tP (i1+2))+1)) (tP ((tP ((tP (i1+2))+1))+(tP (x54))))).bind λt81 =>
 (ut ([]:List Int) t81).bind λzs82 =>
 let t6:=tP ((tP ((tP (i1+2))+1))+(tP (x54)))
 some (tP (x72),zs82,t6,true))))
 ((cond (decide ((tP (x29))>250))
 (some true)
 (some (decide ((tP (x29))>(tP ((p0.length:Int)-(tP (i1+2)))))))).bind λt68_1 =>
 cond t68_1
 (some (0,([]:List Int),0,false))
 ((at? p0 i1).bind λx72_1 =>
 (cut p0 (tP (i1+2)) (tP ((tP (i1+2))+(tP (x29))))).bind λt81_1 =>
 (ut ([]:List Int) t81_1).bind λzs82_1 =>
 let t6_1:=tP ((tP (i1+2))+(tP (x29)))
 some (tP (x72_1),zs82_1,t6_1,true))))
def m6:FL:=(330,⟨[.val false vd false,.val false tU false],[.val false tU (some true),.val false vd (some true),.val false tU (some true),.val false uD (some true)],λa=>cg a.1 a.2⟩)::m5
theorem ra:Gd m6:=tX r9 330 Tryz.f330 [] Tryz.func330
def bq (r0:wa) (tag1:Int):Option (wa×List Int) :=
 (cg r0.1 r0.2.1).bind λt18 =>
 (cond r0.2.2 (some true) (some (!t18.2.2.2))).bind λt30 =>
 (cond t30 (some true) (some (t18.1 != tag1))).bind λt35 =>
 cond t35
 (some ((r0.1,r0.2.1,true),([]:List Int)))
 (some ((r0.1,t18.2.2.1,r0.2.2),t18.2.1))
def m7:FL:=(332,⟨[.ptr yA none,.val false tU false],[.val false vd (some true)],λa=>bq a.1 a.2⟩)::m6
theorem rb:Gd m7:=tX ra 332 Tryz.f332 [] Tryz.func332
def bH (n0_1:Int) (out3:List Int):Option ((Int×List Int)⊕(List Int)) :=
 (cond (decide (n0_1<(-128))) (some true) (some (decide (n0_1>127)))).bind λt14 =>
 cond t14
 ((ut [IntKind.u8.wrap (n0_1.fdiv (2^8))] out3).bind λzs21 =>
 some (.inl (n0_1.fdiv (2^8),zs21)))
 (some (.inr out3))
def aV (n0:Int):Option (List Int) :=
 (aS n0).bind λt5 =>
 (loop (λz=>bH z.1 z.2) (t5,[IntKind.u8.wrap (t5)])).bind λd =>
 some d
def m8:FL:=(63,⟨[.val false tU false],[.val false vd (some true)],λa=>aV a⟩)::m7
theorem re:Gd m8:=tX rb 63 Tryz.f63 [(0,⟨⟨[(0,false,[dI]),(3,false,[.own 1000000000]),(12,false,[.undef]),(13,false,[.undef])],[(1000000000,.root (.one (.int .u8)) true)]⟩,
 ⟨[(3,false,[.own 1000000300])],[(1000000300,.root (.one (.int .u8)) true)]⟩,none⟩)] Tryz.func63
def cS (b0:List Int) (n4:Int) (i5:Int):Option ((Int×Int)⊕Int) :=
 cond (decide (i5<(b0.length:Int)))
 ((at? b0 i5).bind λx28 =>
 let n4_1:=B9 .i64 (tP (n4*2^8)) (tP (x28))
 some (.inl (n4_1,tP (i5+1))))
 (some (.inr n4))
def cU (b0:List Int) (n4_3:Int) (i5_1:Int):Option ((Int×Int)⊕Int) :=
 cond (decide (i5_1<(b0.length:Int)))
 ((at? b0 i5_1).bind λx28_1 =>
 let n4_4:=B9 .i64 (tP (n4_3*2^8)) (tP (x28_1))
 some (.inl (n4_4,tP (i5_1+1))))
 (some (.inr n4_3))
def ev (b0:List Int):Option (Int×Bool) :=
 (ac (b0.length:Int) 1 4).bind λt8 =>
 cond (!t8)
 (some (0,false))
 ((at? b0 0).bind λx11 =>
 cond (decide ((tP (x11))>127))
 ((loop (λz=>cS b0 z.1 z.2) (tP ((tP (x11))-256),1)).bind λd =>
 (aV d).bind λt33 =>
 cond ((t33.length:Int) != (b0.length:Int)) (some (0,false)) (some (d,true)))
 ((loop (λz=>cU b0 z.1 z.2) (tP (x11),1)).bind λd_1 =>
 (aV d_1).bind λt33_1 =>
 cond ((t33_1.length:Int) != (b0.length:Int)) (some (0,false)) (some (d_1,true))))
def m9:FL:=(364,⟨[.val false vd false],[.val false tU (some true),.val false uD (some true)],λa=>ev a⟩)::m8
theorem rf:Gd m9:=tX re 364 Tryz.f364 [(0,⟨⟨[(4,false,[dI]),(5,false,[dI])],[]⟩,
 ⟨[(4,false,[dI])],[]⟩,none⟩)] Tryz.func364
def ch (r0:wa):Option (wa×Int) :=
 (bq r0 2).bind λt7 =>
 (ev t7.2).bind λt8 =>
 (cond t7.1.2.2 (some true) (some (!t8.2))).bind λt19 =>
 some ((t7.1.1,t7.1.2.1,t19),t8.1)
def ma:FL:=(331,⟨[.ptr yA none],[.val false tU (some true)],λa=>ch a⟩)::m9
theorem rj:Gd ma:=tX rf 331 Tryz.f331 [] Tryz.func331
def bI (n0_1:Int) (out3:List Int):Option ((Int×List Int)⊕(List Int)) :=
 cond (decide (n0_1>127))
 ((ut [IntKind.u8.wrap (B9 .i64 (yJ .i64 (n0_1.fdiv (2^7)) 127) 128)] out3).bind λzs18 =>
 some (.inl (n0_1.fdiv (2^7),zs18)))
 (some (.inr out3))
def cV (n0:Int):Option (List Int) :=
 (loop (λz=>bI z.1 z.2) (n0,[IntKind.u8.wrap (yJ .i64 n0 127)])).bind λd =>
 some d
def mb:FL:=(354,⟨[.val false tU false],[.val false vd (some true)],λa=>cV a⟩)::ma
theorem rk:Gd mb:=tX rj 354 Tryz.f354 [(0,⟨⟨[(0,false,[dI]),(3,false,[.own 1000000000])],[(1000000000,.root (.one (.int .u8)) true)]⟩,
 ⟨[(3,false,[.own 1000000300])],[(1000000300,.root (.one (.int .u8)) true)]⟩,none⟩)] Tryz.func354
def aA (p0:List Int) (t5_1:Int) (t6:Int) (t7:Int) (t8:Bool):Option ((Int×Int×Int×Bool)⊕(Int×Int×Int×Bool)) :=
 (cond t8 (some (decide (t5_1<(p0.length:Int)))) (some false)).bind λt25 =>
 (cond t25 (some (decide (t7<4))) (some false)).bind λt29 =>
 cond t29
 ((at? p0 t5_1).bind λx34 =>
 let t6_1:=B9 .i64 (tP (t6*2^7)) (tP (yJ .u8 x34 127))
 (at? p0 t5_1).bind λx41 =>
 some (.inl (tP (t5_1+1),t6_1,tP (t7+1),decide (x41>127))))
 (some (.inr (t5_1,t6,t7,t8)))
def ao (p0:List Int) (t5:Int) (t4:List Int):Option ((Int×List Int)⊕((Int×List Int)⊕(Bool×List Int))) :=
 (cond (decide (t5<(p0.length:Int))) (some (decide ((t4.length:Int)<=10))) (some false)).bind λt18 =>
 cond t18
 ((loop (λz=>aA p0 z.1 z.2.1 z.2.2.1 z.2.2.2) (t5,0,0,true)).bind λd =>
 (cond d.2.2.2
 (some true)
 ((cV d.2.1).bind λt51 =>
 some ((t51.length:Int) != d.2.2.1))).bind λt55 =>
 cond t55
 (some (.inr (.inr (false,([]:List Int)))))
 ((ut t4 [d.2.1]).bind λzs60 =>
 some (.inl (d.1,zs60))))
 (some (.inr (.inl (t5,t4))))
def bJ (p0:List Int):Option ((List Int)×Bool) :=
 (loop (λz=>ao p0 z.1 z.2) (0,([]:List Int))).bind (Sum.elim (λd_1 =>
 (cond (d_1.1 != (p0.length:Int))
 (some true)
 ((bo d_1.2).bind λt67 =>
 some (!t67))).bind λt69 =>
 cond t69 (some (([]:List Int),false)) (some (d_1.2,true))) (λr=>some (r.2,r.1)))
def mc:FL:=(380,⟨[.val false vd false],[.val false vR (some true),.val false uD (some true)],λa=>bJ a⟩)::mb
theorem rl:Gd mc:=tX rk 380 Tryz.f380 [(0,⟨⟨(4,false,[.own 1000000000])::(5,false,[dI])::us 15 3 (us 21 4 (us 27 2 (us 50 5 []))),[(1000000000,.root tU true)]⟩,
 ⟨[(4,false,[.own 1000000300]),(5,false,[dI])],[(1000000300,.root tU true)]⟩,some ⟨[(2,false,[.own 1000000600]),(3,false,[dB])],[(1000000600,.root tU true)]⟩⟩),
 (2,⟨⟨(5,false,[dI])::(6,false,[dI])::(7,false,[dI])::(8,false,[dB])::us 21 4 (us 27 2 []),[]⟩,
 ⟨(5,false,[dI])::(6,false,[dI])::(7,false,[dI])::(8,false,[dB])::us 21 4 (us 27 2 []),[]⟩,none⟩)] Tryz.func380
def fY (b0:List Int) (at1:Int):Option (wJ×Int×Bool) :=
 (cg b0 at1).bind λt16 =>
 cond (t16.1==2)
 ((ev t16.2.1).bind λt31 =>
 (cond (!t16.2.2.2) (some true) (some (!t31.2))).bind λt53 =>
 (cond t53
 (some true)
 ((aU (t16.1,t31.1,[],[])).bind λt56 =>
 some (!t56))).bind λt58 =>
 cond t58
 (some ((0,0,[],[]),0,false))
 (some ((t16.1,t31.1,[],[]),t16.2.2.1,true)))
 (cond (t16.1==4)
 ((cond (!t16.2.2.2) (some true) (some (!true))).bind λt53_1 =>
 (cond t53_1
 (some true)
 ((aU (t16.1,0,uT t16.2.1,[])).bind λt56_1 =>
 some (!t56_1))).bind λt58_1 =>
 cond t58_1
 (some ((0,0,[],[]),0,false))
 (some ((t16.1,0,uT t16.2.1,[]),t16.2.2.1,true)))
 (cond (t16.1==6)
 ((bJ t16.2.1).bind λt44 =>
 (cond (!t16.2.2.2) (some true) (some (!t44.2))).bind λt53_2 =>
 (cond t53_2
 (some true)
 ((aU (t16.1,0,[],t44.1)).bind λt56_2 =>
 some (!t56_2))).bind λt58_2 =>
 cond t58_2
 (some ((0,0,[],[]),0,false))
 (some ((t16.1,0,[],t44.1),t16.2.2.1,true)))
 (let is12:=(t16.2.1.length:Int)==0
 (cond (!t16.2.2.2) (some true) (some (!is12))).bind λt53_3 =>
 (cond t53_3
 (some true)
 ((aU (t16.1,0,[],[])).bind λt56_3 =>
 some (!t56_3))).bind λt58_3 =>
 cond t58_3
 (some ((0,0,[],[]),0,false))
 (some ((t16.1,0,[],[]),t16.2.2.1,true)))))
def md:FL:=(381,⟨[.val false vd false,.val false tU false],[.val true xQ (some true),.val false tU (some true),.val false uD (some true)],λa=>fY a.1 a.2⟩)::mc
theorem rm:Gd md:=tX rl 381 Tryz.f381 [] Tryz.func381
def fZ (b0:List Int):Option (tQ×Bool) :=
 (bq (b0,0,false) 6).bind λt15 =>
 (bJ t15.2).bind λt16 =>
 (fY b0 t15.1.2.1).bind λt25 =>
 (cond t15.1.2.2 (some true) (some (!t16.2))).bind λt36 =>
 (cond t36 (some true) (some (!t25.2.2))).bind λt40 =>
 (cond t40 (some true) (some (t25.2.1 != (b0.length:Int)))).bind λt46 =>
 cond t46
 (some (([],0,0,[],[]),false))
 (some ((t16.1,t25.1.1,t25.1.2.1,t25.1.2.2.1,t25.1.2.2.2),true))
def me:FL:=(365,⟨[.val false vd false],[.val true u5 (some true),.val false uD (some true)],λa=>fZ a⟩)::md
theorem rn:Gd me:=tX rm 365 Tryz.f365 [] Tryz.func365
def ap (b0:List Int) (b1:Int) (b2:Bool) (b0_1:Int) (b1_1:Int) (b2_1:Int) (b3:Int) (b0_2:List Int) (b1_2:Int) (b2_2:Bool) (b4:List tQ):Option ((List Int×Int×Bool×Int×Int×Int×Int×List Int×Int×Bool×List tQ)⊕(List Int×Int×Bool×Int×Int×Int×Int×List Int×Int×Bool×List tQ)) :=
 (cond (!b2) (some (decide (b1_2<(b0_2.length:Int)))) (some false)).bind λt54 =>
 (cond t54 (some (decide ((b4.length:Int)<=10))) (some false)).bind λt60 =>
 cond t60
 ((bq (b0_2,b1_2,b2_2) 48).bind λt63 =>
 (fZ t63.2).bind λt64 =>
 (cond t63.1.2.2 (some true) (some (!t64.2))).bind λt75 =>
 (ut b4 [t64.1]).bind λzs82 =>
 some (.inl (b0,b1,t75,b0_1,b1_1,b2_1,b3,t63.1.1,t63.1.2.1,t63.1.2.2,zs82)))
 (some (.inr (b0,b1,b2,b0_1,b1_1,b2_1,b3,b0_2,b1_2,b2_2,b4)))
def ga (p0:List Int):Option (um×Bool) :=
 (cg p0 0).bind λt15 =>
 (ch (t15.2.1,0,false)).bind λt26 =>
 (ch t26.1).bind λt29 =>
 (ch t29.1).bind λt32 =>
 (bq t32.1 48).bind λt35 =>
 (loop (λz=>ap z.1 z.2.1 z.2.2.1 z.2.2.2.1 z.2.2.2.2.1 z.2.2.2.2.2.1 z.2.2.2.2.2.2.1 z.2.2.2.2.2.2.2.1 z.2.2.2.2.2.2.2.2.1 z.2.2.2.2.2.2.2.2.2.1 z.2.2.2.2.2.2.2.2.2.2) (t35.1.1,t35.1.2.1,t35.1.2.2,t15.1,t26.2,t29.2,t32.2,t35.2,0,false,[])).bind λd =>
 (cond (!t15.2.2.2) (some true) (some (t15.2.2.1 != (p0.length:Int)))).bind λt91 =>
 (cond t91 (some true) (some d.2.2.1)).bind λt97 =>
 (cond t97 (some true) (some (d.2.1 != (t15.2.1.length:Int)))).bind λt106 =>
 (cond t106
 (some true)
 (some (d.2.2.2.2.2.2.2.2.1 != (d.2.2.2.2.2.2.2.1.length:Int)))).bind λt118 =>
 (cond t118
 (some true)
 ((bp (d.2.2.2.1,d.2.2.2.2.1,d.2.2.2.2.2.1,d.2.2.2.2.2.2.1,d.2.2.2.2.2.2.2.2.2.2)).bind λt121 =>
 some (!t121))).bind λt123 =>
 cond t123
 (some ((0,0,0,0,[]),false))
 (some ((d.2.2.2.1,d.2.2.2.2.1,d.2.2.2.2.2.1,d.2.2.2.2.2.2.1,d.2.2.2.2.2.2.2.2.2.2),true))
def mf:FL:=(333,⟨[.val false vd false],[.val true vT (some true),.val false uD (some true)],λa=>ga a⟩)::me
theorem rp:Gd mf:=tX rn 333 Tryz.f333 [(0,⟨⟨us 44 10 (us 56 4 (us 73 2 [])),[(527360,.box [.dat (.sl (.one (.int .u8))),dI,dB]),(789504,.box [dI,dI,dI,dI,.own 1000000000]),(1839104,.box [.dat (.sl (.one (.int .u8))),dI,dB]),(1000000000,.root u5 true)]⟩,
 ⟨[],[(527360,.box [.dat (.sl (.one (.int .u8))),dI,dB]),(789504,.box [dI,dI,dI,dI,.own 1000000300]),(1839104,.box [.dat (.sl (.one (.int .u8))),dI,dB]),(1000000300,.root u5 true)]⟩,none⟩)] Tryz.func333
def ew (p0:List UInt8) (i1:List Int):Option (um×Int) :=
 (cg i1 0).bind λt17 =>
 (ch (t17.2.1,0,false)).bind λt26 =>
 (bq t26.1 4).bind λt28 =>
 (cond (!t17.2.2.2) (some true) (some (t17.1 != 48))).bind λt34 =>
 (cond t34 (some true) (some (t17.2.2.1 != (i1.length:Int)))).bind λt40 =>
 (cond t40 (some true) (some t28.1.2.2)).bind λt46 =>
 cond t46
 (some ((0,0,0,0,[]),1))
 (cond (t26.2 != 1)
 (some ((0,0,0,0,[]),2))
 (cond (!((uT t28.2)==p0))
 (some ((0,0,0,0,[]),3))
 ((cut t17.2.1 t28.1.2.1 (t17.2.1.length:Int)).bind λt62 =>
 (ga t62).bind λt63 =>
 cond (!t63.2) (some ((0,0,0,0,[]),1)) (some (t63.1,0)))))
def mg:FL:=(272,⟨[.val false Pl false,.val false vd false],[.val true vT (some true),.val false tU (some true)],λa=>ew a.1 a.2⟩)::mf
theorem rq:Gd mg:=tX rp 272 Tryz.f272 [] Tryz.func272
def ez (a0:ue) (k1:Int):Option ue :=
 (ix a0.2.2.2.2.2.2.2.2.2.2.2.2.1.length k1).bind λj9 =>
 (a0.2.2.2.2.2.2.2.2.2.2.2.2.1[j9]?).bind λx =>
 (ak (a0.1,a0.2.1,a0.2.2.1,a0.2.2.2.1,a0.2.2.2.2.1,a0.2.2.2.2.2.1,a0.2.2.2.2.2.2.1,a0.2.2.2.2.2.2.2.1,a0.2.2.2.2.2.2.2.2.1,a0.2.2.2.2.2.2.2.2.2.1,a0.2.2.2.2.2.2.2.2.2.2.1)).bind λt20 =>
 (ix (a0.2.2.2.2.2.2.2.2.2.2.2.2.1.set j9 (x.1,x.2.1,1,x.2.2.2.1,x.2.2.2.2.1,x.2.2.2.2.2.1,x.2.2.2.2.2.2.1,x.2.2.2.2.2.2.2.1,x.2.2.2.2.2.2.2.2.1,x.2.2.2.2.2.2.2.2.2.1,x.2.2.2.2.2.2.2.2.2.2.1,x.2.2.2.2.2.2.2.2.2.2.2.1,x.2.2.2.2.2.2.2.2.2.2.2.2.1,x.2.2.2.2.2.2.2.2.2.2.2.2.2.1,x.2.2.2.2.2.2.2.2.2.2.2.2.2.2.1,x.2.2.2.2.2.2.2.2.2.2.2.2.2.2.2.1,x.2.2.2.2.2.2.2.2.2.2.2.2.2.2.2.2.1,x.2.2.2.2.2.2.2.2.2.2.2.2.2.2.2.2.2.1,x.2.2.2.2.2.2.2.2.2.2.2.2.2.2.2.2.2.2.1,x.2.2.2.2.2.2.2.2.2.2.2.2.2.2.2.2.2.2.2.1,x.2.2.2.2.2.2.2.2.2.2.2.2.2.2.2.2.2.2.2.2)).length k1).bind λj21 =>
 ((a0.2.2.2.2.2.2.2.2.2.2.2.2.1.set j9 (x.1,x.2.1,1,x.2.2.2.1,x.2.2.2.2.1,x.2.2.2.2.2.1,x.2.2.2.2.2.2.1,x.2.2.2.2.2.2.2.1,x.2.2.2.2.2.2.2.2.1,x.2.2.2.2.2.2.2.2.2.1,x.2.2.2.2.2.2.2.2.2.2.1,x.2.2.2.2.2.2.2.2.2.2.2.1,x.2.2.2.2.2.2.2.2.2.2.2.2.1,x.2.2.2.2.2.2.2.2.2.2.2.2.2.1,x.2.2.2.2.2.2.2.2.2.2.2.2.2.2.1,x.2.2.2.2.2.2.2.2.2.2.2.2.2.2.2.1,x.2.2.2.2.2.2.2.2.2.2.2.2.2.2.2.2.1,x.2.2.2.2.2.2.2.2.2.2.2.2.2.2.2.2.2.1,x.2.2.2.2.2.2.2.2.2.2.2.2.2.2.2.2.2.2.1,x.2.2.2.2.2.2.2.2.2.2.2.2.2.2.2.2.2.2.2.1,x.2.2.2.2.2.2.2.2.2.2.2.2.2.2.2.2.2.2.2.2))[j21]?).bind λx_1 =>
 (ix ((a0.2.2.2.2.2.2.2.2.2.2.2.2.1.set j9 (x.1,x.2.1,1,x.2.2.2.1,x.2.2.2.2.1,x.2.2.2.2.2.1,x.2.2.2.2.2.2.1,x.2.2.2.2.2.2.2.1,x.2.2.2.2.2.2.2.2.1,x.2.2.2.2.2.2.2.2.2.1,x.2.2.2.2.2.2.2.2.2.2.1,x.2.2.2.2.2.2.2.2.2.2.2.1,x.2.2.2.2.2.2.2.2.2.2.2.2.1,x.2.2.2.2.2.2.2.2.2.2.2.2.2.1,x.2.2.2.2.2.2.2.2.2.2.2.2.2.2.1,x.2.2.2.2.2.2.2.2.2.2.2.2.2.2.2.1,x.2.2.2.2.2.2.2.2.2.2.2.2.2.2.2.2.1,x.2.2.2.2.2.2.2.2.2.2.2.2.2.2.2.2.2.1,x.2.2.2.2.2.2.2.2.2.2.2.2.2.2.2.2.2.2.1,x.2.2.2.2.2.2.2.2.2.2.2.2.2.2.2.2.2.2.2.1,x.2.2.2.2.2.2.2.2.2.2.2.2.2.2.2.2.2.2.2.2)).set j21 (x_1.1,x_1.2.1,x_1.2.2.1,x_1.2.2.2.1,x_1.2.2.2.2.1,x_1.2.2.2.2.2.1,x_1.2.2.2.2.2.2.1,x_1.2.2.2.2.2.2.2.1,t20.1,t20.2.1,t20.2.2.1,t20.2.2.2.1,t20.2.2.2.2.1,t20.2.2.2.2.2.1,t20.2.2.2.2.2.2.1,t20.2.2.2.2.2.2.2.1,t20.2.2.2.2.2.2.2.2.1,t20.2.2.2.2.2.2.2.2.2.1,t20.2.2.2.2.2.2.2.2.2.2,x_1.2.2.2.2.2.2.2.2.2.2.2.2.2.2.2.2.2.2.2.1,x_1.2.2.2.2.2.2.2.2.2.2.2.2.2.2.2.2.2.2.2.2)).length k1).bind λj28 =>
 (((a0.2.2.2.2.2.2.2.2.2.2.2.2.1.set j9 (x.1,x.2.1,1,x.2.2.2.1,x.2.2.2.2.1,x.2.2.2.2.2.1,x.2.2.2.2.2.2.1,x.2.2.2.2.2.2.2.1,x.2.2.2.2.2.2.2.2.1,x.2.2.2.2.2.2.2.2.2.1,x.2.2.2.2.2.2.2.2.2.2.1,x.2.2.2.2.2.2.2.2.2.2.2.1,x.2.2.2.2.2.2.2.2.2.2.2.2.1,x.2.2.2.2.2.2.2.2.2.2.2.2.2.1,x.2.2.2.2.2.2.2.2.2.2.2.2.2.2.1,x.2.2.2.2.2.2.2.2.2.2.2.2.2.2.2.1,x.2.2.2.2.2.2.2.2.2.2.2.2.2.2.2.2.1,x.2.2.2.2.2.2.2.2.2.2.2.2.2.2.2.2.2.1,x.2.2.2.2.2.2.2.2.2.2.2.2.2.2.2.2.2.2.1,x.2.2.2.2.2.2.2.2.2.2.2.2.2.2.2.2.2.2.2.1,x.2.2.2.2.2.2.2.2.2.2.2.2.2.2.2.2.2.2.2.2)).set j21 (x_1.1,x_1.2.1,x_1.2.2.1,x_1.2.2.2.1,x_1.2.2.2.2.1,x_1.2.2.2.2.2.1,x_1.2.2.2.2.2.2.1,x_1.2.2.2.2.2.2.2.1,t20.1,t20.2.1,t20.2.2.1,t20.2.2.2.1,t20.2.2.2.2.1,t20.2.2.2.2.2.1,t20.2.2.2.2.2.2.1,t20.2.2.2.2.2.2.2.1,t20.2.2.2.2.2.2.2.2.1,t20.2.2.2.2.2.2.2.2.2.1,t20.2.2.2.2.2.2.2.2.2.2,x_1.2.2.2.2.2.2.2.2.2.2.2.2.2.2.2.2.2.2.2.1,x_1.2.2.2.2.2.2.2.2.2.2.2.2.2.2.2.2.2.2.2.2))[j28]?).bind λx_2 =>
 some (a0.1,a0.2.1,a0.2.2.1,a0.2.2.2.1,a0.2.2.2.2.1,a0.2.2.2.2.2.1,a0.2.2.2.2.2.2.1,a0.2.2.2.2.2.2.2.1,a0.2.2.2.2.2.2.2.2.1,a0.2.2.2.2.2.2.2.2.2.1,a0.2.2.2.2.2.2.2.2.2.2.1,a0.2.2.2.2.2.2.2.2.2.2.2.1,((a0.2.2.2.2.2.2.2.2.2.2.2.2.1.set j9 (x.1,x.2.1,1,x.2.2.2.1,x.2.2.2.2.1,x.2.2.2.2.2.1,x.2.2.2.2.2.2.1,x.2.2.2.2.2.2.2.1,x.2.2.2.2.2.2.2.2.1,x.2.2.2.2.2.2.2.2.2.1,x.2.2.2.2.2.2.2.2.2.2.1,x.2.2.2.2.2.2.2.2.2.2.2.1,x.2.2.2.2.2.2.2.2.2.2.2.2.1,x.2.2.2.2.2.2.2.2.2.2.2.2.2.1,x.2.2.2.2.2.2.2.2.2.2.2.2.2.2.1,x.2.2.2.2.2.2.2.2.2.2.2.2.2.2.2.1,x.2.2.2.2.2.2.2.2.2.2.2.2.2.2.2.2.1,x.2.2.2.2.2.2.2.2.2.2.2.2.2.2.2.2.2.1,x.2.2.2.2.2.2.2.2.2.2.2.2.2.2.2.2.2.2.1,x.2.2.2.2.2.2.2.2.2.2.2.2.2.2.2.2.2.2.2.1,x.2.2.2.2.2.2.2.2.2.2.2.2.2.2.2.2.2.2.2.2)).set j21 (x_1.1,x_1.2.1,x_1.2.2.1,x_1.2.2.2.1,x_1.2.2.2.2.1,x_1.2.2.2.2.2.1,x_1.2.2.2.2.2.2.1,x_1.2.2.2.2.2.2.2.1,t20.1,t20.2.1,t20.2.2.1,t20.2.2.2.1,t20.2.2.2.2.1,t20.2.2.2.2.2.1,t20.2.2.2.2.2.2.1,t20.2.2.2.2.2.2.2.1,t20.2.2.2.2.2.2.2.2.1,t20.2.2.2.2.2.2.2.2.2.1,t20.2.2.2.2.2.2.2.2.2.2,x_1.2.2.2.2.2.2.2.2.2.2.2.2.2.2.2.2.2.2.2.1,x_1.2.2.2.2.2.2.2.2.2.2.2.2.2.2.2.2.2.2.2.2)).set j28 (x_2.1,x_2.2.1,x_2.2.2.1,x_2.2.2.2.1,x_2.2.2.2.2.1,x_2.2.2.2.2.2.1,x_2.2.2.2.2.2.2.1,x_2.2.2.2.2.2.2.2.1,x_2.2.2.2.2.2.2.2.2.1,x_2.2.2.2.2.2.2.2.2.2.1,x_2.2.2.2.2.2.2.2.2.2.2.1,x_2.2.2.2.2.2.2.2.2.2.2.2.1,x_2.2.2.2.2.2.2.2.2.2.2.2.2.1,x_2.2.2.2.2.2.2.2.2.2.2.2.2.2.1,x_2.2.2.2.2.2.2.2.2.2.2.2.2.2.2.1,x_2.2.2.2.2.2.2.2.2.2.2.2.2.2.2.2.1,x_2.2.2.2.2.2.2.2.2.2.2.2.2.2.2.2.2.1,x_2.2.2.2.2.2.2.2.2.2.2.2.2.2.2.2.2.2.1,x_2.2.2.2.2.2.2.2.2.2.2.2.2.2.2.2.2.2.2.1,0,x_2.2.2.2.2.2.2.2.2.2.2.2.2.2.2.2.2.2.2.2.2),a0.2.2.2.2.2.2.2.2.2.2.2.2.2.1,a0.2.2.2.2.2.2.2.2.2.2.2.2.2.2)
def mh:FL:=(273,⟨[.ptr uN (some false),.val false tU false],[],λa=>ez a.1 a.2⟩)::mg
theorem rr:Gd mh:=tX rq 273 Tryz.f273 [] Tryz.func273
def cW (a0:ue) (k1:Int):Option ue :=
 (vC a0.2.2.2.2.2.2.2.2.2.2.2.2.1.length 0 k1).bind λp =>
 (ut ([]:List ur) ((a0.2.2.2.2.2.2.2.2.2.2.2.2.1.take p.2).drop p.1)).bind λzs12 =>
 (vC a0.2.2.2.2.2.2.2.2.2.2.2.2.1.length (tP (k1+1)) (a0.2.2.2.2.2.2.2.2.2.2.2.2.1.length:Int)).bind λp_1 =>
 (ut zs12 ((a0.2.2.2.2.2.2.2.2.2.2.2.2.1.take p_1.2).drop p_1.1)).bind λzs20 =>
 some (a0.1,a0.2.1,a0.2.2.1,a0.2.2.2.1,a0.2.2.2.2.1,a0.2.2.2.2.2.1,a0.2.2.2.2.2.2.1,a0.2.2.2.2.2.2.2.1,a0.2.2.2.2.2.2.2.2.1,a0.2.2.2.2.2.2.2.2.2.1,a0.2.2.2.2.2.2.2.2.2.2.1,a0.2.2.2.2.2.2.2.2.2.2.2.1,zs20,a0.2.2.2.2.2.2.2.2.2.2.2.2.2.1,a0.2.2.2.2.2.2.2.2.2.2.2.2.2.2)
def mi:FL:=(274,⟨[.ptr uN (some false),.val false tU false],[],λa=>cW a.1 a.2⟩)::mh
theorem ru:Gd mi:=tX rr 274 Tryz.f274 [] Tryz.func274
def cX (p0:ue) (i1:Int):Option ue :=
 (ix p0.2.2.2.2.2.2.2.2.2.2.2.2.1.length i1).bind λj16 =>
 (p0.2.2.2.2.2.2.2.2.2.2.2.2.1[j16]?).bind λx18 =>
 (ew p0.2.2.2.2.2.2.2.2.2.2.2.1 x18.2.1).bind λt19 =>
 (cond (t19.2==0) (some (t19.1.1 != 162)) (some false)).bind λt28 =>
 cond t28
 ((ix p0.2.2.2.2.2.2.2.2.2.2.2.2.1.length i1).bind λj35 =>
 (p0.2.2.2.2.2.2.2.2.2.2.2.2.1[j35]?).bind λx =>
 (ez (p0.1,p0.2.1,p0.2.2.1,p0.2.2.2.1,p0.2.2.2.2.1,p0.2.2.2.2.2.1,p0.2.2.2.2.2.2.1,p0.2.2.2.2.2.2.2.1,p0.2.2.2.2.2.2.2.2.1,p0.2.2.2.2.2.2.2.2.2.1,p0.2.2.2.2.2.2.2.2.2.2.1,p0.2.2.2.2.2.2.2.2.2.2.2.1,p0.2.2.2.2.2.2.2.2.2.2.2.2.1.set j35 (x.1,x.2.1,x.2.2.1,t19.1.1,t19.1.2.1,t19.1.2.2.1,t19.1.2.2.2.1,t19.1.2.2.2.2,x.2.2.2.2.2.2.2.2.1,x.2.2.2.2.2.2.2.2.2.1,x.2.2.2.2.2.2.2.2.2.2.1,x.2.2.2.2.2.2.2.2.2.2.2.1,x.2.2.2.2.2.2.2.2.2.2.2.2.1,x.2.2.2.2.2.2.2.2.2.2.2.2.2.1,x.2.2.2.2.2.2.2.2.2.2.2.2.2.2.1,x.2.2.2.2.2.2.2.2.2.2.2.2.2.2.2.1,x.2.2.2.2.2.2.2.2.2.2.2.2.2.2.2.2.1,x.2.2.2.2.2.2.2.2.2.2.2.2.2.2.2.2.2.1,x.2.2.2.2.2.2.2.2.2.2.2.2.2.2.2.2.2.2.1,x.2.2.2.2.2.2.2.2.2.2.2.2.2.2.2.2.2.2.2.1,x.2.2.2.2.2.2.2.2.2.2.2.2.2.2.2.2.2.2.2.2),p0.2.2.2.2.2.2.2.2.2.2.2.2.2.1,p0.2.2.2.2.2.2.2.2.2.2.2.2.2.2) i1).bind λt39 =>
 some t39)
 (cond (t19.2==3)
 ((cf p0.2.2.2.2.2.2.2.2.1).bind λt48 =>
 (cW (p0.1,p0.2.1,p0.2.2.1,p0.2.2.2.1,p0.2.2.2.2.1,p0.2.2.2.2.2.1,p0.2.2.2.2.2.2.1,p0.2.2.2.2.2.2.2.1,t48,p0.2.2.2.2.2.2.2.2.2.1,p0.2.2.2.2.2.2.2.2.2.2.1,p0.2.2.2.2.2.2.2.2.2.2.2.1,p0.2.2.2.2.2.2.2.2.2.2.2.2.1,p0.2.2.2.2.2.2.2.2.2.2.2.2.2.1,p0.2.2.2.2.2.2.2.2.2.2.2.2.2.2) i1).bind λt64 =>
 some t64)
 ((cf p0.2.2.2.2.2.2.2.1).bind λt58 =>
 (cW (p0.1,p0.2.1,p0.2.2.1,p0.2.2.2.1,p0.2.2.2.2.1,p0.2.2.2.2.2.1,p0.2.2.2.2.2.2.1,t58,p0.2.2.2.2.2.2.2.2.1,p0.2.2.2.2.2.2.2.2.2.1,p0.2.2.2.2.2.2.2.2.2.2.1,p0.2.2.2.2.2.2.2.2.2.2.2.1,p0.2.2.2.2.2.2.2.2.2.2.2.2.1,p0.2.2.2.2.2.2.2.2.2.2.2.2.2.1,p0.2.2.2.2.2.2.2.2.2.2.2.2.2.2) i1).bind λt64_1 =>
 some t64_1))
def mj:FL:=(180,⟨[.ptr uN (some false),.val false tU false],[],λa=>cX a.1 a.2⟩)::mi
theorem rz:Gd mj:=tX ru 180 Tryz.f180 [] Tryz.func180
def cY (a0:ue) (k1:Int) (p2:um):Option (ue×List vB) :=
 (ix a0.2.2.2.2.2.2.2.2.2.2.2.2.1.length k1).bind λj13 =>
 (a0.2.2.2.2.2.2.2.2.2.2.2.2.1[j13]?).bind λx15 =>
 (cW a0 k1).bind λt21 =>
 some (t21,[(x15.1,p2.1,p2.2.1,p2.2.2.1,p2.2.2.2.1,p2.2.2.2.2)])
def ml:FL:=(183,⟨[.ptr uN (some false),.val false tU false,.val true vT false],[.val false (.one (.sl xE)) (some false)],λa=>cY a.1 a.2.1 a.2.2⟩)::mj
theorem rA:Gd ml:=tX rz 183 Tryz.f183 [] Tryz.func183
def au (b0:List Int) (tag1:Int) (body2:List Int):Option (List Int) :=
 (ut ([]:List Int) b0).bind λzs10 =>
 (ac tag1 0 255).bind λt12 =>
 (cond (!t12) (some true) (some (decide ((body2.length:Int)>250)))).bind λt18 =>
 cond t18
 (some zs10)
 ((ut zs10 [IntKind.u8.wrap (tag1)]).bind λzs24 =>
 cond (decide ((body2.length:Int)>127))
 ((ut zs24 ([129]:List Int)).bind λzs30 =>
 (ut zs30 [IntKind.u8.wrap ((body2.length:Int))]).bind λzs36 =>
 (ut zs36 body2).bind λzs38 =>
 some zs38)
 ((ut zs24 [IntKind.u8.wrap ((body2.length:Int))]).bind λzs36_1 =>
 (ut zs36_1 body2).bind λzs38_1 =>
 some zs38_1))
def mn:FL:=(62,⟨[.val false vd false,.val false tU false,.val false vd false],[.val false vd (some true)],λa=>au a.1 a.2.1 a.2.2⟩)::ml
theorem rB:Gd mn:=tX rA 62 Tryz.f62 [] Tryz.func62
def ci (o0:List Int) (i4:Int) (b3:List Int):Option ((Int×List Int)⊕(List Int)) :=
 cond (decide (i4<(o0.length:Int)))
 ((at? o0 i4).bind λx19 =>
 (cV x19).bind λt21 =>
 (ut b3 t21).bind λzs22 =>
 some (.inl (tP (i4+1),zs22)))
 (some (.inr b3))
def eA (o0:List Int):Option (List Int) :=
 (bo o0).bind λt7 =>
 cond (!t7)
 (some ([]:List Int))
 ((loop (λz=>ci o0 z.1 z.2) (0,([]:List Int))).bind λd =>
 some d)
def mo:FL:=(309,⟨[.val false vR false],[.val false vd (some true)],λa=>eA a⟩)::mn
theorem rC:Gd mo:=tX rB 309 Tryz.f309 [(0,⟨⟨[(3,false,[.own 1000000000]),(4,false,[dI])],[(1000000000,.root (.one (.int .u8)) true)]⟩,
 ⟨[(3,false,[.own 1000000300])],[(1000000300,.root (.one (.int .u8)) true)]⟩,none⟩)] Tryz.func309
def gb (b0:List Int) (v1:wJ):Option (List Int) :=
 (aU v1).bind λt7 =>
 cond (!t7)
 ((ut ([]:List Int) b0).bind λzs11 =>
 some zs11)
 (cond (v1.1==2)
 ((aV v1.2.1).bind λt19 =>
 (au b0 v1.1 t19).bind λt34 =>
 some t34)
 (cond (v1.1==4)
 ((au b0 v1.1 (yo v1.2.2.1)).bind λt34_1 =>
 some t34_1)
 (cond (v1.1==6)
 ((eA v1.2.2.2).bind λt29 =>
 (au b0 v1.1 t29).bind λt34_2 =>
 some t34_2)
 ((au b0 v1.1 ([]:List Int)).bind λt34_3 =>
 some t34_3))))
def mp:FL:=(308,⟨[.val false vd false,.val true xQ false],[.val false vd (some true)],λa=>gb a.1 a.2⟩)::mo
theorem rD:Gd mp:=tX rC 308 Tryz.f308 [] Tryz.func308
def cj (l0:List tQ) (i4:Int) (b3:List Int):Option ((Int×List Int)⊕(List Int)) :=
 cond (decide (i4<(l0.length:Int)))
 ((at? l0 i4).bind λx16 =>
 (eA x16.1).bind λt19 =>
 (au ([]:List Int) 6 t19).bind λt20 =>
 (at? l0 i4).bind λx23 =>
 (gb t20 x23.2).bind λt26 =>
 (au b3 48 t26).bind λt29 =>
 some (.inl (tP (i4+1),t29)))
 (some (.inr b3))
def gd (l0:List tQ):Option (List Int) :=
 (loop (λz=>cj l0 z.1 z.2) (0,([]:List Int))).bind λd =>
 some d
def mq:FL:=(223,⟨[.val false (.one (.sl u5)) false],[.val false vd (some true)],λa=>gd a⟩)::mp
theorem rE:Gd mq:=tX rD 223 Tryz.f223 [(0,⟨⟨[(3,false,[.own 1000000000]),(4,false,[dI])],[(1000000000,.root (.one (.int .u8)) true)]⟩,
 ⟨[(3,false,[.own 1000000300])],[(1000000300,.root (.one (.int .u8)) true)]⟩,none⟩)] Tryz.func223
def ii (p0:um):Option ((List Int)×Bool) :=
 (gd p0.2.2.2.2).bind λt8 =>
 cond (decide ((t8.length:Int)>250))
 (some (([]:List Int),false))
 ((aV p0.2.1).bind λt16 =>
 (au ([]:List Int) 2 t16).bind λt17 =>
 (aV p0.2.2.1).bind λt20 =>
 (au t17 2 t20).bind λt21 =>
 (aV p0.2.2.2.1).bind λt24 =>
 (au t21 2 t24).bind λt25 =>
 (au t25 48 t8).bind λt28 =>
 let t3:=decide ((t28.length:Int)<=250)
 some (t28,t3))
def mr:FL:=(138,⟨[.val true vT false],[.val false vd (some true),.val false uD (some true)],λa=>ii a⟩)::mq
theorem rF:Gd mr:=tX rE 138 Tryz.f138 [] Tryz.func138
def ge (p0:um):Option (List Int) :=
 (bp p0).bind λt6 =>
 cond (!t6)
 (some ([]:List Int))
 ((ii p0).bind λt11 =>
 cond (!t11.2)
 (some ([]:List Int))
 ((au ([]:List Int) p0.1 t11.1).bind λt21 =>
 some t21))
def mt:FL:=(65,⟨[.val true vT false],[.val false vd (some true)],λa=>ge a⟩)::mr
theorem rG:Gd mt:=tX rF 65 Tryz.f65 [] Tryz.func65
def cZ (p0:um):Option Bool :=
 (ge p0).bind λt4 =>
 (ac (t4.length:Int) 1 120).bind λt6 =>
 some t6
def mu:FL:=(335,⟨[.val true vT false],[.val false uD (some true)],λa=>cZ a⟩)::mt
theorem rH:Gd mu:=tX rG 335 Tryz.f335 [] Tryz.func335
def bK (bulk1:Bool) (b0:Int) (b1:Int) (b2:Int) (b3:Int) (b4:List tQ):Option ((Int×Int×Int×Int×List tQ)⊕(Int×Int×Int×Int×List tQ)) :=
 (cond bulk1
 ((cZ (b0,b1,b2,b3,b4)).bind λt8 =>
 some (!t8))
 (some false)).bind λt10 =>
 (cond t10 (some (decide ((b4.length:Int)>0))) (some false)).bind λt16 =>
 cond t16
 ((vC b4.length 0 (tP ((b4.length:Int)-1))).bind λp =>
 some (.inl (b0,b1,b2,b3,(b4.take p.2).drop p.1)))
 (some (.inr (b0,b1,b2,b3,b4)))
def ck (p0:um) (bulk1:Bool):Option um :=
 (loop (λz=>bK bulk1 z.1 z.2.1 z.2.2.1 z.2.2.2.1 z.2.2.2.2) p0).bind λd =>
 (cZ d).bind λt26 =>
 cond t26 (some d) (some (162,d.2.1,7,0,[]))
def mw:FL:=(276,⟨[.val true vT true,.val false uD false],[.val true vT (some true)],λa=>ck a.1 a.2⟩)::mu
theorem rI:Gd mw:=tX rH 276 Tryz.f276 [(0,⟨⟨us 7 3 (us 12 4 []),[(1024,.box [dI,dI,dI,dI,.own 1000000000]),(1000000000,.root u5 true)]⟩,
 ⟨[],[(1024,.box [dI,dI,dI,dI,.own 1000000300]),(1000000300,.root u5 true)]⟩,none⟩)] Tryz.func276
def gg (a0:zz) (b1:zz):Option Bool :=
 cond (a0.1 != b1.1)
 (some (decide (a0.1<b1.1)))
 (cond (a0.2.1 != b1.2.1)
 (some (decide (a0.2.1<b1.2.1)))
 (cond (a0.2.2.2.1 != b1.2.2.2.1)
 (let t4:=decide (a0.2.2.2.1<b1.2.2.2.1)
 some t4)
 (let t4_1:=decide (a0.2.2.2.2<b1.2.2.2.2)
 some t4_1)))
def my:FL:=(345,⟨[.val true yD false,.val true yD false],[.val false uD (some true)],λa=>gg a.1 a.2⟩)::mw
theorem rJ:Gd my:=tX rI 345 Tryz.f345 [] Tryz.func345
def ij (v0:zz) (cost1:Int):Option (zz×Bool) :=
 (eo v0).bind λt8 =>
 (cond (!t8)
 (some true)
 ((ac cost1 1 1000).bind λt12 =>
 some (!t12))).bind λt14 =>
 cond t14
 (some (v0,false))
 ((eo (v0.1,tP (v0.2.1+cost1),tP (v0.2.2.1+1),v0.2.2.2.1,v0.2.2.2.2)).bind λt27 =>
 cond (!t27)
 (some (v0,false))
 (some ((v0.1,tP (v0.2.1+cost1),tP (v0.2.2.1+1),v0.2.2.2.1,v0.2.2.2.2),true)))
def mz:FL:=(371,⟨[.val true yD false,.val false tU false],[.val true yD (some true),.val false uD (some true)],λa=>ij a.1 a.2⟩)::my
theorem rK:Gd mz:=tX rJ 371 Tryz.f371 [] Tryz.func371
def il (p0:Int) (i1:List Pt) (t8:Int) (t9:Int) (b0:Int) (b1:Int) (b2:Int) (b3:Int) (b4:Int) (b0_1:Int) (b1_1:Int) (b2_1:Int) (b3_1:Int) (b4_1:Int):Option ((Int×Int×Int×Int×Int×Int×Int×Int×Int×Int×Int×Int)⊕(Int×Int×Int×Int×Int×Int×Int×Int×Int×Int×Int)) :=
 cond (decide (t9<(i1.length:Int)))
 ((at? i1 t9).bind λx24 =>
 (cond (!x24.1)
 (some true)
 ((at? i1 t9).bind λx31 =>
 some (!x31.2.2.1))).bind λt35 =>
 cond t35
 (some (.inl (t8,tP (t9+1),b0,b1,b2,b3,b4,b0_1,b1_1,b2_1,b3_1,b4_1)))
 ((at? i1 t9).bind λx39 =>
 (at? i1 t9).bind λx44 =>
 (ij x39.2.2.2 x44.2.1).bind λt47 =>
 (cond t47.2 (some (decide (t47.1.1<p0))) (some false)).bind λt56 =>
 (cond t56
 ((cond (decide (t8<0))
 (some true)
 ((gg t47.1 (b0_1,b1_1,b2_1,b3_1,b4_1)).bind λt63 =>
 some t63)).bind λt64 =>
 some t64)
 (some false)).bind λt65 =>
 cond t65
 (some (.inl (t9,tP (t9+1),t47.1.1,t47.1.2.1,t47.1.2.2.1,p0,0,t47.1.1,t47.1.2.1,t47.1.2.2.1,t47.1.2.2.2.1,t47.1.2.2.2.2)))
 (some (.inl (t8,tP (t9+1),b0,b1,b2,b3,b4,b0_1,b1_1,b2_1,b3_1,b4_1)))))
 (some (.inr (t8,b0,b1,b2,b3,b4,b0_1,b1_1,b2_1,b3_1,b4_1)))
def eB (p0:Int) (i1:List Pt):Option (zz×Int) :=
 (loop (λz=>il p0 i1 z.1 z.2.1 z.2.2.1 z.2.2.2.1 z.2.2.2.2.1 z.2.2.2.2.2.1 z.2.2.2.2.2.2.1 z.2.2.2.2.2.2.2.1 z.2.2.2.2.2.2.2.2.1 z.2.2.2.2.2.2.2.2.2.1 z.2.2.2.2.2.2.2.2.2.2.1 z.2.2.2.2.2.2.2.2.2.2.2) ((-1),0,p0,0,0,p0,0,0,0,0,0,0)).bind λd =>
 some ((d.2.1,d.2.2.1,d.2.2.2.1,d.2.2.2.2.1,d.2.2.2.2.2.1),d.1)
def mC:FL:=(344,⟨[.val false tU false,.val false (.one (.sl vV)) false],[.val true yD (some true),.val false tU (some true)],λa=>eB a.1 a.2⟩)::mz
theorem rL:Gd mC:=tX rK 344 Tryz.f344 [(0,⟨⟨(8,false,[dI])::(9,false,[dI])::us 29 6 (us 52 4 (us 58 7 [])),[(266240,.box [dI,dI,dI,dI,dI]),(526336,.box [dI,dI,dI,dI,dI])]⟩,
 ⟨[(8,false,[dI])],[(266240,.box [dI,dI,dI,dI,dI]),(526336,.box [dI,dI,dI,dI,dI])]⟩,none⟩)] Tryz.func344
def gh (id0:Int) (l1:List Pt) (port2:Int):Option zz :=
 (eB id0 l1).bind λt12 =>
 some (t12.1.1,t12.1.2.1,t12.1.2.2.1,t12.1.2.2.2.1,port2)
def mD:FL:=(346,⟨[.val false tU false,.val false (.one (.sl vV)) false,.val false tU false],[.val true yD (some true)],λa=>gh a.1 a.2.1 a.2.2⟩)::mC
theorem rM:Gd mD:=tX rL 346 Tryz.f346 [] Tryz.func346
def eC (id0:Int) (l1:List Pt) (port2:Int):Option Int :=
 (ac port2 0 (tP ((l1.length:Int)-1))).bind λt13 =>
 (cond (!t13)
 (some true)
 ((at? l1 port2).bind λx18 =>
 some (!x18.1))).bind λt22 =>
 cond t22
 (some 4)
 ((eB id0 l1).bind λt26 =>
 cond (t26.2==port2)
 (some 1)
 ((at? l1 port2).bind λx36 =>
 (cond (!x36.2.2.1)
 (some true)
 ((gh id0 l1 port2).bind λt44 =>
 (at? l1 port2).bind λx47 =>
 (gg t44 x47.2.2.2).bind λt50 =>
 some t50)).bind λt51 =>
 cond t51 (some 2) (some 3)))
def mE:FL:=(289,⟨[.val false tU false,.val false (.one (.sl vV)) false,.val false tU false],[.val false tU (some true)],λa=>eC a.1 a.2.1 a.2.2⟩)::mD
theorem rN:Gd mE:=tX rM 289 Tryz.f289 [] Tryz.func289
def eD (id0:Int) (l1:List Pt) (n5:Int) (i6:Int):Option ((Int×Int)⊕Int) :=
 (cond (decide (i6<(l1.length:Int))) (some (decide (i6<6))) (some false)).bind λt14 =>
 cond t14
 ((eC id0 l1 i6).bind λt20 =>
 cond (decide (t20<=2))
 ((shl .i64 1 (IntKind.u64.wrap (i6))).bind λt25 =>
 some (.inl (B9 .i64 n5 t25,tP (i6+1))))
 (some (.inl (n5,tP (i6+1)))))
 (some (.inr n5))
def gi (id0:Int) (l1:List Pt):Option Int :=
 (loop (λz=>eD id0 l1 z.1 z.2) (0,0)).bind λd =>
 some d
def mF:FL:=(198,⟨[.val false tU false,.val false (.one (.sl vV)) false],[.val false tU (some true)],λa=>gi a.1 a.2⟩)::mE
theorem rO:Gd mF:=tX rN 198 Tryz.f198 [(0,⟨⟨[(5,false,[dI]),(6,false,[dI]),(12,false,[.undef]),(13,false,[.undef])],[]⟩,
 ⟨[(5,false,[dI])],[]⟩,none⟩)] Tryz.func198
def gj (n0:Int) (port1:Int):Option Bool :=
 (ac port1 0 7).bind λt6 =>
 (cond t6
 ((shr .i64 n0 (IntKind.u64.wrap (port1))).bind λt11 =>
 some ((yJ .i64 t11 1)==1))
 (some false)).bind λt14 =>
 some t14
def mG:FL:=(200,⟨[.val false tU false,.val false tU false],[.val false uD (some true)],λa=>gj a.1 a.2⟩)::mF
theorem rP:Gd mG:=tX rO 200 Tryz.f200 [] Tryz.func200
def da (l0:List tZ) (port1:Int) (i6:Int) (out5:List tZ):Option ((Int×List tZ)⊕(List tZ)) :=
 cond (decide (i6<(l0.length:Int)))
 ((at? l0 i6).bind λx16 =>
 (cond x16.2.2.2.2
 (some true)
 ((at? l0 i6).bind λx22 =>
 some (x22.2.2.1 != port1))).bind λt27 =>
 cond t27
 ((at? l0 i6).bind λx31 =>
 (ut out5 [x31]).bind λzs34 =>
 some (.inl (tP (i6+1),zs34)))
 (some (.inl (tP (i6+1),out5))))
 (some (.inr out5))
def gk (l0:List tZ) (port1:Int):Option (List tZ) :=
 (loop (λz=>da l0 port1 z.1 z.2) (0,([]:List tZ))).bind λd =>
 some d
def mH:FL:=(304,⟨[.val false (.one (.sl uo)) false,.val false tU false],[.val false (.one (.sl uo)) (some true)],λa=>gk a.1 a.2⟩)::mG
theorem rQ:Gd mH:=tX rP 304 Tryz.f304 [(0,⟨⟨(5,false,[.own 1000000000])::(6,false,[dI])::us 20 7 [],[(1000000000,.root uo true)]⟩,
 ⟨[(5,false,[.own 1000000300])],[(1000000300,.root uo true)]⟩,none⟩)] Tryz.func304
def gl (b0:tO) (t13:Int) (i4:Int) (b0_1:Int) (b1:List UInt8) (b6:Int) (b7:Int) (b8:Int) (b9:Int) (b10:Int) (b3:List tZ):Option ((Int×Int×List UInt8×Int×Int×Int×Int×Int×List tZ)⊕(Int×List UInt8×Int×Int×Int×Int×Int×List tZ)) :=
 cond (decide (i4<(b0.2.2.1.length:Int)))
 ((gj t13 i4).bind λt23 =>
 cond (!t23)
 ((gk b3 i4).bind λt28 =>
 some (.inl (tP (i4+1),b0_1,b1,b6,b7,b8,b9,b10,t28)))
 (some (.inl (tP (i4+1),b0_1,b1,b6,b7,b8,b9,b10,b3))))
 (some (.inr (b0_1,b1,b6,b7,b8,b9,b10,b3)))
def dc (b0:tO):Option tO :=
 (cf b0.2.2.2.2.2.2.2.2.2.2).bind λt7 =>
 (gi b0.1 b0.2.2.1).bind λt13 =>
 (loop (λz=>gl b0 t13 z.1 z.2.1 z.2.2.1 z.2.2.2.1 z.2.2.2.2.1 z.2.2.2.2.2.1 z.2.2.2.2.2.2.1 z.2.2.2.2.2.2.2.1 z.2.2.2.2.2.2.2.2) (0,b0.1,b0.2.1,b0.2.2.2.2.2.2.1,b0.2.2.2.2.2.2.2.1,b0.2.2.2.2.2.2.2.2.1,b0.2.2.2.2.2.2.2.2.2.1,t7,b0.2.2.2.1)).bind λd =>
 some (d.1,d.2.1,b0.2.2.1,d.2.2.2.2.2.2.2,b0.2.2.2.2.1,b0.2.2.2.2.2.1,d.2.2.1,d.2.2.2.1,d.2.2.2.2.1,d.2.2.2.2.2.1,d.2.2.2.2.2.2.1)
def mI:FL:=(216,⟨[.val true uc true],[.val true uc (some true)],λa=>dc a⟩)::mH
theorem rR:Gd mI:=tX rQ 216 Tryz.f216 [(0,⟨⟨[(4,false,[dI])],[(1024,.box [dI,dS,.same 3,.own 1000000000,.same 5,.same 6,dI,dI,dI,dI,dI]),(1000000000,.root uo true)]⟩,
 ⟨[],[(1024,.box [dI,dS,.same 3,.own 1000000300,.same 5,.same 6,dI,dI,dI,dI,dI]),(1000000300,.root uo true)]⟩,none⟩)] Tryz.func216
def rS (a0:List Int) (b1:List Int) (i5:Int):Option (Int⊕(Unit⊕Bool)) :=
 cond (decide (i5<(a0.length:Int)))
 ((at? a0 i5).bind λx19 =>
 (at? b1 i5).bind λx23 =>
 cond (x19 != x23) (some (.inr (.inr false))) (some (.inl (tP (i5+1)))))
 (some (.inr (.inl ())))
def cl (a0:List Int) (b1:List Int):Option Bool :=
 cond ((a0.length:Int) != (b1.length:Int))
 (some false)
 ((loop (λz=>rS a0 b1 z) 0).bind (Sum.elim (λd =>
 some true) (λr=>some r)))
def mJ:FL:=(366,⟨[.val false vR false,.val false vR false],[.val false uD (some true)],λa=>cl a.1 a.2⟩)::mI
theorem rT:Gd mJ:=tX rR 366 Tryz.f366 [(0,⟨⟨[(5,false,[dI])],[]⟩,
 ⟨[],[]⟩,some ⟨[(4,false,[dB])],[]⟩⟩)] Tryz.func366
def ip (o0:List Int) (head1:List Int):Option Bool :=
 (cond (decide ((o0.length:Int)>(head1.length:Int)))
 ((cut o0 0 (head1.length:Int)).bind λt14 =>
 (cl t14 head1).bind λt16 =>
 some t16)
 (some false)).bind λt17 =>
 some t17
def mK:FL:=(395,⟨[.val false vR false,.val false vR false],[.val false uD (some true)],λa=>ip a.1 a.2⟩)::mJ
theorem rU:Gd mK:=tX rT 395 Tryz.f395 [] Tryz.func395
def eE (o0:List Int):Option ((List Int)×Bool) :=
 (ip o0 ([1,3,1]:List Int)).bind λt6 =>
 cond (!t6)
 (some (([]:List Int),false))
 ((cut o0 3 (o0.length:Int)).bind λt10 =>
 some (t10,true))
def mL:FL:=(391,⟨[.val false vR false],[.val false vR none,.val false uD (some true)],λa=>eE a⟩)::mK
theorem rV:Gd mL:=tX rU 391 Tryz.f391 [] Tryz.func391
def gm (p0:tO) (i1:List Int):Option Bool :=
 (eE i1).bind λt9 =>
 cond (!t9.2)
 (some false)
 (cond ((t9.1.length:Int)==2)
 ((at? t9.1 0).bind λx18 =>
 (cond (x18==1)
 ((at? t9.1 1).bind λx23 =>
 some (x23==1))
 (some false)).bind λt26 =>
 some t26)
 (cond ((t9.1.length:Int) != 3)
 (some false)
 ((at? t9.1 0).bind λx31 =>
 cond (x31==2)
 ((at? t9.1 1).bind λx36 =>
 (cond (x36==2)
 (some true)
 ((at? t9.1 1).bind λx41 =>
 some (x41==4))).bind λt44 =>
 (cond t44
 ((at? t9.1 2).bind λx47 =>
 (ac x47 1 (p0.2.2.1.length:Int)).bind λt52 =>
 some t52)
 (some false)).bind λt53 =>
 some t53)
 (cond (x31==3)
 ((at? t9.1 1).bind λx57 =>
 (cond (x57==1)
 ((at? t9.1 2).bind λx62 =>
 (ac x62 1 99).bind λt64 =>
 some t64)
 (some false)).bind λt65 =>
 (cond t65
 (some true)
 ((at? t9.1 1).bind λx68 =>
 (cond (x68==2)
 (some true)
 ((at? t9.1 1).bind λx73 =>
 some (x73==3))).bind λt76 =>
 (cond t76
 ((at? t9.1 2).bind λx81 =>
 (ce (p0.2.2.2.2.1,p0.2.2.2.2.2.1) x81).bind λt83 =>
 some (decide (t83>=0)))
 (some false)).bind λt85 =>
 some t85)).bind λt86 =>
 some t86)
 (some false)))))
def mM:FL:=(382,⟨[.val true uc false,.val false vR false],[.val false uD (some true)],λa=>gm a.1 a.2⟩)::mL
theorem rW:Gd mM:=tX rV 382 Tryz.f382 [] Tryz.func382
def cm (l0:List tZ) (tag1:Int) (mac2:Int) (i7:Int):Option (Int⊕(Unit⊕Int)) :=
 cond (decide (i7<(l0.length:Int)))
 ((at? l0 i7).bind λx16 =>
 (cond (x16.1==tag1)
 ((at? l0 i7).bind λx24 =>
 some (x24.2.1==mac2))
 (some false)).bind λt29 =>
 cond t29 (some (.inr (.inr i7))) (some (.inl (tP (i7+1)))))
 (some (.inr (.inl ())))
def gn (l0:List tZ) (tag1:Int) (mac2:Int):Option Int :=
 (loop (λz=>cm l0 tag1 mac2 z) 0).bind (Sum.elim (λd =>
 some (-1)) (λr=>some r))
def mN:FL:=(291,⟨[.val false (.one (.sl uo)) false,.val false tU false,.val false tU false],[.val false tU (some true)],λa=>gn a.1 a.2.1 a.2.2⟩)::mM
theorem rX:Gd mN:=tX rW 291 Tryz.f291 [(0,⟨⟨(7,false,[dI])::us 22 7 [],[]⟩,
 ⟨[],[]⟩,some ⟨[(6,false,[dI])],[]⟩⟩)] Tryz.func291
def gp (p0:tO) (i1:List Int):Option Bool :=
 (eE i1).bind λt9 =>
 cond (!t9.2)
 (some false)
 (cond ((t9.1.length:Int)==2)
 ((at? t9.1 0).bind λx19 =>
 (cond (x19==1)
 ((at? t9.1 1).bind λx24 =>
 (ac x24 2 5).bind λt26 =>
 some t26)
 (some false)).bind λt27 =>
 some t27)
 (cond ((t9.1.length:Int)==3)
 ((at? t9.1 0).bind λx31 =>
 (cond (x31==2)
 ((at? t9.1 1).bind λx36 =>
 (cond (x36==1)
 (some true)
 ((at? t9.1 1).bind λx41 =>
 some (x41==3))).bind λt44 =>
 some t44)
 (some false)).bind λt45 =>
 (cond t45
 ((at? t9.1 2).bind λx48 =>
 (ac x48 1 (p0.2.2.1.length:Int)).bind λt53 =>
 some t53)
 (some false)).bind λt54 =>
 some t54)
 (cond ((t9.1.length:Int)==4)
 ((at? t9.1 0).bind λx58 =>
 (cond (x58==4)
 ((at? t9.1 1).bind λx63 =>
 some (x63==1))
 (some false)).bind λt66 =>
 (cond t66
 ((at? t9.1 2).bind λx71 =>
 (at? t9.1 3).bind λx74 =>
 (gn p0.2.2.2.1 x71 x74).bind λt76 =>
 some (decide (t76>=0)))
 (some false)).bind λt78 =>
 some t78)
 (some false))))
def mO:FL:=(383,⟨[.val true uc false,.val false vR false],[.val false uD (some true)],λa=>gp a.1 a.2⟩)::mN
theorem rY:Gd mO:=tX rX 383 Tryz.f383 [] Tryz.func383
def iq (b0:tO) (c1:Int) (p2:Int) (n3:Int):Option (tO×Int) :=
 cond (c1==2)
 ((ac n3 1 1000).bind λt13 =>
 cond (!t13)
 (some (b0,2))
 ((ix b0.2.2.1.length p2).bind λj20 =>
 (b0.2.2.1[j20]?).bind λx =>
 some ((b0.1,b0.2.1,b0.2.2.1.set j20 (x.1,n3,x.2.2.1,x.2.2.2.1,x.2.2.2.2.1,x.2.2.2.2.2.1,x.2.2.2.2.2.2.1,x.2.2.2.2.2.2.2),b0.2.2.2.1,b0.2.2.2.2.1,b0.2.2.2.2.2.1,b0.2.2.2.2.2.2.1,b0.2.2.2.2.2.2.2.1,b0.2.2.2.2.2.2.2.2.1,b0.2.2.2.2.2.2.2.2.2.1,b0.2.2.2.2.2.2.2.2.2.2),0)))
 ((ix b0.2.2.2.2.2.1.length p2).bind λj28 =>
 (b0.2.2.2.2.2.1[j28]?).bind λx_1 =>
 some ((b0.1,b0.2.1,b0.2.2.1,b0.2.2.2.1,b0.2.2.2.2.1,b0.2.2.2.2.2.1.set j28 n3,b0.2.2.2.2.2.2.1,b0.2.2.2.2.2.2.2.1,b0.2.2.2.2.2.2.2.2.1,b0.2.2.2.2.2.2.2.2.2.1,b0.2.2.2.2.2.2.2.2.2.2),0))
def mP:FL:=(384,⟨[.val true uc true,.val false tU false,.val false tU false,.val false tU false],[.val true uc (some true),.val false tU (some true)],λa=>iq a.1 a.2.1 a.2.2.1 a.2.2.2⟩)::mO
theorem rZ:Gd mP:=tX rY 384 Tryz.f384 [] Tryz.func384
def gq (p0:ve) (i1:ua) (t6:Bool) (t7:Int) (b0:List ua):Option ((Bool×Int×List ua)⊕(Bool×List ua)) :=
 cond (decide (t7<(p0.1.length:Int)))
 ((cond (!t6)
 ((at? p0.1 t7).bind λx26 =>
 some (decide (x26.1>=i1.1)))
 (some false)).bind λt32 =>
 cond t32
 ((ut b0 [i1]).bind λzs37 =>
 (at? p0.1 t7).bind λx42 =>
 cond (x42.1 != i1.1)
 ((at? p0.1 t7).bind λx53 =>
 (ut zs37 [x53]).bind λzs56 =>
 some (.inl (true,tP (t7+1),zs56)))
 (some (.inl (true,tP (t7+1),zs37))))
 ((at? p0.1 t7).bind λx42_1 =>
 cond (x42_1.1 != i1.1)
 ((at? p0.1 t7).bind λx53_1 =>
 (ut b0 [x53_1]).bind λzs56_1 =>
 some (.inl (t6,tP (t7+1),zs56_1)))
 (some (.inl (t6,tP (t7+1),b0)))))
 (some (.inr (t6,b0)))
def cn (p0:ve) (i1:ua):Option ve :=
 (ut ([]:List Int) p0.2).bind λzs11 =>
 (loop (λz=>gq p0 i1 z.1 z.2.1 z.2.2) (false,0,[])).bind λd =>
 cond (!d.1)
 ((ut d.2 [i1]).bind λzs64 =>
 some (zs64,zs11))
 (some (d.2,zs11))
def mQ:FL:=(350,⟨[.val true wy false,.val true uU false],[.val true wy (some true)],λa=>cn a.1 a.2⟩)::mP
theorem s5:Gd mQ:=tX rZ 350 Tryz.f350 [(0,⟨⟨(6,false,[dB])::(7,false,[dI])::us 23 9 [],[(268288,.box [.own 1000000000,.same 266240]),(1000000000,.root uU true)]⟩,
 ⟨[(6,false,[dB])],[(268288,.box [.own 1000000300,.same 266240]),(1000000300,.root uU true)]⟩,none⟩)] Tryz.func350
def ir (b0:tO) (id1:Int) (n2:Int):Option (tO×Int) :=
 (ce (b0.2.2.2.2.1,b0.2.2.2.2.2.1) id1).bind λt12 =>
 (cond (n2==4) (some (decide (t12<0))) (some false)).bind λt19 =>
 (cond t19 (some (decide ((b0.2.2.2.2.1.length:Int)<6))) (some false)).bind λt26 =>
 cond t26
 ((cn (b0.2.2.2.2.1,b0.2.2.2.2.2.1) (id1,0,0)).bind λt31 =>
 some ((b0.1,b0.2.1,b0.2.2.1,b0.2.2.2.1,t31.1,t31.2,b0.2.2.2.2.2.2.1,b0.2.2.2.2.2.2.2.1,b0.2.2.2.2.2.2.2.2.1,b0.2.2.2.2.2.2.2.2.2.1,b0.2.2.2.2.2.2.2.2.2.2),0))
 ((cond (n2==6) (some (decide (t12>=0))) (some false)).bind λt40 =>
 cond t40
 ((vC b0.2.2.2.2.1.length 0 t12).bind λp =>
 (ut ([]:List ua) ((b0.2.2.2.2.1.take p.2).drop p.1)).bind λzs47 =>
 (vC b0.2.2.2.2.1.length (tP (t12+1)) (b0.2.2.2.2.1.length:Int)).bind λp_1 =>
 (ut zs47 ((b0.2.2.2.2.1.take p_1.2).drop p_1.1)).bind λzs54 =>
 some ((b0.1,b0.2.1,b0.2.2.1,b0.2.2.2.1,zs54,b0.2.2.2.2.2.1,b0.2.2.2.2.2.2.1,b0.2.2.2.2.2.2.2.1,b0.2.2.2.2.2.2.2.2.1,b0.2.2.2.2.2.2.2.2.2.1,b0.2.2.2.2.2.2.2.2.2.2),0))
 (some (b0,2)))
def mR:FL:=(392,⟨[.val true uc true,.val false tU false,.val false tU false],[.val true uc (some true),.val false tU (some true)],λa=>ir a.1 a.2.1 a.2.2⟩)::mQ
theorem s6:Gd mR:=tX s5 392 Tryz.f392 [] Tryz.func392
def gt (b0:tO) (c1:Int) (id2:Int) (n3:Int):Option (tO×Int) :=
 cond (c1==1)
 ((ir b0 id2 n3).bind λt16 =>
 some t16)
 ((shl .i64 1 (IntKind.u64.wrap ((b0.2.2.1.length:Int)))).bind λt24 =>
 (ac n3 0 (tP (t24-1))).bind λt26 =>
 cond (!t26)
 (some (b0,2))
 ((ce (b0.2.2.2.2.1,b0.2.2.2.2.2.1) id2).bind λt35 =>
 (ix b0.2.2.2.2.1.length t35).bind λj36 =>
 (b0.2.2.2.2.1[j36]?).bind λx37 =>
 cond (c1==2)
 ((cn (b0.2.2.2.2.1,b0.2.2.2.2.2.1) (x37.1,n3,x37.2.2)).bind λt47 =>
 some ((b0.1,b0.2.1,b0.2.2.1,b0.2.2.2.1,t47.1,t47.2,b0.2.2.2.2.2.2.1,b0.2.2.2.2.2.2.2.1,b0.2.2.2.2.2.2.2.2.1,b0.2.2.2.2.2.2.2.2.2.1,b0.2.2.2.2.2.2.2.2.2.2),0))
 ((cn (b0.2.2.2.2.1,b0.2.2.2.2.2.1) (x37.1,x37.2.1,n3)).bind λt47_1 =>
 some ((b0.1,b0.2.1,b0.2.2.1,b0.2.2.2.1,t47_1.1,t47_1.2,b0.2.2.2.2.2.2.1,b0.2.2.2.2.2.2.2.1,b0.2.2.2.2.2.2.2.2.1,b0.2.2.2.2.2.2.2.2.2.1,b0.2.2.2.2.2.2.2.2.2.2),0))))
def mS:FL:=(385,⟨[.val true uc true,.val false tU false,.val false tU false,.val false tU false],[.val true uc (some true),.val false tU (some true)],λa=>gt a.1 a.2.1 a.2.2.1 a.2.2.2⟩)::mR
theorem s7:Gd mS:=tX s6 385 Tryz.f385 [] Tryz.func385
def eF (p0:tO) (i1:tQ):Option (tO×Int) :=
 (ak p0).bind λt9 =>
 (gm p0 i1.1).bind λt13 =>
 cond (!t13)
 ((gp p0 i1.1).bind λt18 =>
 cond t18 (some (t9,4)) (some (t9,3)))
 ((cut i1.1 3 (i1.1.length:Int)).bind λt23 =>
 (at? t23 0).bind λx25 =>
 cond (x25==1)
 (cond (i1.2.1 != 4)
 (some (t9,1))
 (let t34:=decide ((i1.2.2.2.1.length:Int)>10)
 cond t34
 (some (t9,2))
 (some ((t9.1,i1.2.2.2.1,t9.2.2.1,t9.2.2.2.1,t9.2.2.2.2.1,t9.2.2.2.2.2.1,t9.2.2.2.2.2.2.1,t9.2.2.2.2.2.2.2.1,t9.2.2.2.2.2.2.2.2.1,t9.2.2.2.2.2.2.2.2.2.1,t9.2.2.2.2.2.2.2.2.2.2),0))))
 (cond (i1.2.1 != 2)
 (some (t9,1))
 ((at? t23 0).bind λx52 =>
 cond (x52==2)
 ((at? t23 1).bind λx57 =>
 (at? t23 2).bind λx60 =>
 (iq t9 x57 (tP (x60-1)) i1.2.2.1).bind λt66 =>
 some t66)
 ((at? t23 1).bind λx71 =>
 (at? t23 2).bind λx74 =>
 (gt t9 x71 x74 i1.2.2.1).bind λt79 =>
 some t79))))
def mT:FL:=(367,⟨[.val true uc false,.val true u5 false],[.val true uc (some true),.val false tU (some true)],λa=>eF a.1 a.2⟩)::mS
theorem s8:Gd mT:=tX s7 367 Tryz.f367 [] Tryz.func367
def eG (p0:tO) (i1:List tQ) (t8:Int) (t9:Int) (b0_2:Int) (b1_2:List UInt8) (b6_2:Int) (b7_2:Int) (b8_2:Int) (b9_2:Int) (b10_2:Int):Option ((Int×Int×List UInt8×Int×Int×Int×Int×Int)⊕((Int×List UInt8×Int×Int×Int×Int×Int)⊕(Int×Int×Int×List UInt8×Int×Int×Int×Int×Int×List Pt×List tZ×List ua×List Int))) :=
 cond (decide (t9<t8))
 ((at? i1 t9).bind λx36 =>
 (at? i1 t8).bind λx41 =>
 (cl x36.1 x41.1).bind λt44 =>
 cond t44
 ((ak p0).bind λt46 =>
 some (.inr (.inr (5,tP (t8+1),t46.1,t46.2.1,t46.2.2.2.2.2.2.1,t46.2.2.2.2.2.2.2.1,t46.2.2.2.2.2.2.2.2.1,t46.2.2.2.2.2.2.2.2.2.1,t46.2.2.2.2.2.2.2.2.2.2,t46.2.2.1,t46.2.2.2.1,t46.2.2.2.2.1,t46.2.2.2.2.2.1))))
 (some (.inl (tP (t9+1),b0_2,b1_2,b6_2,b7_2,b8_2,b9_2,b10_2))))
 (some (.inr (.inl (b0_2,b1_2,b6_2,b7_2,b8_2,b9_2,b10_2))))
def gu (p0:tO) (i1:List tQ) (t8:Int) (b0:Int) (b1:List UInt8) (b6:Int) (b7:Int) (b8:Int) (b9:Int) (b10:Int) (b0_1:Int) (b1_1:List UInt8) (b6_1:Int) (b7_1:Int) (b8_1:Int) (b9_1:Int) (b10_1:Int) (b2:List Pt) (b3:List tZ) (b4:List ua) (b5:List Int) (b2_1:List Pt) (b3_1:List tZ) (b4_1:List ua) (b5_1:List Int):Option ((Int×Int×List UInt8×Int×Int×Int×Int×Int×Int×List UInt8×Int×Int×Int×Int×Int×List Pt×List tZ×List ua×List Int×List Pt×List tZ×List ua×List Int)⊕((Int×List UInt8×Int×Int×Int×Int×Int×Int×List UInt8×Int×Int×Int×Int×Int×List Pt×List tZ×List ua×List Int×List Pt×List tZ×List ua×List Int)⊕(Int×Int×Int×List UInt8×Int×Int×Int×Int×Int×List Pt×List tZ×List ua×List Int))) :=
 cond (decide (t8<(i1.length:Int)))
 ((loop (λz=>eG p0 i1 t8 z.1 z.2.1 z.2.2.1 z.2.2.2.1 z.2.2.2.2.1 z.2.2.2.2.2.1 z.2.2.2.2.2.2.1 z.2.2.2.2.2.2.2) (0,b0,b1,b6,b7,b8,b9,b10)).bind (Sum.elim (λd =>
 (at? i1 t8).bind λx53 =>
 (eF (b0_1,b1_1,b2_1,b3_1,b4_1,b5_1,b6_1,b7_1,b8_1,b9_1,b10_1) x53).bind λt55 =>
 cond (t55.2 != 0)
 ((ak p0).bind λt61 =>
 some (.inr (.inr (t55.2,tP (t8+1),t61.1,t61.2.1,t61.2.2.2.2.2.2.1,t61.2.2.2.2.2.2.2.1,t61.2.2.2.2.2.2.2.2.1,t61.2.2.2.2.2.2.2.2.2.1,t61.2.2.2.2.2.2.2.2.2.2,t61.2.2.1,t61.2.2.2.1,t61.2.2.2.2.1,t61.2.2.2.2.2.1))))
 (some (.inl (tP (t8+1),d.1,d.2.1,d.2.2.1,d.2.2.2.1,d.2.2.2.2.1,d.2.2.2.2.2.1,d.2.2.2.2.2.2,t55.1.1,t55.1.2.1,t55.1.2.2.2.2.2.2.1,t55.1.2.2.2.2.2.2.2.1,t55.1.2.2.2.2.2.2.2.2.1,t55.1.2.2.2.2.2.2.2.2.2.1,t55.1.2.2.2.2.2.2.2.2.2.2,b2,b3,b4,b5,t55.1.2.2.1,t55.1.2.2.2.1,t55.1.2.2.2.2.1,t55.1.2.2.2.2.2.1)))) (λr=>some (.inr (.inr r)))))
 (some (.inr (.inl (b0,b1,b6,b7,b8,b9,b10,b0_1,b1_1,b6_1,b7_1,b8_1,b9_1,b10_1,b2,b3,b4,b5,b2_1,b3_1,b4_1,b5_1))))
def gv (p0:tO) (i1:List tQ):Option (tO×Int×Int) :=
 (ak p0).bind λt13 =>
 (bn p0).bind λt15 =>
 (cond (!t15) (some (decide ((i1.length:Int)>0))) (some false)).bind λt21 =>
 cond t21
 (some (t13,3,1))
 ((loop (λz=>gu p0 i1 z.1 z.2.1 z.2.2.1 z.2.2.2.1 z.2.2.2.2.1 z.2.2.2.2.2.1 z.2.2.2.2.2.2.1 z.2.2.2.2.2.2.2.1 z.2.2.2.2.2.2.2.2.1 z.2.2.2.2.2.2.2.2.2.1 z.2.2.2.2.2.2.2.2.2.2.1 z.2.2.2.2.2.2.2.2.2.2.2.1 z.2.2.2.2.2.2.2.2.2.2.2.2.1 z.2.2.2.2.2.2.2.2.2.2.2.2.2.1 z.2.2.2.2.2.2.2.2.2.2.2.2.2.2.1 z.2.2.2.2.2.2.2.2.2.2.2.2.2.2.2.1 z.2.2.2.2.2.2.2.2.2.2.2.2.2.2.2.2.1 z.2.2.2.2.2.2.2.2.2.2.2.2.2.2.2.2.2.1 z.2.2.2.2.2.2.2.2.2.2.2.2.2.2.2.2.2.2.1 z.2.2.2.2.2.2.2.2.2.2.2.2.2.2.2.2.2.2.2.1 z.2.2.2.2.2.2.2.2.2.2.2.2.2.2.2.2.2.2.2.2.1 z.2.2.2.2.2.2.2.2.2.2.2.2.2.2.2.2.2.2.2.2.2.1 z.2.2.2.2.2.2.2.2.2.2.2.2.2.2.2.2.2.2.2.2.2.2) (0,0,[],0,0,0,0,0,t13.1,t13.2.1,t13.2.2.2.2.2.2.1,t13.2.2.2.2.2.2.2.1,t13.2.2.2.2.2.2.2.2.1,t13.2.2.2.2.2.2.2.2.2.1,t13.2.2.2.2.2.2.2.2.2.2,[],[],[],[],t13.2.2.1,t13.2.2.2.1,t13.2.2.2.2.1,t13.2.2.2.2.2.1)).bind (Sum.elim (λd_1 =>
 cond ((i1.length:Int)==0)
 (some ((d_1.2.2.2.2.2.2.2.1,d_1.2.2.2.2.2.2.2.2.1,d_1.2.2.2.2.2.2.2.2.2.2.2.2.2.2.2.2.2.2.1,d_1.2.2.2.2.2.2.2.2.2.2.2.2.2.2.2.2.2.2.2.1,d_1.2.2.2.2.2.2.2.2.2.2.2.2.2.2.2.2.2.2.2.2.1,d_1.2.2.2.2.2.2.2.2.2.2.2.2.2.2.2.2.2.2.2.2.2,d_1.2.2.2.2.2.2.2.2.2.1,d_1.2.2.2.2.2.2.2.2.2.2.1,d_1.2.2.2.2.2.2.2.2.2.2.2.1,d_1.2.2.2.2.2.2.2.2.2.2.2.2.1,d_1.2.2.2.2.2.2.2.2.2.2.2.2.2.1),0,0))
 ((cR d_1.2.2.2.2.2.2.2.2.2.2.2.2.2.2.2.2.2.2.2.2 (d_1.2.2.2.2.2.2.2.2.2.2.2.2.2.2.2.2.2.2.1.length:Int)).bind λt75 =>
 cond (!t75)
 ((ak p0).bind λt78 =>
 some (t78,5,(i1.length:Int)))
 ((dc (d_1.2.2.2.2.2.2.2.1,d_1.2.2.2.2.2.2.2.2.1,d_1.2.2.2.2.2.2.2.2.2.2.2.2.2.2.2.2.2.2.1,d_1.2.2.2.2.2.2.2.2.2.2.2.2.2.2.2.2.2.2.2.1,d_1.2.2.2.2.2.2.2.2.2.2.2.2.2.2.2.2.2.2.2.2.1,d_1.2.2.2.2.2.2.2.2.2.2.2.2.2.2.2.2.2.2.2.2.2,d_1.2.2.2.2.2.2.2.2.2.1,d_1.2.2.2.2.2.2.2.2.2.2.1,d_1.2.2.2.2.2.2.2.2.2.2.2.1,d_1.2.2.2.2.2.2.2.2.2.2.2.2.1,d_1.2.2.2.2.2.2.2.2.2.2.2.2.2.1)).bind λt82 =>
 some (t82,0,0)))) (λr_1=>some ((r_1.2.2.1,r_1.2.2.2.1,r_1.2.2.2.2.2.2.2.2.2.1,r_1.2.2.2.2.2.2.2.2.2.2.1,r_1.2.2.2.2.2.2.2.2.2.2.2.1,r_1.2.2.2.2.2.2.2.2.2.2.2.2,r_1.2.2.2.2.1,r_1.2.2.2.2.2.1,r_1.2.2.2.2.2.2.1,r_1.2.2.2.2.2.2.2.1,r_1.2.2.2.2.2.2.2.2.1),r_1.1,r_1.2.1))))
def mU:FL:=(334,⟨[.val true uc false,.val false (.one (.sl u5)) false],[.val true uc (some true),.val false tU (some true),.val false tU (some true)],λa=>gv a.1 a.2⟩)::mT
theorem s9:Gd mU:=tX s8 334 Tryz.f334 [(0,⟨⟨[(8,false,[dI])],[(2048,.box [dI,dS,.own 1000000000,.own 1000000001,.own 1000000002,.own 1000000003,dI,dI,dI,dI,dI]),(265216,.box [dI,dS,.own 1000000004,.own 1000000005,.own 1000000006,.own 1000000007,dI,dI,dI,dI,dI]),(1000000000,.root vV true),(1000000001,.root uo true),(1000000002,.root uU true),(1000000003,.root tU true),(1000000004,.root vV true),(1000000005,.root uo true),(1000000006,.root uU true),(1000000007,.root tU true)]⟩,
 ⟨[],[(2048,.box [dI,dS,.own 1000000300,.own 1000000301,.own 1000000302,.own 1000000303,dI,dI,dI,dI,dI]),(265216,.box [dI,dS,.own 1000000304,.own 1000000305,.own 1000000306,.own 1000000307,dI,dI,dI,dI,dI]),(1000000300,.root vV true),(1000000301,.root uo true),(1000000302,.root uU true),(1000000303,.root tU true),(1000000304,.root vV true),(1000000305,.root uo true),(1000000306,.root uU true),(1000000307,.root tU true)]⟩,some ⟨[(5,false,[dI]),(6,false,[dI])],[(2048,.box [dI,dS,.own 1000000600,.own 1000000601,.own 1000000602,.own 1000000603,dI,dI,dI,dI,dI]),(1000000600,.root vV true),(1000000601,.root uo true),(1000000602,.root uU true),(1000000603,.root tU true)]⟩⟩),
 (2,⟨⟨[(9,false,[dI])],[(2048,.box [dI,dS,.same 1000000000,.same 1000000001,.same 1000000002,.same 1000000003,dI,dI,dI,dI,dI])]⟩,
 ⟨[],[(2048,.box [dI,dS,.same 1000000000,.same 1000000001,.same 1000000002,.same 1000000003,dI,dI,dI,dI,dI])]⟩,some ⟨[(5,false,[dI]),(6,false,[dI])],[(2048,.box [dI,dS,.own 1000002600,.own 1000002601,.own 1000002602,.own 1000002603,dI,dI,dI,dI,dI]),(1000002600,.root vV true),(1000002601,.root uo true),(1000002602,.root uU true),(1000002603,.root tU true)]⟩⟩)] Tryz.func334
def eH (b0:tO) (p1:um):Option (tO×um) :=
 (cc p1.2.2.2.2).bind λt14 =>
 (gv b0 p1.2.2.2.2).bind λt20 =>
 (cZ (162,p1.2.1,t20.2.1,t20.2.2,t14)).bind λt29 =>
 (cond (!t29) (some true) (some (t20.2.1 != 0))).bind λt34 =>
 cond t34
 ((ak b0).bind λt36 =>
 (ck (162,p1.2.1,t20.2.1,t20.2.2,t14) false).bind λt38 =>
 some (t36,t38))
 (some (t20.1,(162,p1.2.1,t20.2.1,t20.2.2,t14)))
def mV:FL:=(275,⟨[.val true uc false,.val true vT false],[.val true uc (some true),.val true vT (some true)],λa=>eH a.1 a.2⟩)::mU
theorem sa:Gd mV:=tX s9 275 Tryz.f275 [] Tryz.func275
def gw (p0:ue) (i1:Int):Option (ue×List vB) :=
 (ix p0.2.2.2.2.2.2.2.2.2.2.2.2.1.length i1).bind λj14 =>
 (p0.2.2.2.2.2.2.2.2.2.2.2.2.1[j14]?).bind λx15 =>
 cond (p0.2.2.2.2.2.2.2.2.2.2.1==x15.2.2.2.2.2.2.2.2.2.2.2.2.2.2.2.2.2.2.1)
 ((eH (p0.1,p0.2.1,p0.2.2.1,p0.2.2.2.1,p0.2.2.2.2.1,p0.2.2.2.2.2.1,p0.2.2.2.2.2.2.1,p0.2.2.2.2.2.2.2.1,p0.2.2.2.2.2.2.2.2.1,p0.2.2.2.2.2.2.2.2.2.1,p0.2.2.2.2.2.2.2.2.2.2.1) (x15.2.2.2.1,x15.2.2.2.2.1,x15.2.2.2.2.2.1,x15.2.2.2.2.2.2.1,x15.2.2.2.2.2.2.2.1)).bind λt32 =>
 (cY (t32.1.1,t32.1.2.1,t32.1.2.2.1,t32.1.2.2.2.1,t32.1.2.2.2.2.1,t32.1.2.2.2.2.2.1,t32.1.2.2.2.2.2.2.1,t32.1.2.2.2.2.2.2.2.1,t32.1.2.2.2.2.2.2.2.2.1,t32.1.2.2.2.2.2.2.2.2.2.1,t32.1.2.2.2.2.2.2.2.2.2.2,p0.2.2.2.2.2.2.2.2.2.2.2.1,p0.2.2.2.2.2.2.2.2.2.2.2.2.1,p0.2.2.2.2.2.2.2.2.2.2.2.2.2.1,p0.2.2.2.2.2.2.2.2.2.2.2.2.2.2) i1 t32.2).bind λt42 =>
 some t42)
 (cond (decide (x15.2.2.2.2.2.2.2.2.2.2.2.2.2.2.2.2.2.2.2.2>=3))
 ((cc x15.2.2.2.2.2.2.2.1).bind λt52 =>
 (ck (162,x15.2.2.2.2.1,6,1,t52) false).bind λt57 =>
 (cY p0 i1 t57).bind λt58 =>
 some t58)
 ((ix p0.2.2.2.2.2.2.2.2.2.2.2.2.1.length i1).bind λj67 =>
 (p0.2.2.2.2.2.2.2.2.2.2.2.2.1[j67]?).bind λx =>
 (ez (p0.1,p0.2.1,p0.2.2.1,p0.2.2.2.1,p0.2.2.2.2.1,p0.2.2.2.2.2.1,p0.2.2.2.2.2.2.1,p0.2.2.2.2.2.2.2.1,p0.2.2.2.2.2.2.2.2.1,p0.2.2.2.2.2.2.2.2.2.1,p0.2.2.2.2.2.2.2.2.2.2.1,p0.2.2.2.2.2.2.2.2.2.2.2.1,p0.2.2.2.2.2.2.2.2.2.2.2.2.1.set j67 (x.1,x.2.1,x.2.2.1,x.2.2.2.1,x.2.2.2.2.1,x.2.2.2.2.2.1,x.2.2.2.2.2.2.1,x.2.2.2.2.2.2.2.1,x.2.2.2.2.2.2.2.2.1,x.2.2.2.2.2.2.2.2.2.1,x.2.2.2.2.2.2.2.2.2.2.1,x.2.2.2.2.2.2.2.2.2.2.2.1,x.2.2.2.2.2.2.2.2.2.2.2.2.1,x.2.2.2.2.2.2.2.2.2.2.2.2.2.1,x.2.2.2.2.2.2.2.2.2.2.2.2.2.2.1,x.2.2.2.2.2.2.2.2.2.2.2.2.2.2.2.1,x.2.2.2.2.2.2.2.2.2.2.2.2.2.2.2.2.1,x.2.2.2.2.2.2.2.2.2.2.2.2.2.2.2.2.2.1,x.2.2.2.2.2.2.2.2.2.2.2.2.2.2.2.2.2.2.1,x.2.2.2.2.2.2.2.2.2.2.2.2.2.2.2.2.2.2.2.1,tP (x15.2.2.2.2.2.2.2.2.2.2.2.2.2.2.2.2.2.2.2.2+1)),p0.2.2.2.2.2.2.2.2.2.2.2.2.2.1,p0.2.2.2.2.2.2.2.2.2.2.2.2.2.2) i1).bind λt71 =>
 some (t71,([]:List vB))))
def mW:FL:=(181,⟨[.ptr uN (some false),.val false tU false],[.val false (.one (.sl xE)) (some false)],λa=>gw a.1 a.2⟩)::mV
theorem sc:Gd mW:=tX sa 181 Tryz.f181 [] Tryz.func181
def iu (b0:tO) (p1:um):Option Bool :=
 (bn b0).bind λt6 =>
 (cond t6
 ((bp p1).bind λt9 =>
 some t9)
 (some false)).bind λt10 =>
 (cond t10 (some (p1.1 != 162)) (some false)).bind λt15 =>
 some t15
def mX:FL:=(277,⟨[.val true uc false,.val true vT false],[.val false uD (some true)],λa=>iu a.1 a.2⟩)::mW
theorem sd:Gd mX:=tX sc 277 Tryz.f277 [] Tryz.func277
def co (l0:List Int):Option (List Int) :=
 (ut ([1,3,1]:List Int) l0).bind λzs5 =>
 some zs5
def mY:FL:=(307,⟨[.val false vR false],[.val false vR (some true)],λa=>co a⟩)::mX
theorem se:Gd mY:=tX sd 307 Tryz.f307 [] Tryz.func307
def iv (n0:Int):Option wJ :=
 some (2,n0,[],[])
def mZ:FL:=(219,⟨[.val false tU false],[.val true xQ (some true)],λa=>iv a⟩)::mY
theorem sf:Gd mZ:=tX se 219 Tryz.f219 [] Tryz.func219
def af (out0:List tQ) (name1:List Int) (n2:Int):Option (List tQ) :=
 (co name1).bind λt9 =>
 (iv n2).bind λt11 =>
 (ut out0 [(t9,t11.1,t11.2.1,t11.2.2.1,t11.2.2.2)]).bind λzs14 =>
 some zs14
def n7:FL:=(351,⟨[.val false (.one (.sl u5)) true,.val false vR false,.val false tU false],[.val false (.one (.sl u5)) (some true)],λa=>af a.1 a.2.1 a.2.2⟩)::mZ
theorem sg:Gd n7:=tX sf 351 Tryz.f351 [] Tryz.func351
def gx (b0:tO) (c1:Int) (p2:Int):Option Int :=
 cond (c1==1)
 ((at? b0.2.2.1 p2).bind λx13 =>
 cond x13.1 (some 1) (some 0))
 (cond (c1==2)
 ((at? b0.2.2.1 p2).bind λx21 =>
 some x21.2.1)
 (cond (c1==3)
 ((eC b0.1 b0.2.2.1 p2).bind λt31 =>
 some t31)
 ((at? b0.2.2.2.2.2.1 p2).bind λx36 =>
 some x36)))
def n8:FL:=(352,⟨[.val true uc false,.val false tU false,.val false tU false],[.val false tU (some true)],λa=>gx a.1 a.2.1 a.2.2⟩)::n7
theorem si:Gd n8:=tX sg 352 Tryz.f352 [] Tryz.func352
def iw (r0:ua) (c1:Int):Option Int :=
 cond (c1==1) (some 1) (cond (c1==2) (some r0.2.1) (some r0.2.2))
def n9:FL:=(353,⟨[.val true uU false,.val false tU false],[.val false tU (some true)],λa=>iw a.1 a.2⟩)::n8
theorem sj:Gd n9:=tX si 353 Tryz.f353 [] Tryz.func353
def iy (p0:tO) (t4:Int) (t5:Int) (t3_1:List tQ):Option ((Int×List tQ)⊕(List tQ)) :=
 cond (decide (t5<(p0.2.2.1.length:Int)))
 ((gx p0 t4 t5).bind λt59 =>
 (af t3_1 [2,t4,tP (t5+1)] t59).bind λt60 =>
 some (.inl (tP (t5+1),t60)))
 (some (.inr t3_1))
def iz (p0:tO) (t4:Int) (t3:List tQ):Option ((Int×List tQ)⊕(List tQ)) :=
 cond (decide (t4<=4))
 ((loop (λz=>iy p0 t4 z.1 z.2) (0,t3)).bind λd =>
 some (.inl (tP (t4+1),d)))
 (some (.inr t3))
def iA (p0:tO) (t6:Int) (t7:Int) (t3_5:List tQ):Option ((Int×List tQ)⊕(List tQ)) :=
 cond (decide (t7<(p0.2.2.2.2.1.length:Int)))
 ((at? p0.2.2.2.2.1 t7).bind λx79 =>
 (at? p0.2.2.2.2.1 t7).bind λx87 =>
 (iw x87 t6).bind λt90 =>
 (af t3_5 [3,t6,x79.1] t90).bind λt91 =>
 some (.inl (tP (t7+1),t91)))
 (some (.inr t3_5))
def eI (p0:tO) (t6:Int) (t3_4:List tQ):Option ((Int×List tQ)⊕(List tQ)) :=
 cond (decide (t6<=3))
 ((loop (λz=>iA p0 t6 z.1 z.2) (0,t3_4)).bind λd_2 =>
 some (.inl (tP (t6+1),d_2)))
 (some (.inr t3_4))
def iB (p0:tO) (t8:Int) (t3_8:List tQ):Option ((Int×List tQ)⊕(List tQ)) :=
 cond (decide (t8<(p0.2.2.2.1.length:Int)))
 ((at? p0.2.2.2.1 t8).bind λx103 =>
 (at? p0.2.2.2.1 t8).bind λx109 =>
 (at? p0.2.2.2.1 t8).bind λx116 =>
 (af t3_8 [4,1,x103.1,x109.2.1] (tP (x116.2.2.1+1))).bind λt120 =>
 some (.inl (tP (t8+1),t120)))
 (some (.inr t3_8))
def de (p0:tO):Option (List tQ) :=
 (bn p0).bind λt10 =>
 cond (!t10)
 (some ([]:List tQ))
 ((co ([1,1]:List Int)).bind λt14 =>
 (af ([(t14,4,0,p0.2.1,[])]) ([1,2]:List Int) p0.2.2.2.2.2.2.1).bind λt24 =>
 (af t24 ([1,3]:List Int) p0.2.2.2.2.2.2.2.1).bind λt29 =>
 (af t29 ([1,4]:List Int) p0.2.2.2.2.2.2.2.2.1).bind λt34 =>
 (af t34 ([1,5]:List Int) p0.2.2.2.2.2.2.2.2.2.1).bind λt39 =>
 (loop (λz=>iz p0 z.1 z.2) (1,t39)).bind λd_1 =>
 (loop (λz=>eI p0 z.1 z.2) (1,d_1)).bind λd_3 =>
 (loop (λz=>iB p0 z.1 z.2) (0,d_3)).bind λd_4 =>
 some d_4)
def na:FL:=(306,⟨[.val true uc false],[.val false (.one (.sl u5)) (some true)],λa=>de a⟩)::n9
theorem sk:Gd na:=tX sj 306 Tryz.f306 [(0,⟨⟨[(3,false,[.own 1000000000]),(4,false,[dI])],[(1000000000,.root u5 true)]⟩,
 ⟨[(3,false,[.own 1000000300])],[(1000000300,.root u5 true)]⟩,none⟩),
 (2,⟨⟨[(3,false,[.own 1000002000]),(5,false,[dI])],[(1000002000,.root u5 true)]⟩,
 ⟨[(3,false,[.own 1000002300])],[(1000002300,.root u5 true)]⟩,none⟩),
 (4,⟨⟨[(3,false,[.own 1000004000]),(6,false,[dI])],[(1000004000,.root u5 true)]⟩,
 ⟨[(3,false,[.own 1000004300])],[(1000004300,.root u5 true)]⟩,none⟩),
 (6,⟨⟨[(3,false,[.own 1000006000]),(7,false,[dI])],[(1000006000,.root u5 true)]⟩,
 ⟨[(3,false,[.own 1000006300])],[(1000006300,.root u5 true)]⟩,none⟩),
 (8,⟨⟨[(3,false,[.own 1000008000]),(8,false,[dI])],[(1000008000,.root u5 true)]⟩,
 ⟨[(3,false,[.own 1000008300])],[(1000008300,.root u5 true)]⟩,none⟩)] Tryz.func306
def sm (a0:List Int) (b1:List Int) (i5:Int):Option (Int⊕(Unit⊕Bool)) :=
 (cond (decide (i5<(a0.length:Int))) (some (decide (i5<(b1.length:Int)))) (some false)).bind λt15 =>
 cond t15
 ((at? a0 i5).bind λx20 =>
 (at? b1 i5).bind λx24 =>
 cond (x20 != x24)
 ((at? a0 i5).bind λx29 =>
 (at? b1 i5).bind λx33 =>
 some (.inr (.inr (decide (x29<x33)))))
 (some (.inl (tP (i5+1)))))
 (some (.inr (.inl ())))
def iC (a0:List Int) (b1:List Int):Option Bool :=
 (loop (λz=>sm a0 b1 z) 0).bind (Sum.elim (λd =>
 let t4:=decide ((a0.length:Int)<(b1.length:Int))
 some t4) (λr=>some r))
def nb:FL:=(386,⟨[.val false vR false,.val false vR false],[.val false uD (some true)],λa=>iC a.1 a.2⟩)::na
theorem sn:Gd nb:=tX sk 386 Tryz.f386 [(0,⟨⟨(5,false,[dI])::us 11 4 [],[]⟩,
 ⟨[],[]⟩,some ⟨[(4,false,[dB])],[]⟩⟩)] Tryz.func386
def iD (o1:List Int) (t8:List tQ) (i6:Int) (b1:Int) (b2:Int) (b3:List UInt8) (b0_1:List Int) (b4:List Int):Option ((Int×Int×Int×List UInt8×List Int×List Int)⊕((Int×Int×List UInt8×List Int×List Int)⊕(List Int×Int×Int×List UInt8×List Int))) :=
 cond (decide (i6<(t8.length:Int)))
 ((ix t8.length i6).bind λj18 =>
 (t8[j18]?).bind λx20 =>
 (iC o1 x20.1).bind λt21 =>
 cond t21
 ((ix t8.length i6).bind λj24 =>
 (t8[j24]?).bind λx25 =>
 some (.inr (.inr x25)))
 (some (.inl (tP (i6+1),b1,b2,b3,b0_1,b4))))
 (some (.inr (.inl (b1,b2,b3,b0_1,b4))))
def gy (b0:tO) (o1:List Int):Option tQ :=
 (de b0).bind λt8 =>
 (loop (λz=>iD o1 t8 z.1 z.2.1 z.2.2.1 z.2.2.2.1 z.2.2.2.2.1 z.2.2.2.2.2) (0,0,0,[],[],[])).bind (Sum.elim (λd =>
 (ut ([]:List Int) o1).bind λzs28 =>
 some (zs28,130,0,[],[])) (λr=>some r))
def nc:FL:=(368,⟨[.val true uc false,.val false vR false],[.val true u5 none],λa=>gy a.1 a.2⟩)::nb
theorem so:Gd nc:=tX sn 368 Tryz.f368 [(0,⟨⟨[(6,false,[dI])],[(2048,.box [.own 1000000000,dI,dI,dS,.own 1000000001]),(1000000000,.root tU true),(1000000001,.root tU true)]⟩,
 ⟨[],[(2048,.box [.own 1000000300,dI,dI,dS,.own 1000000301]),(1000000300,.root tU true),(1000000301,.root tU true)]⟩,some ⟨[],[(2048,.box [.dat (.sl tU),dI,dI,dS,.dat (.sl tU)])]⟩⟩)] Tryz.func368
def eJ (b0:tO) (from1:List tQ) (i6:Int) (out5:List tQ):Option ((Int×List tQ)⊕(List tQ)) :=
 cond (decide (i6<(from1.length:Int)))
 ((at? from1 i6).bind λx16 =>
 cond (x16.2.1==130)
 ((at? from1 i6).bind λx24 =>
 (ut out5 [x24]).bind λzs27 =>
 some (.inl (tP (i6+1),zs27)))
 ((at? from1 i6).bind λx32 =>
 (gy b0 x32.1).bind λt35 =>
 (ut out5 [t35]).bind λzs37 =>
 some (.inl (tP (i6+1),zs37))))
 (some (.inr out5))
def aX (b0:tO) (from1:List tQ):Option (List tQ) :=
 (loop (λz=>eJ b0 from1 z.1 z.2) (0,([]:List tQ))).bind λd =>
 some d
def nd:FL:=(336,⟨[.val true uc false,.val false (.one (.sl u5)) false],[.val false (.one (.sl u5)) (some false)],λa=>aX a.1 a.2⟩)::nc
theorem sq:Gd nd:=tX so 336 Tryz.f336 [(0,⟨⟨[(5,false,[.own 1000000000]),(6,false,[dI])],[(1000000000,.root u5 false)]⟩,
 ⟨[(5,false,[.own 1000000300])],[(1000000300,.root u5 false)]⟩,none⟩)] Tryz.func336
def eK (l0:List tQ) (i4:Int) (out3:List tQ):Option ((Int×List tQ)⊕(List tQ)) :=
 cond (decide (i4<(l0.length:Int)))
 ((at? l0 i4).bind λx15 =>
 (ut out3 ([(x15.1,5,0,[],[])])).bind λzs21 =>
 some (.inl (tP (i4+1),zs21)))
 (some (.inr out3))
def cp (l0:List tQ):Option (List tQ) :=
 (loop (λz=>eK l0 z.1 z.2) (0,([]:List tQ))).bind λd =>
 some d
def ne:FL:=(337,⟨[.val false (.one (.sl u5)) false],[.val false (.one (.sl u5)) (some false)],λa=>cp a⟩)::nd
theorem sr:Gd ne:=tX sq 337 Tryz.f337 [(0,⟨⟨[(3,false,[.own 1000000000]),(4,false,[dI])],[(1000000000,.root u5 false)]⟩,
 ⟨[(3,false,[.own 1000000300])],[(1000000300,.root u5 false)]⟩,none⟩)] Tryz.func337
def br (b0:tO) (p1:um) (told8:List tQ) (i9:Int) (out7:List tQ):Option ((List tQ×Int×List tQ)⊕(List tQ)) :=
 (cond (decide (i9<p1.2.2.2.1)) (some (decide ((told8.length:Int)>0))) (some false)).bind λt39 =>
 (cond t39 (some (decide ((out7.length:Int)<10))) (some false)).bind λt44 =>
 cond t44
 ((aX b0 told8).bind λt49 =>
 (ut out7 t49).bind λzs52 =>
 some (.inl (t49,tP (i9+1),zs52)))
 (some (.inr out7))
def su (b0:tO) (p1:um) (told8_1:List tQ) (i9_1:Int) (out7_2:List tQ):Option ((List tQ×Int×List tQ)⊕(List tQ)) :=
 (cond (decide (i9_1<p1.2.2.2.1)) (some (decide ((told8_1.length:Int)>0))) (some false)).bind λt39_1 =>
 (cond t39_1 (some (decide ((out7_2.length:Int)<10))) (some false)).bind λt44_1 =>
 cond t44_1
 ((aX b0 told8_1).bind λt49_1 =>
 (ut out7_2 t49_1).bind λzs52_1 =>
 some (.inl (t49_1,tP (i9_1+1),zs52_1)))
 (some (.inr out7_2))
def gz (b0:tO) (p1:um):Option (List tQ) :=
 cond (decide (p1.2.2.1>(p1.2.2.2.2.length:Int)))
 (let k5:=(p1.2.2.2.2.length:Int)
 (cp p1.2.2.2.2).bind λt22 =>
 (vC t22.length 0 k5).bind λp =>
 (aX b0 ((t22.take p.2).drop p.1)).bind λt27 =>
 (cut t22 k5 (t22.length:Int)).bind λt30 =>
 (loop (λz=>br b0 p1 z.1 z.2.1 z.2.2) (t30,0,t27)).bind λd =>
 cond (decide ((d.length:Int)>10))
 ((vC d.length 0 10).bind λp_1 =>
 some ((d.take p_1.2).drop p_1.1))
 (some d))
 ((cp p1.2.2.2.2).bind λt22_1 =>
 (vC t22_1.length 0 p1.2.2.1).bind λp_2 =>
 (aX b0 ((t22_1.take p_2.2).drop p_2.1)).bind λt27_1 =>
 (cut t22_1 p1.2.2.1 (t22_1.length:Int)).bind λt30_1 =>
 (loop (λz=>su b0 p1 z.1 z.2.1 z.2.2) (t30_1,0,t27_1)).bind λd_1 =>
 cond (decide ((d_1.length:Int)>10))
 ((vC d_1.length 0 10).bind λp_3 =>
 some ((d_1.take p_3.2).drop p_3.1))
 (some d_1))
def ng:FL:=(338,⟨[.val true uc false,.val true vT false],[.val false (.one (.sl u5)) (some false)],λa=>gz a.1 a.2⟩)::ne
theorem sv:Gd ng:=tX sr 338 Tryz.f338 [(0,⟨⟨(7,false,[.own 1000000000])::(8,false,[.dat (.sl u5)])::(9,false,[dI])::us 36 3 (us 41 3 []),[(1000000000,.root u5 false)]⟩,
 ⟨[(7,false,[.own 1000000300])],[(1000000300,.root u5 false)]⟩,none⟩)] Tryz.func338
def iE (o1:List Int) (t8:List tQ) (i6:Int) (b0_1:Int) (b1:Int) (b2:List UInt8) (b3:List Int):Option ((Int×Int×Int×List UInt8×List Int)⊕((Int×Int×List UInt8×List Int)⊕(Int×Int×List UInt8×List Int))) :=
 cond (decide (i6<(t8.length:Int)))
 ((ix t8.length i6).bind λj17 =>
 (t8[j17]?).bind λx19 =>
 (cl x19.1 o1).bind λt21 =>
 cond t21
 ((ix t8.length i6).bind λj24 =>
 (t8[j24]?).bind λx26 =>
 some (.inr (.inr x26.2)))
 (some (.inl (tP (i6+1),b0_1,b1,b2,b3))))
 (some (.inr (.inl (b0_1,b1,b2,b3))))
def gA (b0:tO) (o1:List Int):Option wJ :=
 (de b0).bind λt8 =>
 (loop (λz=>iE o1 t8 z.1 z.2.1 z.2.2.1 z.2.2.2.1 z.2.2.2.2) (0,0,0,[],[])).bind (Sum.elim (λd =>
 some (128,0,[],[])) (λr=>some r))
def nh:FL:=(339,⟨[.val true uc false,.val false vR false],[.val true xQ none],λa=>gA a.1 a.2⟩)::ng
theorem sw:Gd nh:=tX sv 339 Tryz.f339 [(0,⟨⟨[(6,false,[dI])],[(2048,.box [dI,dI,dS,.own 1000000000]),(1000000000,.root tU true)]⟩,
 ⟨[],[(2048,.box [dI,dI,dS,.own 1000000300]),(1000000300,.root tU true)]⟩,some ⟨[],[(2048,.box [dI,dI,dS,.dat (.sl tU)])]⟩⟩)] Tryz.func339
def df (b0:tO) (p1:um) (i6:Int) (out5:List tQ):Option ((Int×List tQ)⊕(List tQ)) :=
 cond (decide (i6<(p1.2.2.2.2.length:Int)))
 ((at? p1.2.2.2.2 i6).bind λx34 =>
 (ut ([]:List Int) x34.1).bind λzs37 =>
 (at? p1.2.2.2.2 i6).bind λx42 =>
 (gA b0 x42.1).bind λt45 =>
 (ut out5 [(zs37,t45.1,t45.2.1,t45.2.2.1,t45.2.2.2)]).bind λzs48 =>
 some (.inl (tP (i6+1),zs48)))
 (some (.inr out5))
def gB (b0:tO) (p1:um):Option (List tQ) :=
 cond (p1.1==161)
 ((cp p1.2.2.2.2).bind λt14 =>
 (aX b0 t14).bind λt15 =>
 some t15)
 (cond (p1.1==165)
 ((gz b0 p1).bind λt20 =>
 some t20)
 ((loop (λz=>df b0 p1 z.1 z.2) (0,([]:List tQ))).bind λd =>
 some d))
def ni:FL:=(278,⟨[.val true uc false,.val true vT false],[.val false (.one (.sl u5)) (some false)],λa=>gB a.1 a.2⟩)::nh
theorem sx:Gd ni:=tX sw 278 Tryz.f278 [(1,⟨⟨[(5,false,[.own 1000001000]),(6,false,[dI])],[(1000001000,.root u5 false)]⟩,
 ⟨[(5,false,[.own 1000001300])],[(1000001300,.root u5 false)]⟩,none⟩)] Tryz.func278
def gC (b0:tO) (p1:um):Option (tO×um×Bool) :=
 (iu b0 p1).bind λt12 =>
 cond (!t12)
 ((ak b0).bind λt15 =>
 some (t15,(0,0,0,0,[]),false))
 (cond (p1.1==163)
 ((eH b0 p1).bind λt23 =>
 some (t23.1,t23.2,true))
 ((gB b0 p1).bind λt32 =>
 (cc t32).bind λt33 =>
 (ak b0).bind λt36 =>
 (ck (162,p1.2.1,0,0,t33) (p1.1==165)).bind λt41 =>
 some (t36,t41,true)))
def nj:FL:=(182,⟨[.val true uc false,.val true vT false],[.val true uc (some true),.val true vT (some true),.val false uD (some true)],λa=>gC a.1 a.2⟩)::ni
theorem sy:Gd nj:=tX sx 182 Tryz.f182 [] Tryz.func182
def gD (p0:ue) (i1:Int):Option (ue×List vB) :=
 (ix p0.2.2.2.2.2.2.2.2.2.2.2.2.1.length i1).bind λj14 =>
 (p0.2.2.2.2.2.2.2.2.2.2.2.2.1[j14]?).bind λx15 =>
 cond (x15.2.2.1==0)
 ((cX p0 i1).bind λt35 =>
 some (t35,([]:List vB)))
 ((cond (x15.2.2.1==1)
 (some (decide (x15.2.2.2.2.2.2.2.2.2.2.2.2.2.2.2.2.2.2.2.1<(x15.2.2.2.2.2.2.2.1.length:Int))))
 (some false)).bind λt48 =>
 cond t48
 ((ix p0.2.2.2.2.2.2.2.2.2.2.2.2.1.length i1).bind λj57 =>
 (p0.2.2.2.2.2.2.2.2.2.2.2.2.1[j57]?).bind λx =>
 some ((p0.1,p0.2.1,p0.2.2.1,p0.2.2.2.1,p0.2.2.2.2.1,p0.2.2.2.2.2.1,p0.2.2.2.2.2.2.1,p0.2.2.2.2.2.2.2.1,p0.2.2.2.2.2.2.2.2.1,p0.2.2.2.2.2.2.2.2.2.1,p0.2.2.2.2.2.2.2.2.2.2.1,p0.2.2.2.2.2.2.2.2.2.2.2.1,p0.2.2.2.2.2.2.2.2.2.2.2.2.1.set j57 (x.1,x.2.1,x.2.2.1,x.2.2.2.1,x.2.2.2.2.1,x.2.2.2.2.2.1,x.2.2.2.2.2.2.1,x.2.2.2.2.2.2.2.1,x.2.2.2.2.2.2.2.2.1,x.2.2.2.2.2.2.2.2.2.1,x.2.2.2.2.2.2.2.2.2.2.1,x.2.2.2.2.2.2.2.2.2.2.2.1,x.2.2.2.2.2.2.2.2.2.2.2.2.1,x.2.2.2.2.2.2.2.2.2.2.2.2.2.1,x.2.2.2.2.2.2.2.2.2.2.2.2.2.2.1,x.2.2.2.2.2.2.2.2.2.2.2.2.2.2.2.1,x.2.2.2.2.2.2.2.2.2.2.2.2.2.2.2.2.1,x.2.2.2.2.2.2.2.2.2.2.2.2.2.2.2.2.2.1,x.2.2.2.2.2.2.2.2.2.2.2.2.2.2.2.2.2.2.1,tP (x15.2.2.2.2.2.2.2.2.2.2.2.2.2.2.2.2.2.2.2.1+1),x.2.2.2.2.2.2.2.2.2.2.2.2.2.2.2.2.2.2.2.2),p0.2.2.2.2.2.2.2.2.2.2.2.2.2.1,p0.2.2.2.2.2.2.2.2.2.2.2.2.2.2),([]:List vB)))
 (cond (x15.2.2.1==1)
 ((ix p0.2.2.2.2.2.2.2.2.2.2.2.2.1.length i1).bind λj68 =>
 (p0.2.2.2.2.2.2.2.2.2.2.2.2.1[j68]?).bind λx_1 =>
 some ((p0.1,p0.2.1,p0.2.2.1,p0.2.2.2.1,p0.2.2.2.2.1,p0.2.2.2.2.2.1,p0.2.2.2.2.2.2.1,p0.2.2.2.2.2.2.2.1,p0.2.2.2.2.2.2.2.2.1,p0.2.2.2.2.2.2.2.2.2.1,p0.2.2.2.2.2.2.2.2.2.2.1,p0.2.2.2.2.2.2.2.2.2.2.2.1,p0.2.2.2.2.2.2.2.2.2.2.2.2.1.set j68 (x_1.1,x_1.2.1,2,x_1.2.2.2.1,x_1.2.2.2.2.1,x_1.2.2.2.2.2.1,x_1.2.2.2.2.2.2.1,x_1.2.2.2.2.2.2.2.1,x_1.2.2.2.2.2.2.2.2.1,x_1.2.2.2.2.2.2.2.2.2.1,x_1.2.2.2.2.2.2.2.2.2.2.1,x_1.2.2.2.2.2.2.2.2.2.2.2.1,x_1.2.2.2.2.2.2.2.2.2.2.2.2.1,x_1.2.2.2.2.2.2.2.2.2.2.2.2.2.1,x_1.2.2.2.2.2.2.2.2.2.2.2.2.2.2.1,x_1.2.2.2.2.2.2.2.2.2.2.2.2.2.2.2.1,x_1.2.2.2.2.2.2.2.2.2.2.2.2.2.2.2.2.1,x_1.2.2.2.2.2.2.2.2.2.2.2.2.2.2.2.2.2.1,x_1.2.2.2.2.2.2.2.2.2.2.2.2.2.2.2.2.2.2.1,x_1.2.2.2.2.2.2.2.2.2.2.2.2.2.2.2.2.2.2.2.1,x_1.2.2.2.2.2.2.2.2.2.2.2.2.2.2.2.2.2.2.2.2),p0.2.2.2.2.2.2.2.2.2.2.2.2.2.1,p0.2.2.2.2.2.2.2.2.2.2.2.2.2.2),([]:List vB)))
 (cond (x15.2.2.2.1==163)
 ((gw p0 i1).bind λt77 =>
 some t77)
 ((gC (x15.2.2.2.2.2.2.2.2.1,x15.2.2.2.2.2.2.2.2.2.1,x15.2.2.2.2.2.2.2.2.2.2.1,x15.2.2.2.2.2.2.2.2.2.2.2.1,x15.2.2.2.2.2.2.2.2.2.2.2.2.1,x15.2.2.2.2.2.2.2.2.2.2.2.2.2.1,x15.2.2.2.2.2.2.2.2.2.2.2.2.2.2.1,x15.2.2.2.2.2.2.2.2.2.2.2.2.2.2.2.1,x15.2.2.2.2.2.2.2.2.2.2.2.2.2.2.2.2.1,x15.2.2.2.2.2.2.2.2.2.2.2.2.2.2.2.2.2.1,x15.2.2.2.2.2.2.2.2.2.2.2.2.2.2.2.2.2.2.1) (x15.2.2.2.1,x15.2.2.2.2.1,x15.2.2.2.2.2.1,x15.2.2.2.2.2.2.1,x15.2.2.2.2.2.2.2.1)).bind λt21 =>
 (cY p0 i1 t21.2.1).bind λt28 =>
 some t28))))
def nk:FL:=(108,⟨[.ptr uN (some false),.val false tU false],[.val false (.one (.sl xE)) (some false)],λa=>gD a.1 a.2⟩)::nj
theorem sA:Gd nk:=tX sy 108 Tryz.f108 [] Tryz.func108
def bm (a0:ue) (k1:Int):Option (ue×List vB) :=
 (fS a0).bind λt9 =>
 (fX a0).bind λt11 =>
 (cond (!t11)
 (some true)
 ((ac k1 0 (tP ((a0.2.2.2.2.2.2.2.2.2.2.2.2.1.length:Int)-1))).bind λt19 =>
 some (!t19))).bind λt21 =>
 cond t21
 (some (t9,([]:List vB)))
 ((gD t9 k1).bind λt25 =>
 some t25)
def nl:FL:=(30,⟨[.val true uN false,.val false tU false],[.val true uN none,.val false (.one (.sl xE)) none],λa=>bm a.1 a.2⟩)::nk
theorem sB:Gd nl:=tX sA 30 Tryz.f30 [] Tryz.func30
def nn (a0:zz):Option zz :=
 some a0
def np:FL:=(123,⟨[.val true yD false],[.val true yD (some true)],λa=>nn a⟩)::nl
theorem sC:Gd np:=tX sB 123 Tryz.f123 [] Tryz.func123
def iF (a0:Pt):Option Pt :=
 (nn a0.2.2.2).bind λt15 =>
 some (a0.1,a0.2.1,a0.2.2.1,t15.1,t15.2.1,t15.2.2.1,t15.2.2.2.1,t15.2.2.2.2)
def nq:FL:=(279,⟨[.val true vV false],[.val true vV (some true)],λa=>iF a⟩)::np
theorem sD:Gd nq:=tX sC 279 Tryz.f279 [] Tryz.func279
def sE (a0:List Pt) (i4:Int) (l:List Pt):Option ((Int×List Pt)⊕(List Pt)) :=
 cond (decide (i4<(a0.length:Int)))
 ((at? a0 i4).bind λx18 =>
 (iF x18).bind λt20 =>
 (ix l.length i4).bind λj21 =>
 (l[j21]?).bind λx =>
 some (.inl (tP (i4+1),l.set j21 t20)))
 (some (.inr l))
def iG (a0:List Pt):Option (List Pt) :=
 (zC (a0.length:Int)).bind λn =>
 (loop (λz=>sE a0 z.1 z.2) (0,List.replicate n ((false,0,false,0,0,0,0,0):Pt))).bind λd =>
 some d
def nr:FL:=(184,⟨[.val false (.one (.sl vV)) false],[.val false (.one (.sl vV)) (some true)],λa=>iG a⟩)::nq
theorem sF:Gd nr:=tX sD 184 Tryz.f184 [(0,⟨⟨[(4,false,[dI])],[(265216,.keep vV true)]⟩,
 ⟨[],[(265216,.keep vV true)]⟩,none⟩)] Tryz.func184
def iH (a0:tZ):Option tZ :=
 some a0
def nu:FL:=(280,⟨[.val true uo false],[.val true uo (some true)],λa=>iH a⟩)::nr
theorem sG:Gd nu:=tX sF 280 Tryz.f280 [] Tryz.func280
def sH (a0:List tZ) (i4:Int) (l:List tZ):Option ((Int×List tZ)⊕(List tZ)) :=
 cond (decide (i4<(a0.length:Int)))
 ((at? a0 i4).bind λx18 =>
 (iH x18).bind λt20 =>
 (ix l.length i4).bind λj21 =>
 (l[j21]?).bind λx =>
 some (.inl (tP (i4+1),l.set j21 t20)))
 (some (.inr l))
def iI (a0:List tZ):Option (List tZ) :=
 (zC (a0.length:Int)).bind λn =>
 (loop (λz=>sH a0 z.1 z.2) (0,List.replicate n ((0,0,0,0,false):tZ))).bind λd =>
 some d
def nv:FL:=(185,⟨[.val false (.one (.sl uo)) false],[.val false (.one (.sl uo)) (some true)],λa=>iI a⟩)::nu
theorem sI:Gd nv:=tX sG 185 Tryz.f185 [(0,⟨⟨[(4,false,[dI])],[(265216,.keep uo true)]⟩,
 ⟨[],[(265216,.keep uo true)]⟩,none⟩)] Tryz.func185
def iJ (a0:ua):Option ua :=
 some a0
def nx:FL:=(340,⟨[.val true uU false],[.val true uU (some true)],λa=>iJ a⟩)::nv
theorem sJ:Gd nx:=tX sI 340 Tryz.f340 [] Tryz.func340
def sK (a0:List ua) (i4:Int) (l:List ua):Option ((Int×List ua)⊕(List ua)) :=
 cond (decide (i4<(a0.length:Int)))
 ((at? a0 i4).bind λx18 =>
 (iJ x18).bind λt20 =>
 (ix l.length i4).bind λj21 =>
 (l[j21]?).bind λx =>
 some (.inl (tP (i4+1),l.set j21 t20)))
 (some (.inr l))
def iK (a0:List ua):Option (List ua) :=
 (zC (a0.length:Int)).bind λn =>
 (loop (λz=>sK a0 z.1 z.2) (0,List.replicate n ((0,0,0):ua))).bind λd =>
 some d
def ny:FL:=(281,⟨[.val false (.one (.sl uU)) false],[.val false (.one (.sl uU)) (some true)],λa=>iK a⟩)::nx
theorem sL:Gd ny:=tX sJ 281 Tryz.f281 [(0,⟨⟨[(4,false,[dI])],[(265216,.keep uU true)]⟩,
 ⟨[],[(265216,.keep uU true)]⟩,none⟩)] Tryz.func281
def sM (a0:List Int) (i4:Int) (l:List Int):Option ((Int×List Int)⊕(List Int)) :=
 cond (decide (i4<(a0.length:Int)))
 ((at? a0 i4).bind λx18 =>
 (ix l.length i4).bind λj20 =>
 (l[j20]?).bind λx =>
 some (.inl (tP (i4+1),l.set j20 x18)))
 (some (.inr l))
def eL (a0:List Int):Option (List Int) :=
 (zC (a0.length:Int)).bind λn =>
 (loop (λz=>sM a0 z.1 z.2) (0,List.replicate n (0:Int))).bind λd =>
 some d
def nz:FL:=(282,⟨[.val false vR false],[.val false vR (some true)],λa=>eL a⟩)::ny
theorem sN:Gd nz:=tX sL 282 Tryz.f282 [(0,⟨⟨[(4,false,[dI])],[(265216,.keep tU true)]⟩,
 ⟨[],[(265216,.keep tU true)]⟩,none⟩)] Tryz.func282
def gE (a0:ve):Option ve :=
 (iK a0.1).bind λt6 =>
 (eL a0.2).bind λt10 =>
 some (t6,t10)
def nA:FL:=(186,⟨[.val true wy false],[.val true wy (some true)],λa=>gE a⟩)::nz
theorem sO:Gd nA:=tX sN 186 Tryz.f186 [] Tryz.func186
def eM (a0:tO):Option tO :=
 (iG a0.2.2.1).bind λt12 =>
 (iI a0.2.2.2.1).bind λt16 =>
 (gE (a0.2.2.2.2.1,a0.2.2.2.2.2.1)).bind λt20 =>
 some (a0.1,a0.2.1,t12,t16,t20.1,t20.2,a0.2.2.2.2.2.2.1,a0.2.2.2.2.2.2.2.1,a0.2.2.2.2.2.2.2.2.1,a0.2.2.2.2.2.2.2.2.2.1,a0.2.2.2.2.2.2.2.2.2.2)
def nB:FL:=(109,⟨[.val true uc false],[.val true uc (some true)],λa=>eM a⟩)::nA
theorem sP:Gd nB:=tX sO 109 Tryz.f109 [] Tryz.func109
def sQ (a0:List Int) (i4:Int) (l:List Int):Option ((Int×List Int)⊕(List Int)) :=
 cond (decide (i4<(a0.length:Int)))
 ((at? a0 i4).bind λx18 =>
 (ix l.length i4).bind λj20 =>
 (l[j20]?).bind λx =>
 some (.inl (tP (i4+1),l.set j20 x18)))
 (some (.inr l))
def iL (a0:List Int):Option (List Int) :=
 (zC (a0.length:Int)).bind λn =>
 (loop (λz=>sQ a0 z.1 z.2) (0,List.replicate n (0:Int))).bind λd =>
 some d
def nC:FL:=(86,⟨[.val false vd false],[.val false vd (some true)],λa=>iL a⟩)::nB
theorem sR:Gd nC:=tX sP 86 Tryz.f86 [(0,⟨⟨[(4,false,[dI])],[(265216,.keep (.one (.int .u8)) true)]⟩,
 ⟨[],[(265216,.keep (.one (.int .u8)) true)]⟩,none⟩)] Tryz.func86
def gF (a0:wJ):Option wJ :=
 (eL a0.2.2.2).bind λt15 =>
 some (a0.1,a0.2.1,a0.2.2.1,t15)
def nD:FL:=(387,⟨[.val true xQ false],[.val true xQ (some true)],λa=>gF a⟩)::nC
theorem sS:Gd nD:=tX sR 387 Tryz.f387 [] Tryz.func387
def eN (a0:tQ):Option tQ :=
 (eL a0.1).bind λt6 =>
 (gF a0.2).bind λt10 =>
 some (t6,t10.1,t10.2.1,t10.2.2.1,t10.2.2.2)
def nE:FL:=(369,⟨[.val true u5 false],[.val true u5 (some true)],λa=>eN a⟩)::nD
theorem sT:Gd nE:=tX sS 369 Tryz.f369 [] Tryz.func369
def sU (a0:List tQ) (i4:Int) (l:List tQ):Option ((Int×List tQ)⊕(List tQ)) :=
 cond (decide (i4<(a0.length:Int)))
 ((at? a0 i4).bind λx18 =>
 (eN x18).bind λt20 =>
 (ix l.length i4).bind λj21 =>
 (l[j21]?).bind λx =>
 some (.inl (tP (i4+1),l.set j21 t20)))
 (some (.inr l))
def iM (a0:List tQ):Option (List tQ) :=
 (zC (a0.length:Int)).bind λn =>
 (loop (λz=>sU a0 z.1 z.2) (0,List.replicate n (([],0,0,[],[]):tQ))).bind λd =>
 some d
def nF:FL:=(341,⟨[.val false (.one (.sl u5)) false],[.val false (.one (.sl u5)) (some true)],λa=>iM a⟩)::nE
theorem sV:Gd nF:=tX sT 341 Tryz.f341 [(0,⟨⟨[(4,false,[dI])],[(265216,.keep u5 true)]⟩,
 ⟨[],[(265216,.keep u5 true)]⟩,none⟩)] Tryz.func341
def eO (a0:um):Option um :=
 (iM a0.2.2.2.2).bind λt18 =>
 some (a0.1,a0.2.1,a0.2.2.1,a0.2.2.2.1,t18)
def nG:FL:=(283,⟨[.val true vT false],[.val true vT (some true)],λa=>eO a⟩)::nF
theorem sW:Gd nG:=tX sV 283 Tryz.f283 [] Tryz.func283
def eP (a0:ur):Option ur :=
 (iL a0.2.1).bind λt9 =>
 (eO (a0.2.2.2.1,a0.2.2.2.2.1,a0.2.2.2.2.2.1,a0.2.2.2.2.2.2.1,a0.2.2.2.2.2.2.2.1)).bind λt16 =>
 (eM (a0.2.2.2.2.2.2.2.2.1,a0.2.2.2.2.2.2.2.2.2.1,a0.2.2.2.2.2.2.2.2.2.2.1,a0.2.2.2.2.2.2.2.2.2.2.2.1,a0.2.2.2.2.2.2.2.2.2.2.2.2.1,a0.2.2.2.2.2.2.2.2.2.2.2.2.2.1,a0.2.2.2.2.2.2.2.2.2.2.2.2.2.2.1,a0.2.2.2.2.2.2.2.2.2.2.2.2.2.2.2.1,a0.2.2.2.2.2.2.2.2.2.2.2.2.2.2.2.2.1,a0.2.2.2.2.2.2.2.2.2.2.2.2.2.2.2.2.2.1,a0.2.2.2.2.2.2.2.2.2.2.2.2.2.2.2.2.2.2.1)).bind λt20 =>
 some (a0.1,t9,a0.2.2.1,t16.1,t16.2.1,t16.2.2.1,t16.2.2.2.1,t16.2.2.2.2,t20.1,t20.2.1,t20.2.2.1,t20.2.2.2.1,t20.2.2.2.2.1,t20.2.2.2.2.2.1,t20.2.2.2.2.2.2.1,t20.2.2.2.2.2.2.2.1,t20.2.2.2.2.2.2.2.2.1,t20.2.2.2.2.2.2.2.2.2.1,t20.2.2.2.2.2.2.2.2.2.2,a0.2.2.2.2.2.2.2.2.2.2.2.2.2.2.2.2.2.2.2.1,a0.2.2.2.2.2.2.2.2.2.2.2.2.2.2.2.2.2.2.2.2)
def nH:FL:=(187,⟨[.val true vU false],[.val true vU (some true)],λa=>eP a⟩)::nG
theorem sX:Gd nH:=tX sW 187 Tryz.f187 [] Tryz.func187
def sY (a0:List ur) (i4:Int) (l:List ur):Option ((Int×List ur)⊕(List ur)) :=
 cond (decide (i4<(a0.length:Int)))
 ((at? a0 i4).bind λx18 =>
 (eP x18).bind λt20 =>
 (ix l.length i4).bind λj21 =>
 (l[j21]?).bind λx =>
 some (.inl (tP (i4+1),l.set j21 t20)))
 (some (.inr l))
def iN (a0:List ur):Option (List ur) :=
 (zC (a0.length:Int)).bind λn =>
 (loop (λz=>sY a0 z.1 z.2) (0,List.replicate n ((0,[],0,0,0,0,0,[],0,[],[],[],[],[],0,0,0,0,0,0,0):ur))).bind λd =>
 some d
def nI:FL:=(110,⟨[.val false (.one (.sl vU)) false],[.val false (.one (.sl vU)) (some true)],λa=>iN a⟩)::nH
theorem sZ:Gd nI:=tX sX 110 Tryz.f110 [(0,⟨⟨[(4,false,[dI])],[(265216,.keep vU true)]⟩,
 ⟨[],[(265216,.keep vU true)]⟩,none⟩)] Tryz.func110
def ca (a0:ue):Option ue :=
 (eM (a0.1,a0.2.1,a0.2.2.1,a0.2.2.2.1,a0.2.2.2.2.1,a0.2.2.2.2.2.1,a0.2.2.2.2.2.2.1,a0.2.2.2.2.2.2.2.1,a0.2.2.2.2.2.2.2.2.1,a0.2.2.2.2.2.2.2.2.2.1,a0.2.2.2.2.2.2.2.2.2.2.1)).bind λt6 =>
 (iN a0.2.2.2.2.2.2.2.2.2.2.2.2.1).bind λt13 =>
 some (t6.1,t6.2.1,t6.2.2.1,t6.2.2.2.1,t6.2.2.2.2.1,t6.2.2.2.2.2.1,t6.2.2.2.2.2.2.1,t6.2.2.2.2.2.2.2.1,t6.2.2.2.2.2.2.2.2.1,t6.2.2.2.2.2.2.2.2.2.1,t6.2.2.2.2.2.2.2.2.2.2,a0.2.2.2.2.2.2.2.2.2.2.2.1,t13,a0.2.2.2.2.2.2.2.2.2.2.2.2.2.1,a0.2.2.2.2.2.2.2.2.2.2.2.2.2.2)
def nJ:FL:=(31,⟨[.val true uN false],[.val true uN (some true)],λa=>ca a⟩)::nI
theorem ta:Gd nJ:=tX sZ 31 Tryz.f31 [] Tryz.func31
def bt (b0:List Int):Option (List Int) :=
 (ut [] b0).bind λzs4 =>
 some zs4
def nK:FL:=(77,⟨[.val false vd false],[.val false vd (some true)],λa=>bt a⟩)::nJ
theorem tb:Gd nK:=tX ta 77 Tryz.f77 [] Tryz.func77
def gG (l0:List tZ):Option (List tZ) :=
 (ut [] l0).bind λzs4 =>
 some zs4
def nL:FL:=(233,⟨[.val false (.one (.sl uo)) false],[.val false (.one (.sl uo)) (some true)],λa=>gG a⟩)::nK
theorem td:Gd nL:=tX tb 233 Tryz.f233 [] Tryz.func233
def aK (l0:List Int):Option (List Int) :=
 (ut [] l0).bind λzs4 =>
 some zs4
def nM:FL:=(313,⟨[.val false vR false],[.val false vR (some true)],λa=>aK a⟩)::nL
theorem te:Gd nM:=tX td 313 Tryz.f313 [] Tryz.func313
def cH (v0:ve):Option ve :=
 (ut [] v0.1).bind λzs5 =>
 (aK v0.2).bind λt8 =>
 some (zs5,t8)
def nN:FL:=(234,⟨[.val true wy false],[.val true wy (some true)],λa=>cH a⟩)::nM
theorem tg:Gd nN:=tX te 234 Tryz.f234 [] Tryz.func234
def aj (b0:tO):Option tO :=
 (ut [] b0.2.2.1).bind λzs5 =>
 (gG b0.2.2.2.1).bind λt9 =>
 (cH (b0.2.2.2.2.1,b0.2.2.2.2.2.1)).bind λt12 =>
 some (b0.1,b0.2.1,zs5,t9,t12.1,t12.2,b0.2.2.2.2.2.2.1,b0.2.2.2.2.2.2.2.1,b0.2.2.2.2.2.2.2.2.1,b0.2.2.2.2.2.2.2.2.2.1,b0.2.2.2.2.2.2.2.2.2.2)
def nO:FL:=(143,⟨[.val true uc false],[.val true uc (some true)],λa=>aj a⟩)::nN
theorem tj:Gd nO:=tX tg 143 Tryz.f143 [] Tryz.func143
def gH (v0:wJ):Option wJ :=
 (aK v0.2.2.2).bind λt5 =>
 some (v0.1,v0.2.1,v0.2.2.1,t5)
def nP:FL:=(314,⟨[.val true xQ false],[.val true xQ (some true)],λa=>gH a⟩)::nO
theorem tk:Gd nP:=tX tj 314 Tryz.f314 [] Tryz.func314
def dg (l0:List tQ) (t8:Int) (out3:List tQ):Option ((Int×List tQ)⊕(List tQ)) :=
 cond (decide (t8<(l0.length:Int)))
 ((at? l0 t8).bind λx10 =>
 (aK x10.1).bind λt15 =>
 (gH x10.2).bind λt18 =>
 (ut out3 [(t15,t18.1,t18.2.1,t18.2.2.1,t18.2.2.2)]).bind λzs21 =>
 some (.inl (tP (t8+1),zs21)))
 (some (.inr out3))
def cK (l0:List tQ):Option (List tQ) :=
 (loop (λz=>dg l0 z.1 z.2) (0,[])).bind λd =>
 some d
def nQ:FL:=(235,⟨[.val false (.one (.sl u5)) false],[.val false (.one (.sl u5)) (some true)],λa=>cK a⟩)::nP
theorem tn:Gd nQ:=tX tk 235 Tryz.f235 [(0,⟨⟨[(3,false,[.own 1000000000]),(8,false,[dI])],[(1000000000,.root u5 true)]⟩,
 ⟨[(3,false,[.own 1000000300])],[(1000000300,.root u5 true)]⟩,none⟩)] Tryz.func235
def eQ (p0:um):Option um :=
 (cK p0.2.2.2.2).bind λt5 =>
 some (p0.1,p0.2.1,p0.2.2.1,p0.2.2.2.1,t5)
def nR:FL:=(144,⟨[.val true vT false],[.val true vT (some true)],λa=>eQ a⟩)::nQ
theorem to:Gd nR:=tX tn 144 Tryz.f144 [] Tryz.func144
def dh (a0:ue) (t13:Int) (jobs3:List ur):Option ((Int×List ur)⊕(List ur)) :=
 cond (decide (t13<(a0.2.2.2.2.2.2.2.2.2.2.2.2.1.length:Int)))
 ((at? a0.2.2.2.2.2.2.2.2.2.2.2.2.1 t13).bind λx15 =>
 (bt x15.2.1).bind λt19 =>
 (eQ (x15.2.2.2.1,x15.2.2.2.2.1,x15.2.2.2.2.2.1,x15.2.2.2.2.2.2.1,x15.2.2.2.2.2.2.2.1)).bind λt22 =>
 (aj (x15.2.2.2.2.2.2.2.2.1,x15.2.2.2.2.2.2.2.2.2.1,x15.2.2.2.2.2.2.2.2.2.2.1,x15.2.2.2.2.2.2.2.2.2.2.2.1,x15.2.2.2.2.2.2.2.2.2.2.2.2.1,x15.2.2.2.2.2.2.2.2.2.2.2.2.2.1,x15.2.2.2.2.2.2.2.2.2.2.2.2.2.2.1,x15.2.2.2.2.2.2.2.2.2.2.2.2.2.2.2.1,x15.2.2.2.2.2.2.2.2.2.2.2.2.2.2.2.2.1,x15.2.2.2.2.2.2.2.2.2.2.2.2.2.2.2.2.2.1,x15.2.2.2.2.2.2.2.2.2.2.2.2.2.2.2.2.2.2.1)).bind λt25 =>
 (ut jobs3 [(x15.1,t19,x15.2.2.1,t22.1,t22.2.1,t22.2.2.1,t22.2.2.2.1,t22.2.2.2.2,t25.1,t25.2.1,t25.2.2.1,t25.2.2.2.1,t25.2.2.2.2.1,t25.2.2.2.2.2.1,t25.2.2.2.2.2.2.1,t25.2.2.2.2.2.2.2.1,t25.2.2.2.2.2.2.2.2.1,t25.2.2.2.2.2.2.2.2.2.1,t25.2.2.2.2.2.2.2.2.2.2,x15.2.2.2.2.2.2.2.2.2.2.2.2.2.2.2.2.2.2.2.1,x15.2.2.2.2.2.2.2.2.2.2.2.2.2.2.2.2.2.2.2.2)]).bind λzs32 =>
 some (.inl (tP (t13+1),zs32)))
 (some (.inr jobs3))
def fj (a0:ue):Option ue :=
 (aj (a0.1,a0.2.1,a0.2.2.1,a0.2.2.2.1,a0.2.2.2.2.1,a0.2.2.2.2.2.1,a0.2.2.2.2.2.2.1,a0.2.2.2.2.2.2.2.1,a0.2.2.2.2.2.2.2.2.1,a0.2.2.2.2.2.2.2.2.2.1,a0.2.2.2.2.2.2.2.2.2.2.1)).bind λt8 =>
 (loop (λz=>dh a0 z.1 z.2) (0,[])).bind λd =>
 some (t8.1,t8.2.1,t8.2.2.1,t8.2.2.2.1,t8.2.2.2.2.1,t8.2.2.2.2.2.1,t8.2.2.2.2.2.2.1,t8.2.2.2.2.2.2.2.1,t8.2.2.2.2.2.2.2.2.1,t8.2.2.2.2.2.2.2.2.2.1,t8.2.2.2.2.2.2.2.2.2.2,a0.2.2.2.2.2.2.2.2.2.2.2.1,d,a0.2.2.2.2.2.2.2.2.2.2.2.2.2.1,a0.2.2.2.2.2.2.2.2.2.2.2.2.2.2)
def nS:FL:=(72,⟨[.val true uN false],[.val true uN (some true)],λa=>fj a⟩)::nR
theorem tq:Gd nS:=tX to 72 Tryz.f72 [(0,⟨⟨[(3,false,[.own 1000000000]),(13,false,[dI])],[(1000000000,.root vU true)]⟩,
 ⟨[(3,false,[.own 1000000300])],[(1000000300,.root vU true)]⟩,none⟩)] Tryz.func72
def aa (n0:Int) (low1:Int) (high2:Int):Option Bool :=
 (cond (decide (n0>=low1)) (some (decide (n0<=high2))) (some false)).bind λt14 =>
 some t14
def nT:FL:=(74,⟨[.val false tU false,.val false tU false,.val false tU false],[.val false uD (some true)],λa=>aa a.1 a.2.1 a.2.2⟩)::nS
theorem tu:Gd nT:=tX tq 74 Tryz.f74 [] Tryz.func74
def aN (n0:Int):Option Bool :=
 (aa n0 0 1000000).bind λt4 =>
 some t4
def nU:FL:=(146,⟨[.val false tU false],[.val false uD (some true)],λa=>aN a⟩)::nT
theorem tv:Gd nU:=tX tu 146 Tryz.f146 [] Tryz.func146
def bR (v0:zz):Option Bool :=
 (aa v0.1 1 99).bind λt5 =>
 (cond t5
 ((aa v0.2.1 0 100000).bind λt9 =>
 some t9)
 (some false)).bind λt10 =>
 (cond t10
 ((aa v0.2.2.1 0 10).bind λt14 =>
 some t14)
 (some false)).bind λt15 =>
 (cond t15
 ((aa v0.2.2.2.1 1 99).bind λt19 =>
 some t19)
 (some false)).bind λt20 =>
 (cond t20
 ((aa v0.2.2.2.2 0 7).bind λt24 =>
 some t24)
 (some false)).bind λt25 =>
 some t25
def nV:FL:=(249,⟨[.val true yD false],[.val false uD (some true)],λa=>bR a⟩)::nU
theorem tz:Gd nV:=tX tv 249 Tryz.f249 [] Tryz.func249
def eR (p0:Pt):Option Bool :=
 (aa p0.2.1 1 1000).bind λt5 =>
 (cond (!t5)
 (some true)
 ((cond p0.2.2.1 (some (!p0.1)) (some false)).bind λt14 =>
 some t14)).bind λt15 =>
 cond t15
 (some false)
 (cond p0.2.2.1
 ((bR p0.2.2.2).bind λt20 =>
 some t20)
 (let t2:=p0.2.2.2.1==0&&(p0.2.2.2.2.1==0&&(p0.2.2.2.2.2.1==0&&(p0.2.2.2.2.2.2.1==0&&(p0.2.2.2.2.2.2.2==0))))
 some t2))
def nW:FL:=(236,⟨[.val true vV false],[.val false uD (some true)],λa=>eR a⟩)::nV
theorem tA:Gd nW:=tX tz 236 Tryz.f236 [] Tryz.func236
def dj (e0:tZ):Option Bool :=
 (aa e0.1 1 99).bind λt5 =>
 (cond t5
 ((aa e0.2.1 1 9999).bind λt9 =>
 some t9)
 (some false)).bind λt10 =>
 (cond t10
 ((aa e0.2.2.1 0 7).bind λt14 =>
 some t14)
 (some false)).bind λt15 =>
 (cond t15
 ((aa e0.2.2.2.1 0 4).bind λt19 =>
 some t19)
 (some false)).bind λt20 =>
 (cond t20
 ((cond (!e0.2.2.2.2) (some true) (some (e0.2.2.2.1==0))).bind λt29 =>
 some t29)
 (some false)).bind λt30 =>
 some t30
def nX:FL:=(315,⟨[.val true uo false],[.val false uD (some true)],λa=>dj a⟩)::nW
theorem tB:Gd nX:=tX tA 315 Tryz.f315 [] Tryz.func315
def eS (e0:tZ) (tag1:Int) (mac2:Int):Option Bool :=
 (cond (decide (e0.1>tag1))
 (some true)
 ((cond (e0.1==tag1) (some (decide (e0.2.1>mac2))) (some false)).bind λt21 =>
 some t21)).bind λt22 =>
 some t22
def nY:FL:=(316,⟨[.val true uo false,.val false tU false,.val false tU false],[.val false uD (some true)],λa=>eS a.1 a.2.1 a.2.2⟩)::nX
theorem tC:Gd nY:=tX tB 316 Tryz.f316 [] Tryz.func316
def iO (l0:List tZ) (t7:Int):Option (Int⊕(Unit⊕Bool)) :=
 cond (decide (t7<(l0.length:Int)))
 ((at? l0 t7).bind λx10 =>
 (dj x10).bind λt13 =>
 (cond (!t13)
 (some true)
 ((cond (decide (t7>0))
 ((at? l0 (tP (t7-1))).bind λx23 =>
 (at? l0 (tP (t7-1))).bind λx29 =>
 (eS x10 x23.1 x29.2.1).bind λt32 =>
 some (!t32))
 (some false)).bind λt34 =>
 some t34)).bind λt35 =>
 cond t35 (some (.inr (.inr false))) (some (.inl (tP (t7+1)))))
 (some (.inr (.inl ())))
def gI (l0:List tZ):Option Bool :=
 (loop (λz=>iO l0 z) 0).bind (Sum.elim (λd =>
 let t2:=decide ((l0.length:Int)<=12)
 some t2) (λr=>some r))
def nZ:FL:=(237,⟨[.val false (.one (.sl uo)) false],[.val false uD (some true)],λa=>gI a⟩)::nY
theorem tD:Gd nZ:=tX tC 237 Tryz.f237 [(0,⟨⟨(7,false,[dI])::us 16 19 [],[]⟩,
 ⟨[],[]⟩,some ⟨[(2,false,[dB])],[]⟩⟩)] Tryz.func237
def dC (ports0:Int):Option Int :=
 (shl .i64 1 ports0).bind λt4 =>
 some (tP (t4-1))
def o4:FL:=(317,⟨[.val false tU false],[.val false tU (some true)],λa=>dC a⟩)::nZ
theorem tE:Gd o4:=tX tD 317 Tryz.f317 [] Tryz.func317
def aY (v0:ve) (id1:Int) (t10:Int):Option (Int⊕(Unit⊕Int)) :=
 cond (decide (t10<(v0.1.length:Int)))
 ((at? v0.1 t10).bind λx13 =>
 cond (x13.1==id1) (some (.inr (.inr t10))) (some (.inl (tP (t10+1)))))
 (some (.inr (.inl ())))
def ar (v0:ve) (id1:Int):Option Int :=
 (loop (λz=>aY v0 id1 z) 0).bind (Sum.elim (λd =>
 some (-1)) (λr=>some r))
def o5:FL:=(318,⟨[.val true wy false,.val false tU false],[.val false tU (some true)],λa=>ar a.1 a.2⟩)::o4
theorem tF:Gd o5:=tX tE 318 Tryz.f318 [(0,⟨⟨[(10,false,[dI])],[]⟩,
 ⟨[],[]⟩,some ⟨[(4,false,[dI])],[]⟩⟩)] Tryz.func318
def iP (p0:ve) (i1:Int) (t28:Int):Option (Int⊕(Unit⊕Bool)) :=
 cond (decide (t28<(p0.1.length:Int)))
 ((at? p0.1 t28).bind λx31 =>
 (aa x31.1 1 99).bind λt35 =>
 (cond (!t35)
 (some true)
 ((cond (decide (t28>0))
 ((at? p0.1 (tP (t28-1))).bind λx45 =>
 some (decide (x45.1>=x31.1)))
 (some false)).bind λt51 =>
 some t51)).bind λt52 =>
 (cond t52
 (some true)
 ((dC i1).bind λt57 =>
 (aa x31.2.1 0 t57).bind λt58 =>
 some (!t58))).bind λt60 =>
 (cond t60 (some true) (some ((EE .i64 x31.2.2 x31.2.1) != 0))).bind λt68 =>
 cond t68 (some (.inr (.inr false))) (some (.inl (tP (t28+1)))))
 (some (.inr (.inl ())))
def gJ (p0:ve) (t73:Int):Option (Int⊕(Unit⊕Bool)) :=
 cond (decide (t73<(p0.2.length:Int)))
 ((at? p0.2 t73).bind λx75 =>
 (ar p0 x75).bind λt79 =>
 cond (decide (t79<0)) (some (.inr (.inr false))) (some (.inl (tP (t73+1)))))
 (some (.inr (.inl ())))
def cJ (p0:ve) (i1:Int):Option Bool :=
 (aa i1 1 6).bind λt10 =>
 (cond (!t10) (some true) (some ((p0.2.length:Int) != i1))).bind λt18 =>
 (cond t18 (some true) (some (decide ((p0.1.length:Int)>6)))).bind λt24 =>
 cond t24
 (some false)
 ((loop (λz=>iP p0 i1 z) 0).bind (Sum.elim (λd =>
 (loop (λz=>gJ p0 z) 0).bind (Sum.elim (λd_1 =>
 some true) (λr=>some r))) (λr_1=>some r_1)))
def o6:FL:=(238,⟨[.val true wy false,.val false tU false],[.val false uD (some true)],λa=>cJ a.1 a.2⟩)::o5
theorem tG:Gd o6:=tX tF 238 Tryz.f238 [(0,⟨⟨(28,false,[dI])::us 38 14 (us 54 6 (us 62 6 [])),[]⟩,
 ⟨[],[]⟩,some ⟨[(4,false,[dB])],[]⟩⟩),
 (2,⟨⟨[(73,false,[dI])],[]⟩,
 ⟨[],[]⟩,some ⟨[(4,false,[dB])],[]⟩⟩)] Tryz.func238
def iQ (p0:tO) (t8:Int):Option (Int⊕(Unit⊕Bool)) :=
 cond (decide (t8<(p0.2.2.1.length:Int)))
 ((at? p0.2.2.1 t8).bind λx10 =>
 (eR x10).bind λt13 =>
 cond (!t13) (some (.inr (.inr false))) (some (.inl (tP (t8+1)))))
 (some (.inr (.inl ())))
def aM (p0:tO):Option Bool :=
 (loop (λz=>iQ p0 z) 0).bind (Sum.elim (λd =>
 (aa p0.1 1 99).bind λt18 =>
 (cond (!t18) (some true) (some (decide ((p0.2.1.length:Int)>10)))).bind λt25 =>
 (cond t25
 (some true)
 ((aa (p0.2.2.1.length:Int) 1 6).bind λt30 =>
 some (!t30))).bind λt32 =>
 (cond t32
 (some true)
 ((gI p0.2.2.2.1).bind λt36 =>
 some (!t36))).bind λt38 =>
 (cond t38
 (some true)
 ((cJ (p0.2.2.2.2.1,p0.2.2.2.2.2.1) (p0.2.2.1.length:Int)).bind λt45 =>
 some (!t45))).bind λt47 =>
 cond t47
 (some false)
 ((aN p0.2.2.2.2.2.2.1).bind λt50 =>
 (cond t50
 ((aN p0.2.2.2.2.2.2.2.1).bind λt54 =>
 some t54)
 (some false)).bind λt55 =>
 (cond t55
 ((aN p0.2.2.2.2.2.2.2.2.1).bind λt59 =>
 some t59)
 (some false)).bind λt60 =>
 (cond t60
 ((aN p0.2.2.2.2.2.2.2.2.2.1).bind λt64 =>
 some t64)
 (some false)).bind λt65 =>
 (cond t65
 ((aN p0.2.2.2.2.2.2.2.2.2.2).bind λt69 =>
 some t69)
 (some false)).bind λt70 =>
 some t70)) (λr=>some r))
def o7:FL:=(145,⟨[.val true uc false],[.val false uD (some true)],λa=>aM a⟩)::o6
theorem tH:Gd o7:=tX tG 145 Tryz.f145 [(0,⟨⟨[(8,false,[dI])],[]⟩,
 ⟨[],[]⟩,some ⟨[(2,false,[dB])],[]⟩⟩)] Tryz.func145
def aH (o0:List Int) (t7:Int):Option (Int⊕(Unit⊕Bool)) :=
 cond (decide (t7<(o0.length:Int)))
 ((at? o0 t7).bind λx9 =>
 (aa x9 0 100000).bind λt12 =>
 cond (!t12) (some (.inr (.inr false))) (some (.inl (tP (t7+1)))))
 (some (.inr (.inl ())))
def ah (o0:List Int):Option Bool :=
 (loop (λz=>aH o0 z) 0).bind (Sum.elim (λd =>
 (aa (o0.length:Int) 1 10).bind λt17 =>
 some t17) (λr=>some r))
def o8:FL:=(311,⟨[.val false vR false],[.val false uD (some true)],λa=>ah a⟩)::o7
theorem tI:Gd o8:=tX tH 311 Tryz.f311 [(0,⟨⟨[(7,false,[dI])],[]⟩,
 ⟨[],[]⟩,some ⟨[(2,false,[dB])],[]⟩⟩)] Tryz.func311
def av (n0:Int):Option Bool :=
 (aa n0 (-2147483648) 2147483647).bind λt4 =>
 some t4
def o9:FL:=(312,⟨[.val false tU false],[.val false uD (some true)],λa=>av a⟩)::o8
theorem tJ:Gd o9:=tX tI 312 Tryz.f312 [] Tryz.func312
def dk (a0:List Int) (b1:List Int) (t13:Int):Option (Int⊕(Unit⊕Bool)) :=
 cond (decide (t13<(a0.length:Int)))
 ((at? a0 t13).bind λx18 =>
 (at? b1 t13).bind λx22 =>
 cond (x18 != x22) (some (.inr (.inr false))) (some (.inl (tP (t13+1)))))
 (some (.inr (.inl ())))
def az (a0:List Int) (b1:List Int):Option Bool :=
 cond ((a0.length:Int) != (b1.length:Int))
 (some false)
 ((loop (λz=>dk a0 b1 z) 0).bind (Sum.elim (λd =>
 some true) (λr=>some r)))
def oa:FL:=(357,⟨[.val false vR false,.val false vR false],[.val false uD (some true)],λa=>az a.1 a.2⟩)::o9
theorem tK:Gd oa:=tX tJ 357 Tryz.f357 [(0,⟨⟨[(13,false,[dI])],[]⟩,
 ⟨[],[]⟩,some ⟨[(4,false,[dB])],[]⟩⟩)] Tryz.func357
def aZ (a0:wJ) (b1:wJ):Option Bool :=
 (cond (a0.1==b1.1) (some (a0.2.1==b1.2.1)) (some false)).bind λt16 =>
 (cond t16 (some (a0.2.2.1==b1.2.2.1)) (some false)).bind λt23 =>
 (cond t23
 ((az a0.2.2.2 b1.2.2.2).bind λt29 =>
 some t29)
 (some false)).bind λt30 =>
 some t30
def ob:FL:=(355,⟨[.val true xQ false,.val true xQ false],[.val false uD (some true)],λa=>aZ a.1 a.2⟩)::oa
theorem tL:Gd ob:=tX tK 355 Tryz.f355 [] Tryz.func355
def ai (v0:wJ):Option Bool :=
 cond (v0.1==2)
 ((av v0.2.1).bind λt17 =>
 (cond t17
 ((aZ v0 (v0.1,v0.2.1,[],[])).bind λt43 =>
 some t43)
 (some false)).bind λt44 =>
 some t44)
 (cond (v0.1==4)
 (let ok4:=decide ((v0.2.2.1.length:Int)<=20)
 (cond ok4
 ((aZ v0 (v0.1,0,v0.2.2.1,[])).bind λt43_1 =>
 some t43_1)
 (some false)).bind λt44_1 =>
 some t44_1)
 (cond (v0.1==6)
 ((ah v0.2.2.2).bind λt34 =>
 (cond t34
 ((aZ v0 (v0.1,0,[],v0.2.2.2)).bind λt43_2 =>
 some t43_2)
 (some false)).bind λt44_2 =>
 some t44_2)
 (cond (v0.1==5)
 (cond (v0.1==5)
 (((aZ v0 (v0.1,0,[],[])).bind λt43_3 =>
 some t43_3).bind λt44_3 =>
 some t44_3)
 (some false))
 (cond (v0.1==128)
 (cond (v0.1==128)
 (((aZ v0 (v0.1,0,[],[])).bind λt43_4 =>
 some t43_4).bind λt44_4 =>
 some t44_4)
 (some false))
 (cond (v0.1==130)
 (((aZ v0 (v0.1,0,[],[])).bind λt43_5 =>
 some t43_5).bind λt44_5 =>
 some t44_5)
 (some false))))))
def ja:FL:=(310,⟨[.val true xQ false],[.val false uD (some true)],λa=>ai a⟩)::ob
theorem od:Gd ja:=tX tL 310 Tryz.f310 [] Tryz.func310
def eT (p0:um) (t35:Int):Option (Int⊕(Unit⊕Bool)) :=
 cond (decide (t35<(p0.2.2.2.2.length:Int)))
 ((at? p0.2.2.2.2 t35).bind λx38 =>
 (cond (decide (t35>=10))
 (some true)
 ((ah x38.1).bind λt45 =>
 some (!t45))).bind λt47 =>
 (cond t47
 (some true)
 ((ai x38.2).bind λt51 =>
 some (!t51))).bind λt53 =>
 cond t53 (some (.inr (.inr false))) (some (.inl (tP (t35+1)))))
 (some (.inr (.inl ())))
end
end Go.V.W
