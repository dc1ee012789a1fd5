/- The law FnJunk: part of the proof that for every input it returns true. No condition. -/
import Derived.Test.YthcdcolihokdmaaGreatV4
import Derived.Test.YthcdcolihokdmaaGreatProg
import Derived.Test.YthcdcolihokdmaaGreatChecked
import Derived.KernelRfl
set_option linter.unusedVariables false
set_option linter.unusedSimpArgs false
namespace Go.V.W
open Go.Proofs
noncomputable section
def us:Nat->Nat->List (Nat×Bool×List tG)->List (Nat×Bool×List tG)|_,0,l=>l|a,n+1,l=>(a,false,[.undef])::us (a+1) n l
@[reducible] def rQ:Cs:=.one (.int .i64)
@[reducible] def sS:Cs:=.one .bool
@[reducible] def tb:Cs:=.one (.sl (.one (.int .u8)))
@[reducible] def uw:Cs:=.one (.sl (.one (.int .i64)))
@[reducible] def FT:Cs:=.one .str
@[reducible] def dI:tG:=.dat (.int .i64)
@[reducible] def dB:tG:=.dat .bool
@[reducible] def dS:tG:=.dat .str
@[reducible] def uc:Cs:=.cons (.sl (.one (.int .u8))) (.cons (.int .i64) rQ)
@[reducible] def sr:Cs:=.cons (.int .i64) (.cons (.int .i64) (.cons (.int .i64) (.cons (.int .i64) sS)))
@[reducible] def tv:Cs:=.cons (.int .i64) (.cons (.int .i64) rQ)
@[reducible] def uq:Cs:=.cons (.sl tv) uw
@[reducible] def xr:Cs:=.cons (.int .i64) (.cons (.int .i64) (.cons (.int .i64) (.cons (.int .i64) rQ)))
@[reducible] def uG:Cs:=.cons .bool (.cons (.int .i64) (.cons .bool (.cons (.int .i64) (.cons (.int .i64) (.cons (.int .i64) (.cons (.int .i64) rQ))))))
@[reducible] def s7:Cs:=.cons (.int .i64) (.cons .str (.cons (.sl uG) (.cons (.sl sr) (.cons (.sl tv) (.cons (.sl rQ) (.cons (.int .i64) (.cons (.int .i64) (.cons (.int .i64) (.cons (.int .i64) rQ)))))))))
@[reducible] def wR:Cs:=.cons (.int .i64) (.cons (.int .i64) (.cons .str uw))
@[reducible] def rX:Cs:=.cons (.sl rQ) (.cons (.int .i64) (.cons (.int .i64) (.cons .str uw)))
@[reducible] def ud:Cs:=.cons (.int .i64) (.cons (.int .i64) (.cons (.int .i64) (.cons (.int .i64) (.one (.sl rX)))))
@[reducible] def xM:Cs:=.cons (.int .i64) (.cons (.sl (.one (.int .u8))) (.cons (.int .i64) (.cons (.int .i64) (.cons (.int .i64) (.cons (.int .i64) (.cons (.int .i64) (.cons (.sl rX) (.cons (.int .i64) (.cons .str (.cons (.sl uG) (.cons (.sl sr) (.cons (.sl tv) (.cons (.sl rQ) (.cons (.int .i64) (.cons (.int .i64) (.cons (.int .i64) (.cons (.int .i64) (.cons (.int .i64) (.cons (.int .i64) rQ)))))))))))))))))))
@[reducible] def tB:Cs:=.cons (.int .i64) (.cons .str (.cons (.sl uG) (.cons (.sl sr) (.cons (.sl tv) (.cons (.sl rQ) (.cons (.int .i64) (.cons (.int .i64) (.cons (.int .i64) (.cons (.int .i64) (.cons (.int .i64) (.cons .str (.cons (.sl xM) (.cons (.int .i64) rQ)))))))))))))
@[reducible] def wz:Cs:=.cons (.sl (.one (.int .u8))) (.cons (.int .i64) sS)
@[reducible] def yp:Cs:=.cons (.int .i64) (.cons (.int .i64) (.cons (.int .i64) (.cons (.int .i64) (.cons (.int .i64) (.one (.sl rX))))))
abbrev sc:Type:=List Int×Int×Int
abbrev rR:Type:=Int×Int×Int×Int×Bool
abbrev s5:Type:=Int×Int×Int
abbrev sR:Type:=List s5×List Int
abbrev zb:Type:=Int×Int×Int×Int×Int
abbrev Pt:Type:=Bool×Int×Bool×Int×Int×Int×Int×Int
abbrev rI:Type:=Int×List UInt8×List Pt×List rR×List s5×List Int×Int×Int×Int×Int×Int
abbrev vl:Type:=Int×Int×List UInt8×List Int
abbrev rK:Type:=List Int×Int×Int×List UInt8×List Int
abbrev sj:Type:=Int×Int×Int×Int×List rK
abbrev sY:Type:=Int×List Int×Int×Int×Int×Int×Int×List rK×Int×List UInt8×List Pt×List rR×List s5×List Int×Int×Int×Int×Int×Int×Int×Int
abbrev s9:Type:=Int×List UInt8×List Pt×List rR×List s5×List Int×Int×Int×Int×Int×Int×List UInt8×List sY×Int×Int
abbrev ul:Type:=List Int×Int×Bool
abbrev uV:Type:=Int×Int×Int×Int×Int×List rK
def tis:List (Nat×so):=[(2,⟨false,.one (.int .i64),[],0⟩),
 (3,⟨false,.one (.int .i64),[],0⟩),
 (4,⟨false,.one .bool,[],0⟩),
 (5,⟨false,.one (.int .u8),[],0⟩),
 (6,⟨false,.one (.int .u8),[],0⟩),
 (9,⟨false,.one .str,[],0⟩),
 (10,⟨false,.one .str,[],0⟩),
 (11,⟨false,.one .str,[],0⟩),
 (12,⟨false,.one (.int .u64),[],0⟩),
 (21,⟨false,.one (.int .i32),[],0⟩),
 (22,⟨false,.one (.sl (.one (.int .u8))),[],5⟩),
 (24,⟨false,.one (.sl uG),[],239⟩),
 (25,⟨false,.one (.sl sr),[],320⟩),
 (26,⟨false,.one (.sl tv),[],322⟩),
 (27,⟨false,.one (.sl rQ),[],3⟩),
 (28,⟨true,uq,[(26,0),(27,1)],0⟩),
 (29,⟨true,uq,[(26,0),(27,1)],0⟩),
 (30,⟨true,s7,[(3,0),(9,1),(24,2),(25,3),(29,4),(3,6),(3,7),(3,8),(3,9),(3,10)],0⟩),
 (31,⟨true,s7,[(3,0),(9,1),(24,2),(25,3),(29,4),(3,6),(3,7),(3,8),(3,9),(3,10)],0⟩),
 (32,⟨false,.one (.sl xM),[],148⟩),
 (33,⟨true,tB,[(31,0),(9,11),(32,12),(3,13),(3,14)],0⟩),
 (34,⟨true,tB,[(31,0),(9,11),(32,12),(3,13),(3,14)],0⟩),
 (39,⟨false,.one (.sl rX),[],209⟩),
 (40,⟨true,ud,[(3,0),(3,1),(3,2),(3,3),(39,4)],0⟩),
 (41,⟨true,ud,[(3,0),(3,1),(3,2),(3,3),(39,4)],0⟩),
 (44,⟨false,.one (.sl yp),[],49⟩),
 (48,⟨true,yp,[(3,0),(41,1)],0⟩),
 (49,⟨true,yp,[(3,0),(41,1)],0⟩),
 (50,⟨false,.one (.sl s7),[],83⟩),
 (51,⟨false,.one (.sl (.cons (.int .i64) (.cons (.int .i64) (.cons (.int .i64) rQ)))),[],232⟩),
 (52,⟨false,.one (.sl (.cons (.int .i64) (.cons .bool (.cons (.int .i64) (.cons (.int .i64) (.cons (.int .i64) (.cons (.int .i64) rQ))))))),[],237⟩),
 (53,⟨true,.cons (.sl s7) (.cons (.sl (.cons (.int .i64) (.cons (.int .i64) (.cons (.int .i64) rQ)))) (.one (.sl (.cons (.int .i64) (.cons .bool (.cons (.int .i64) (.cons (.int .i64) (.cons (.int .i64) (.cons (.int .i64) rQ))))))))),[(50,0),(51,1),(52,2)],0⟩),
 (54,⟨true,.cons (.sl s7) (.cons (.sl (.cons (.int .i64) (.cons (.int .i64) (.cons (.int .i64) rQ)))) (.one (.sl (.cons (.int .i64) (.cons .bool (.cons (.int .i64) (.cons (.int .i64) (.cons (.int .i64) (.cons (.int .i64) rQ))))))))),[(50,0),(51,1),(52,2)],0⟩),
 (55,⟨true,.cons (.int .i64) (.cons (.int .i64) (.cons (.int .i64) tb)),[(3,0),(3,1),(3,2),(22,3)],0⟩),
 (56,⟨true,.cons (.int .i64) (.cons (.int .i64) (.cons (.int .i64) tb)),[(3,0),(3,1),(3,2),(22,3)],0⟩),
 (59,⟨false,.one (.sl s7),[],31⟩),
 (60,⟨false,.one (.sl (.cons (.int .i64) (.cons (.int .i64) (.cons (.int .i64) rQ)))),[],230⟩),
 (61,⟨false,.one (.sl (.cons (.int .i64) (.cons .bool (.cons (.int .i64) (.cons (.int .i64) (.cons (.int .i64) (.cons (.int .i64) rQ))))))),[],234⟩),
 (62,⟨true,.cons (.sl s7) (.cons (.sl (.cons (.int .i64) (.cons (.int .i64) (.cons (.int .i64) rQ)))) (.one (.sl (.cons (.int .i64) (.cons .bool (.cons (.int .i64) (.cons (.int .i64) (.cons (.int .i64) (.cons (.int .i64) rQ))))))))),[(59,0),(60,1),(61,2)],0⟩),
 (63,⟨true,.cons (.sl s7) (.cons (.sl (.cons (.int .i64) (.cons (.int .i64) (.cons (.int .i64) rQ)))) (.one (.sl (.cons (.int .i64) (.cons .bool (.cons (.int .i64) (.cons (.int .i64) (.cons (.int .i64) (.cons (.int .i64) rQ))))))))),[(59,0),(60,1),(61,2)],0⟩),
 (64,⟨false,.one (.sl (.cons (.int .i64) (.cons (.int .i64) (.cons (.int .i64) (.cons (.int .i64) (.cons (.int .i64) tb)))))),[],169⟩),
 (68,⟨true,.cons (.int .i64) (.cons (.int .i64) (.cons (.int .i64) tb)),[(3,0),(3,1),(3,2),(22,3)],0⟩),
 (77,⟨false,.one (.sl uG),[],332⟩),
 (78,⟨false,.one (.sl sr),[],334⟩),
 (79,⟨false,.one (.sl tv),[],372⟩),
 (80,⟨true,uq,[(79,0),(27,1)],0⟩),
 (81,⟨true,uq,[(79,0),(27,1)],0⟩),
 (82,⟨true,s7,[(3,0),(9,1),(77,2),(78,3),(81,4),(3,6),(3,7),(3,8),(3,9),(3,10)],0⟩),
 (83,⟨true,s7,[(3,0),(9,1),(77,2),(78,3),(81,4),(3,6),(3,7),(3,8),(3,9),(3,10)],0⟩),
 (84,⟨false,.one (.sl xM),[],263⟩),
 (85,⟨true,tB,[(83,0),(9,11),(84,12),(3,13),(3,14)],0⟩),
 (86,⟨true,tB,[(83,0),(9,11),(84,12),(3,13),(3,14)],0⟩),
 (94,⟨true,xr,[(3,0),(3,1),(3,2),(3,3),(3,4)],0⟩),
 (95,⟨true,xr,[(3,0),(3,1),(3,2),(3,3),(3,4)],0⟩),
 (96,⟨true,.cons (.int .i64) (.cons (.int .i64) (.cons .bool (.cons (.sl (.one (.int .u8))) (.cons (.int .i64) (.cons (.int .i64) (.cons (.int .i64) (.cons (.sl (.one (.int .u8))) (.cons (.int .i64) (.cons (.int .i64) (.cons (.int .i64) (.cons (.int .i64) rQ))))))))))),[(3,0),(3,1),(4,2),(22,3),(56,4),(95,8)],0⟩),
 (97,⟨true,.cons (.int .i64) (.cons (.int .i64) (.cons .bool (.cons (.sl (.one (.int .u8))) (.cons (.int .i64) (.cons (.int .i64) (.cons (.int .i64) (.cons (.sl (.one (.int .u8))) (.cons (.int .i64) (.cons (.int .i64) (.cons (.int .i64) (.cons (.int .i64) rQ))))))))))),[(3,0),(3,1),(4,2),(22,3),(56,4),(95,8)],0⟩),
 (99,⟨false,.one (.sl (.cons (.int .i64) (.cons (.int .i64) (.cons (.int .i64) (.cons (.int .i64) tb))))),[],194⟩),
 (102,⟨true,xr,[(3,0),(3,1),(3,2),(3,3),(3,4)],0⟩),
 (103,⟨true,.cons (.int .i64) (.cons (.int .i64) (.cons .bool (.cons (.sl (.one (.int .u8))) (.cons (.int .i64) (.cons (.int .i64) (.cons (.int .i64) (.cons (.sl (.one (.int .u8))) (.cons (.int .i64) (.cons (.int .i64) (.cons (.int .i64) (.cons (.int .i64) rQ))))))))))),[(3,0),(3,1),(4,2),(22,3),(68,4),(102,8)],0⟩),
 (104,⟨true,.cons (.int .i64) (.cons (.int .i64) (.cons .bool (.cons (.sl (.one (.int .u8))) (.cons (.int .i64) (.cons (.int .i64) (.cons (.int .i64) (.cons (.sl (.one (.int .u8))) (.cons (.int .i64) (.cons (.int .i64) (.cons (.int .i64) (.cons (.int .i64) rQ))))))))))),[(3,0),(3,1),(4,2),(22,3),(68,4),(102,8)],0⟩),
 (111,⟨false,.one (.sl (.cons (.int .i64) (.cons (.int .i64) (.cons .bool (.cons (.sl (.one (.int .u8))) (.cons (.int .i64) (.cons (.int .i64) (.cons (.int .i64) (.cons (.sl (.one (.int .u8))) (.cons (.int .i64) (.cons (.int .i64) (.cons (.int .i64) (.cons (.int .i64) rQ))))))))))))),[],97⟩),
 (114,⟨false,.one (.sl (.cons (.int .i64) (.cons (.int .i64) (.cons .bool (.cons (.sl (.one (.int .u8))) (.cons (.int .i64) (.cons (.int .i64) (.cons (.int .i64) (.cons (.sl (.one (.int .u8))) (.cons (.int .i64) (.cons (.int .i64) (.cons (.int .i64) (.cons (.int .i64) rQ))))))))))))),[],104⟩),
 (125,⟨false,.one (.sl FT),[],9⟩),
 (137,⟨true,wz,[(22,0),(3,1),(4,2)],0⟩),
 (138,⟨true,wz,[(22,0),(3,1),(4,2)],0⟩),
 (147,⟨true,xM,[(3,0),(22,1),(3,2),(41,3),(31,8),(3,19),(3,20)],0⟩),
 (148,⟨true,xM,[(3,0),(22,1),(3,2),(41,3),(31,8),(3,19),(3,20)],0⟩),
 (154,⟨false,.one (.sl (.cons (.int .i64) (.cons (.int .i64) (.cons (.int .i64) (.cons (.int .i64) (.cons (.int .i64) tb)))))),[],227⟩),
 (155,⟨true,.cons (.sl s7) (.cons (.sl (.cons (.int .i64) (.cons (.int .i64) (.cons (.int .i64) rQ)))) (.cons (.sl (.cons (.int .i64) (.cons .bool (.cons (.int .i64) (.cons (.int .i64) (.cons (.int .i64) (.cons (.int .i64) rQ))))))) (.cons (.sl (.cons (.int .i64) (.cons (.int .i64) (.cons (.int .i64) (.cons (.int .i64) (.cons (.int .i64) tb)))))) (.cons (.sl (.cons (.int .i64) (.cons (.int .i64) (.cons (.int .i64) (.cons (.int .i64) (.cons (.int .i64) tb)))))) (.cons (.sl rQ) rQ))))),[(63,0),(154,3),(64,4),(27,5),(3,6)],0⟩),
 (156,⟨true,.cons (.sl s7) (.cons (.sl (.cons (.int .i64) (.cons (.int .i64) (.cons (.int .i64) rQ)))) (.cons (.sl (.cons (.int .i64) (.cons .bool (.cons (.int .i64) (.cons (.int .i64) (.cons (.int .i64) (.cons (.int .i64) rQ))))))) (.cons (.sl (.cons (.int .i64) (.cons (.int .i64) (.cons (.int .i64) (.cons (.int .i64) (.cons (.int .i64) tb)))))) (.cons (.sl (.cons (.int .i64) (.cons (.int .i64) (.cons (.int .i64) (.cons (.int .i64) (.cons (.int .i64) tb)))))) (.cons (.sl rQ) rQ))))),[(63,0),(154,3),(64,4),(27,5),(3,6)],0⟩),
 (168,⟨true,.cons (.int .i64) (.cons (.int .i64) (.cons (.int .i64) (.cons (.int .i64) (.cons (.int .i64) tb)))),[(3,0),(3,1),(68,2)],0⟩),
 (169,⟨true,.cons (.int .i64) (.cons (.int .i64) (.cons (.int .i64) (.cons (.int .i64) (.cons (.int .i64) tb)))),[(3,0),(3,1),(68,2)],0⟩),
 (193,⟨true,.cons (.int .i64) (.cons (.int .i64) (.cons (.int .i64) (.cons (.int .i64) tb))),[(3,0),(68,1)],0⟩),
 (194,⟨true,.cons (.int .i64) (.cons (.int .i64) (.cons (.int .i64) (.cons (.int .i64) tb))),[(3,0),(68,1)],0⟩),
 (196,⟨true,uc,[(22,0),(3,1),(3,2)],0⟩),
 (197,⟨true,uc,[(22,0),(3,1),(3,2)],0⟩),
 (205,⟨true,wR,[(3,0),(3,1),(9,2),(27,3)],0⟩),
 (206,⟨true,wR,[(3,0),(3,1),(9,2),(27,3)],0⟩),
 (208,⟨true,rX,[(27,0),(206,1)],0⟩),
 (209,⟨true,rX,[(27,0),(206,1)],0⟩),
 (210,⟨false,.one (.int .u64),[],0⟩),
 (226,⟨true,.cons (.int .i64) (.cons (.int .i64) (.cons (.int .i64) (.cons (.int .i64) (.cons (.int .i64) tb)))),[(3,0),(3,1),(68,2)],0⟩),
 (227,⟨true,.cons (.int .i64) (.cons (.int .i64) (.cons (.int .i64) (.cons (.int .i64) (.cons (.int .i64) tb)))),[(3,0),(3,1),(68,2)],0⟩),
 (229,⟨true,.cons (.int .i64) (.cons (.int .i64) (.cons (.int .i64) rQ)),[(3,0),(3,1),(3,2),(3,3)],0⟩),
 (230,⟨true,.cons (.int .i64) (.cons (.int .i64) (.cons (.int .i64) rQ)),[(3,0),(3,1),(3,2),(3,3)],0⟩),
 (232,⟨true,.cons (.int .i64) (.cons (.int .i64) (.cons (.int .i64) rQ)),[(3,0),(3,1),(3,2),(3,3)],0⟩),
 (233,⟨true,.cons (.int .i64) (.cons .bool (.cons (.int .i64) (.cons (.int .i64) (.cons (.int .i64) (.cons (.int .i64) rQ))))),[(3,0),(4,1),(102,2)],0⟩),
 (234,⟨true,.cons (.int .i64) (.cons .bool (.cons (.int .i64) (.cons (.int .i64) (.cons (.int .i64) (.cons (.int .i64) rQ))))),[(3,0),(4,1),(102,2)],0⟩),
 (236,⟨true,.cons (.int .i64) (.cons .bool (.cons (.int .i64) (.cons (.int .i64) (.cons (.int .i64) (.cons (.int .i64) rQ))))),[(3,0),(4,1),(95,2)],0⟩),
 (237,⟨true,.cons (.int .i64) (.cons .bool (.cons (.int .i64) (.cons (.int .i64) (.cons (.int .i64) (.cons (.int .i64) rQ))))),[(3,0),(4,1),(95,2)],0⟩),
 (238,⟨true,uG,[(4,0),(3,1),(4,2),(102,3)],0⟩),
 (239,⟨true,uG,[(4,0),(3,1),(4,2),(102,3)],0⟩),
 (243,⟨true,.cons (.int .i64) (.cons (.int .i64) (.cons (.int .i64) (.cons (.int .i64) (.cons (.int .i64) tb)))),[(3,0),(3,1),(68,2)],0⟩),
 (244,⟨true,.cons (.int .i64) (.cons (.int .i64) (.cons (.int .i64) (.cons (.int .i64) (.cons (.int .i64) tb)))),[(3,0),(3,1),(68,2)],0⟩),
 (245,⟨false,.one (.sl (.cons (.int .i64) (.cons (.int .i64) (.cons (.int .i64) (.cons (.int .i64) (.cons (.int .i64) tb)))))),[],244⟩),
 (259,⟨false,.one (.sl rX),[],392⟩),
 (260,⟨true,ud,[(3,0),(3,1),(3,2),(3,3),(259,4)],0⟩),
 (261,⟨true,ud,[(3,0),(3,1),(3,2),(3,3),(259,4)],0⟩),
 (262,⟨true,xM,[(3,0),(22,1),(3,2),(261,3),(83,8),(3,19),(3,20)],0⟩),
 (263,⟨true,xM,[(3,0),(22,1),(3,2),(261,3),(83,8),(3,19),(3,20)],0⟩),
 (301,⟨false,.one (.int .i8),[],0⟩),
 (319,⟨true,sr,[(3,0),(3,1),(3,2),(3,3),(4,4)],0⟩),
 (320,⟨true,sr,[(3,0),(3,1),(3,2),(3,3),(4,4)],0⟩),
 (321,⟨true,tv,[(3,0),(3,1),(3,2)],0⟩),
 (322,⟨true,tv,[(3,0),(3,1),(3,2)],0⟩),
 (331,⟨true,uG,[(4,0),(3,1),(4,2),(95,3)],0⟩),
 (332,⟨true,uG,[(4,0),(3,1),(4,2),(95,3)],0⟩),
 (334,⟨true,sr,[(3,0),(3,1),(3,2),(3,3),(4,4)],0⟩),
 (366,⟨true,wz,[(22,0),(3,1),(4,2)],0⟩),
 (367,⟨true,wz,[(22,0),(3,1),(4,2)],0⟩),
 (372,⟨true,tv,[(3,0),(3,1),(3,2)],0⟩),
 (387,⟨false,.one (.sl uw),[],27⟩),
 (390,⟨true,wR,[(3,0),(3,1),(9,2),(27,3)],0⟩),
 (391,⟨true,rX,[(27,0),(390,1)],0⟩),
 (392,⟨true,rX,[(27,0),(390,1)],0⟩),
 (417,⟨false,.one (.int .u32),[],0⟩),
 (418,⟨false,.one (.int .u8),[],0⟩),
 (419,⟨false,.one (.int .u8),[],0⟩),
 (422,⟨false,.one (.int .i32),[],0⟩),
 (423,⟨false,.one (.int .i32),[],0⟩)]
theorem tisT:uv Tryz.prog tis:=uv.of_all (by kernel_rfl)
theorem Qj:GL Tryz.prog tis:=GL.of_all (by kernel_rfl)
theorem tisD:Deep Tryz.prog tis:=Deep.of_all (by kernel_rfl)
theorem Pe:Tryz.prog.follows .mixedOrders=true:=by kernel_rfl
def Ez (fn:Func):Code:=match fn.body with|some c=>c|none=>.skip
theorem p9:xb Tryz.prog ⟨tis,[],[],false⟩:=⟨tisT,Qj,(λf F h=>by cases h),(λf M h=>by cases h),(λh=>by cases h)⟩
theorem O0 {l : List (FuncId×Fn)} (g : xb Tryz.prog ⟨tis, l, [], false⟩) (n : FuncId) (f : Func) (ann : List (Nat×rT)) (F : Fn) (h1 : Tryz.prog.funcs[n]?=some f) (h2 : (f.name == "runtime.NumGoroutine")=false := by kernel_rfl) (h3 : f.body=some (Ez f) := by kernel_rfl) (h4 : Ec ⟨tis, l, [], false⟩ ann f (Ez f) F.ps F.rs=F.den := by kernel_rfl) : zY Tryz.prog n F := by
 have h:=LF (ann:=ann) (ps:=F.ps) (rs:=F.rs) g Pe h1 h2 h3;rw[h4]at h;exact h
abbrev FL:=List (FuncId×Fn)
def Gd (l:FL):Prop:=xb Tryz.prog ⟨tis,l,[],false⟩
theorem rS {l : List (FuncId×Fn)} (g : Gd l) (n : FuncId) (f : Func) (ann : List (Nat×rT)) {F : Fn} (h1 : Tryz.prog.funcs[n]?=some f) (h2 : (f.name == "runtime.NumGoroutine")=false := by kernel_rfl) (h3 : f.body=some (Ez f) := by kernel_rfl) (h4 : Ec ⟨tis, l, [], false⟩ ann f (Ez f) F.ps F.rs=F.den := by kernel_rfl) : Gd ((n, F)::l) := xb.cons g (O0 g n f ann F h1 h2 h3 h4)
def gJ (code0:List Int):Option Bool :=
 let t2:=decide ((code0.length:Int)>1048576)
 some t2
def kK:FL:=(9,⟨[.val false tb false],[.val false sS (some true)],λa=>gJ a⟩)::[]
theorem pa:Gd kK:=rS p9 9 Tryz.f9 [] Tryz.func9
def cC (code0:List Int) (h3_1:Int) (i4:Int):Option ((Int×Int)⊕Int) :=
 (cond (decide (i4<(code0.length:Int))) (some (decide (i4<4000))) (some false)).bind λt15 =>
 cond t15
 ((at? code0 i4).bind λx22 =>
 let h3_2:=vn .i64 (rJ ((rJ ((rJ (h3_1*137))+(rJ (x22))))+11)) 1073741823
 some (.inl (h3_2,rJ (i4+1))))
 (some (.inr h3_1))
def es (code0:List Int):Option sc :=
 let h3:=rJ (762762+(code0.length:Int))
 (loop (λz=>cC code0 z.1 z.2) (h3,0)).bind λd =>
 some (code0,0,d)
def kL:FL:=(55,⟨[.val false tb false],[.ptr uc none],λa=>es a⟩)::kK
theorem pb:Gd kL:=rS pa 55 Tryz.f55 [(0,⟨⟨[(3,false,[dI]),(4,false,[dI]),(13,false,[.undef]),(14,false,[.undef])],[]⟩,
 ⟨[(3,false,[dI])],[]⟩,none⟩)] Tryz.func55
def bN (l0:List rR):Option (List rR) :=
 (sf ([]:List rR) l0).bind λzs5 =>
 some zs5
def kM:FL:=(264,⟨[.val false (.one (.sl sr)) false],[.val false (.one (.sl sr)) (some true)],λa=>bN a⟩)::kL
theorem pc:Gd kM:=rS pb 264 Tryz.f264 [] Tryz.func264
def aJ (v0:sR):Option sR :=
 (sf ([]:List s5) v0.1).bind λzs6 =>
 (sf ([]:List Int) v0.2).bind λzs10 =>
 some (zs6,zs10)
def kN:FL:=(265,⟨[.val true uq false],[.val true uq (some true)],λa=>aJ a⟩)::kM
theorem pf:Gd kN:=rS pc 265 Tryz.f265 [] Tryz.func265
def ap (b0:rI):Option rI :=
 (sf ([]:List Pt) b0.2.2.1).bind λzs8 =>
 (bN b0.2.2.2.1).bind λt12 =>
 (aJ (b0.2.2.2.2.1,b0.2.2.2.2.2.1)).bind λt16 =>
 some (b0.1,b0.2.1,zs8,t12,t16.1,t16.2,b0.2.2.2.2.2.2.1,b0.2.2.2.2.2.2.2.1,b0.2.2.2.2.2.2.2.2.1,b0.2.2.2.2.2.2.2.2.2.1,b0.2.2.2.2.2.2.2.2.2.2)
def kO:FL:=(176,⟨[.val true s7 false],[.val true s7 (some true)],λa=>ap a⟩)::kN
theorem pj:Gd kO:=rS pf 176 Tryz.f176 [] Tryz.func176
def dO (l0:List rK) (i4:Int) (out3:List rK):Option ((Int×List rK)⊕(List rK)) :=
 cond (decide (i4<(l0.length:Int)))
 ((at? l0 i4).bind λx15 =>
 (sf ([]:List Int) x15.2.2.2.2).bind λzs21 =>
 (at? l0 i4).bind λx27 =>
 (sf ([]:List Int) x27.1).bind λzs30 =>
 (sf out3 [(zs30,x15.2.1,x15.2.2.1,x15.2.2.2.1,zs21)]).bind λzs34 =>
 some (.inl (rJ (i4+1),zs34)))
 (some (.inr out3))
def cD (l0:List rK):Option (List rK) :=
 (loop (λz=>dO l0 z.1 z.2) (0,([]:List rK))).bind λd =>
 some d
def kP:FL:=(266,⟨[.val false (.one (.sl rX)) false],[.val false (.one (.sl rX)) (some true)],λa=>cD a⟩)::kO
theorem pk:Gd kP:=rS pj 266 Tryz.f266 [(0,⟨⟨[(3,false,[.own 1000000000]),(4,false,[dI])],[(1000000000,.root rX true)]⟩,
 ⟨[(3,false,[.own 1000000300])],[(1000000300,.root rX true)]⟩,none⟩)] Tryz.func266
def eY (p0:sj):Option sj :=
 (cD p0.2.2.2.2).bind λt7 =>
 some (p0.1,p0.2.1,p0.2.2.1,p0.2.2.2.1,t7)
def kQ:FL:=(177,⟨[.val true ud false],[.val true ud (some true)],λa=>eY a⟩)::kP
theorem pm:Gd kQ:=rS pk 177 Tryz.f177 [] Tryz.func177
def eZ (a0:s9) (i4:Int) (b0:Int) (b1:List UInt8) (b6:Int) (b7:Int) (b8:Int) (b9:Int) (b10:Int) (b11:List UInt8) (b13:Int) (b14:Int) (b12:List sY):Option ((Int×Int×List UInt8×Int×Int×Int×Int×Int×List UInt8×Int×Int×List sY)⊕(Int×List UInt8×Int×Int×Int×Int×Int×List UInt8×Int×Int×List sY)) :=
 cond (decide (i4<(a0.2.2.2.2.2.2.2.2.2.2.2.2.1.length:Int)))
 ((at? a0.2.2.2.2.2.2.2.2.2.2.2.2.1 i4).bind λx26 =>
 (sf ([]:List Int) x26.2.1).bind λzs31 =>
 (eY (x26.2.2.2.1,x26.2.2.2.2.1,x26.2.2.2.2.2.1,x26.2.2.2.2.2.2.1,x26.2.2.2.2.2.2.2.1)).bind λt35 =>
 (ap (x26.2.2.2.2.2.2.2.2.1,x26.2.2.2.2.2.2.2.2.2.1,x26.2.2.2.2.2.2.2.2.2.2.1,x26.2.2.2.2.2.2.2.2.2.2.2.1,x26.2.2.2.2.2.2.2.2.2.2.2.2.1,x26.2.2.2.2.2.2.2.2.2.2.2.2.2.1,x26.2.2.2.2.2.2.2.2.2.2.2.2.2.2.1,x26.2.2.2.2.2.2.2.2.2.2.2.2.2.2.2.1,x26.2.2.2.2.2.2.2.2.2.2.2.2.2.2.2.2.1,x26.2.2.2.2.2.2.2.2.2.2.2.2.2.2.2.2.2.1,x26.2.2.2.2.2.2.2.2.2.2.2.2.2.2.2.2.2.2.1)).bind λt39 =>
 (sf b12 [(x26.1,zs31,x26.2.2.1,t35.1,t35.2.1,t35.2.2.1,t35.2.2.2.1,t35.2.2.2.2,t39.1,t39.2.1,t39.2.2.1,t39.2.2.2.1,t39.2.2.2.2.1,t39.2.2.2.2.2.1,t39.2.2.2.2.2.2.1,t39.2.2.2.2.2.2.2.1,t39.2.2.2.2.2.2.2.2.1,t39.2.2.2.2.2.2.2.2.2.1,t39.2.2.2.2.2.2.2.2.2.2,x26.2.2.2.2.2.2.2.2.2.2.2.2.2.2.2.2.2.2.2.1,x26.2.2.2.2.2.2.2.2.2.2.2.2.2.2.2.2.2.2.2.2)]).bind λzs45 =>
 some (.inl (rJ (i4+1),b0,b1,b6,b7,b8,b9,b10,b11,b13,b14,zs45)))
 (some (.inr (b0,b1,b6,b7,b8,b9,b10,b11,b13,b14,b12)))
def f0 (a0:s9):Option s9 :=
 (ap (a0.1,a0.2.1,a0.2.2.1,a0.2.2.2.1,a0.2.2.2.2.1,a0.2.2.2.2.2.1,a0.2.2.2.2.2.2.1,a0.2.2.2.2.2.2.2.1,a0.2.2.2.2.2.2.2.2.1,a0.2.2.2.2.2.2.2.2.2.1,a0.2.2.2.2.2.2.2.2.2.2.1)).bind λt8 =>
 (loop (λz=>eZ a0 z.1 z.2.1 z.2.2.1 z.2.2.2.1 z.2.2.2.2.1 z.2.2.2.2.2.1 z.2.2.2.2.2.2.1 z.2.2.2.2.2.2.2.1 z.2.2.2.2.2.2.2.2.1 z.2.2.2.2.2.2.2.2.2.1 z.2.2.2.2.2.2.2.2.2.2.1 z.2.2.2.2.2.2.2.2.2.2.2) (0,t8.1,t8.2.1,t8.2.2.2.2.2.2.1,t8.2.2.2.2.2.2.2.1,t8.2.2.2.2.2.2.2.2.1,t8.2.2.2.2.2.2.2.2.2.1,t8.2.2.2.2.2.2.2.2.2.2,a0.2.2.2.2.2.2.2.2.2.2.2.1,a0.2.2.2.2.2.2.2.2.2.2.2.2.2.1,a0.2.2.2.2.2.2.2.2.2.2.2.2.2.2,[])).bind λd =>
 some (d.1,d.2.1,t8.2.2.1,t8.2.2.2.1,t8.2.2.2.2.1,t8.2.2.2.2.2.1,d.2.2.1,d.2.2.2.1,d.2.2.2.2.1,d.2.2.2.2.2.1,d.2.2.2.2.2.2.1,d.2.2.2.2.2.2.2.1,d.2.2.2.2.2.2.2.2.2.2,d.2.2.2.2.2.2.2.2.1,d.2.2.2.2.2.2.2.2.2.1)
def kR:FL:=(105,⟨[.val true tB false],[.val true tB (some true)],λa=>f0 a⟩)::kQ
theorem po:Gd kR:=rS pm 105 Tryz.f105 [(0,⟨⟨[(4,false,[dI])],[(273408,.box [dI,dS,.same 265218,.same 265219,.same 265220,.same 265221,dI,dI,dI,dI,dI,dS,.own 1000000000,dI,dI]),(1000000000,.root xM true)]⟩,
 ⟨[],[(273408,.box [dI,dS,.same 265218,.same 265219,.same 265220,.same 265221,dI,dI,dI,dI,dI,dS,.own 1000000300,dI,dI]),(1000000300,.root xM true)]⟩,none⟩)] Tryz.func105
def ae (x0:Int) (least1:Int) (most2:Int):Option Bool :=
 (cond (decide (x0>=least1)) (some (decide (x0<=most2))) (some false)).bind λt14 =>
 some t14
def kS:FL:=(107,⟨[.val false rQ false,.val false rQ false,.val false rQ false],[.val false sS (some true)],λa=>ae a.1 a.2.1 a.2.2⟩)::kR
theorem pp:Gd kS:=rS po 107 Tryz.f107 [] Tryz.func107
def f6 (v0:zb):Option Bool :=
 (ae v0.1 1 99).bind λt5 =>
 (cond t5
 ((ae v0.2.1 0 100000).bind λt9 =>
 some t9)
 (some false)).bind λt10 =>
 (cond t10
 ((ae v0.2.2.1 0 10).bind λt14 =>
 some t14)
 (some false)).bind λt15 =>
 (cond t15
 ((ae v0.2.2.2.1 1 99).bind λt19 =>
 some t19)
 (some false)).bind λt20 =>
 (cond t20
 ((ae v0.2.2.2.2 0 7).bind λt24 =>
 some t24)
 (some false)).bind λt25 =>
 some t25
def kT:FL:=(245,⟨[.val true xr false],[.val false sS (some true)],λa=>f6 a⟩)::kS
theorem pq:Gd kT:=rS pp 245 Tryz.f245 [] Tryz.func245
def f7 (p0:Pt):Option Bool :=
 (ae p0.2.1 1 1000).bind λt5 =>
 (cond (!t5)
 (some true)
 ((cond (!p0.1) (some p0.2.2.1) (some false)).bind λt14 =>
 some t14)).bind λt15 =>
 cond t15
 (some false)
 (cond (!p0.2.2.1)
 (let t2:=p0.2.2.2.1==0&&(p0.2.2.2.2.1==0&&(p0.2.2.2.2.2.1==0&&(p0.2.2.2.2.2.2.1==0&&(p0.2.2.2.2.2.2.2==0))))
 some t2)
 ((f6 p0.2.2.2).bind λt25 =>
 some t25))
def kU:FL:=(268,⟨[.val true uG false],[.val false sS (some true)],λa=>f7 a⟩)::kT
theorem pr:Gd kU:=rS pq 268 Tryz.f268 [] Tryz.func268
def ci (e0:rR):Option Bool :=
 (ae e0.1 1 99).bind λt5 =>
 (cond t5
 ((ae e0.2.1 1 9999).bind λt9 =>
 some t9)
 (some false)).bind λt10 =>
 (cond t10
 ((ae e0.2.2.1 0 7).bind λt14 =>
 some t14)
 (some false)).bind λt15 =>
 (cond t15
 ((ae e0.2.2.2.1 0 4).bind λt19 =>
 some t19)
 (some false)).bind λt20 =>
 (cond t20
 ((cond (!e0.2.2.2.2) (some true) (some (e0.2.2.2.1==0))).bind λt29 =>
 some t29)
 (some false)).bind λt30 =>
 some t30
def kV:FL:=(292,⟨[.val true sr false],[.val false sS (some true)],λa=>ci a⟩)::kU
theorem pu:Gd kV:=rS pr 292 Tryz.f292 [] Tryz.func292
def ca (e0:rR) (tag1:Int) (mac2:Int):Option Bool :=
 cond (e0.1 != tag1) (some (decide (e0.1<tag1))) (some (decide (e0.2.1<mac2)))
def kW:FL:=(329,⟨[.val true sr false,.val false rQ false,.val false rQ false],[.val false sS (some true)],λa=>ca a.1 a.2.1 a.2.2⟩)::kV
theorem pv:Gd kW:=rS pu 329 Tryz.f329 [] Tryz.func329
def gK (l0:List rR) (i3:Int):Option (Int⊕(Unit⊕Bool)) :=
 cond (decide (i3<(l0.length:Int)))
 ((at? l0 i3).bind λx12 =>
 (ci x12).bind λt14 =>
 (cond (!t14)
 (some true)
 ((cond (decide (i3>0))
 ((at? l0 (rJ (i3-1))).bind λx23 =>
 (at? l0 i3).bind λx27 =>
 (at? l0 i3).bind λx32 =>
 (ca x23 x27.1 x32.2.1).bind λt35 =>
 some (!t35))
 (some false)).bind λt37 =>
 some t37)).bind λt38 =>
 cond t38 (some (.inr (.inr false))) (some (.inl (rJ (i3+1)))))
 (some (.inr (.inl ())))
def ch (l0:List rR):Option Bool :=
 (loop (λz=>gK l0 z) 0).bind (Sum.elim (λd =>
 let t2:=decide ((l0.length:Int)<=12)
 some t2) (λr=>some r))
def kX:FL:=(269,⟨[.val false (.one (.sl sr)) false],[.val false sS (some true)],λa=>ch a⟩)::kW
theorem pz:Gd kX:=rS pv 269 Tryz.f269 [(0,⟨⟨(3,false,[dI])::us 17 21 [],[]⟩,
 ⟨[],[]⟩,some ⟨[(2,false,[dB])],[]⟩⟩)] Tryz.func269
def pA (v0:sR) (id1:Int) (i5:Int):Option (Int⊕(Unit⊕Int)) :=
 cond (decide (i5<(v0.1.length:Int)))
 ((at? v0.1 i5).bind λx16 =>
 cond (x16.1==id1) (some (.inr (.inr i5))) (some (.inl (rJ (i5+1)))))
 (some (.inr (.inl ())))
def bc (v0:sR) (id1:Int):Option Int :=
 (loop (λz=>pA v0 id1 z) 0).bind (Sum.elim (λd =>
 some (-1)) (λr=>some r))
def kY:FL:=(290,⟨[.val true uq false,.val false rQ false],[.val false rQ (some true)],λa=>bc a.1 a.2⟩)::kX
theorem pB:Gd kY:=rS pz 290 Tryz.f290 [(0,⟨⟨[(5,false,[dI])],[]⟩,
 ⟨[],[]⟩,some ⟨[(4,false,[dI])],[]⟩⟩)] Tryz.func290
def gL (p0:sR) (t27:Int) (t6:Int):Option (Int⊕(Unit⊕Bool)) :=
 cond (decide (t6<(p0.1.length:Int)))
 ((at? p0.1 t6).bind λx39 =>
 (ae x39.1 1 99).bind λt43 =>
 (cond (!t43)
 (some true)
 ((ae x39.2.1 0 (rJ (t27-1))).bind λt49 =>
 some (!t49))).bind λt51 =>
 (cond t51
 (some true)
 ((ae x39.2.2 0 (rJ (t27-1))).bind λt56 =>
 some (!t56))).bind λt58 =>
 (cond t58 (some true) (some ((vn .i64 x39.2.2 x39.2.1) != x39.2.2))).bind λt68 =>
 (cond t68
 (some true)
 ((cond (decide (t6>0))
 ((at? p0.1 (rJ (t6-1))).bind λx77 =>
 some (decide (x77.1>=x39.1)))
 (some false)).bind λt83 =>
 some t83)).bind λt84 =>
 cond t84 (some (.inr (.inr false))) (some (.inl (rJ (t6+1)))))
 (some (.inr (.inl ())))
def kZ (p0:sR) (t8:Int):Option (Int⊕(Unit⊕Bool)) :=
 cond (decide (t8<(p0.2.length:Int)))
 ((at? p0.2 t8).bind λx96 =>
 (bc p0 x96).bind λt98 =>
 cond (decide (t98<0)) (some (.inr (.inr false))) (some (.inl (rJ (t8+1)))))
 (some (.inr (.inl ())))
def aI (p0:sR) (i1:Int):Option Bool :=
 (ae i1 1 6).bind λt10 =>
 (cond (!t10) (some true) (some ((p0.2.length:Int) != i1))).bind λt18 =>
 (cond t18 (some true) (some (decide ((p0.1.length:Int)>6)))).bind λt24 =>
 cond t24
 (some false)
 ((shl .i64 1 (IntKind.u64.wrap (i1))).bind λt27 =>
 (loop (λz=>gL p0 t27 z) 0).bind (Sum.elim (λd =>
 (loop (λz=>kZ p0 z) 0).bind (Sum.elim (λd_1 =>
 some true) (λr=>some r))) (λr_1=>some r_1)))
def l6:FL:=(270,⟨[.val true uq false,.val false rQ false],[.val false sS (some true)],λa=>aI a.1 a.2⟩)::kY
theorem pC:Gd l6:=rS pB 270 Tryz.f270 [(0,⟨⟨(6,false,[dI])::us 46 5 (us 53 5 (us 60 8 (us 70 14 []))),[]⟩,
 ⟨[],[]⟩,some ⟨[(4,false,[dB])],[]⟩⟩),
 (2,⟨⟨[(8,false,[dI])],[]⟩,
 ⟨[],[]⟩,some ⟨[(4,false,[dB])],[]⟩⟩)] Tryz.func270
def fY (b0:rI):Option Bool :=
 (ae b0.2.2.2.2.2.2.1 0 1000000).bind λt5 =>
 (cond t5
 ((ae b0.2.2.2.2.2.2.2.1 0 1000000).bind λt9 =>
 some t9)
 (some false)).bind λt10 =>
 (cond t10
 ((ae b0.2.2.2.2.2.2.2.2.1 0 1000000).bind λt14 =>
 some t14)
 (some false)).bind λt15 =>
 (cond t15
 ((ae b0.2.2.2.2.2.2.2.2.2.1 0 1000000).bind λt19 =>
 some t19)
 (some false)).bind λt20 =>
 (cond t20
 ((ae b0.2.2.2.2.2.2.2.2.2.2 0 1000000).bind λt24 =>
 some t24)
 (some false)).bind λt25 =>
 some t25
def l7:FL:=(271,⟨[.val true s7 false],[.val false sS (some true)],λa=>fY a⟩)::l6
theorem pD:Gd l7:=rS pC 271 Tryz.f271 [] Tryz.func271
def gM (b0:rI) (i3:Int):Option (Int⊕(Unit⊕Bool)) :=
 cond (decide (i3<(b0.2.2.1.length:Int)))
 ((at? b0.2.2.1 i3).bind λx14 =>
 (f7 x14).bind λt16 =>
 cond (!t16) (some (.inr (.inr false))) (some (.inl (rJ (i3+1)))))
 (some (.inr (.inl ())))
def aV (b0:rI):Option Bool :=
 (loop (λz=>gM b0 z) 0).bind (Sum.elim (λd =>
 (ae b0.1 1 99).bind λt20 =>
 (cond t20 (some (decide ((b0.2.1.length:Int)<=10))) (some false)).bind λt26 =>
 (cond t26
 ((ae (b0.2.2.1.length:Int) 1 6).bind λt31 =>
 some t31)
 (some false)).bind λt32 =>
 (cond t32
 ((ch b0.2.2.2.1).bind λt36 =>
 some t36)
 (some false)).bind λt37 =>
 (cond t37
 ((aI (b0.2.2.2.2.1,b0.2.2.2.2.2.1) (b0.2.2.1.length:Int)).bind λt44 =>
 some t44)
 (some false)).bind λt45 =>
 (cond t45
 ((fY b0).bind λt48 =>
 some t48)
 (some false)).bind λt49 =>
 some t49) (λr=>some r))
def l8:FL:=(179,⟨[.val true s7 false],[.val false sS (some true)],λa=>aV a⟩)::l7
theorem pE:Gd l8:=rS pD 179 Tryz.f179 [(0,⟨⟨[(3,false,[dI])],[]⟩,
 ⟨[],[]⟩,some ⟨[(2,false,[dB])],[]⟩⟩)] Tryz.func179
def ax (n0:Int):Option Int :=
 cond (decide (n0>2147483647))
 (some 2147483647)
 (cond (decide (n0<(-2147483648))) (some (-2147483648)) (some n0))
def l9:FL:=(132,⟨[.val false rQ false],[.val false rQ (some true)],λa=>ax a⟩)::l8
theorem pF:Gd l9:=rS pE 132 Tryz.f132 [] Tryz.func132
def pG (o0:List Int) (i3:Int):Option (Int⊕(Unit⊕Bool)) :=
 cond (decide (i3<(o0.length:Int)))
 ((at? o0 i3).bind λx12 =>
 (ae x12 0 100000).bind λt14 =>
 cond (!t14) (some (.inr (.inr false))) (some (.inl (rJ (i3+1)))))
 (some (.inr (.inl ())))
def bH (o0:List Int):Option Bool :=
 (loop (λz=>pG o0 z) 0).bind (Sum.elim (λd =>
 (ae (o0.length:Int) 1 10).bind λt18 =>
 some t18) (λr=>some r))
def lb:FL:=(220,⟨[.val false uw false],[.val false sS (some true)],λa=>bH a⟩)::l9
theorem pH:Gd lb:=rS pF 220 Tryz.f220 [(0,⟨⟨[(3,false,[dI])],[]⟩,
 ⟨[],[]⟩,some ⟨[(2,false,[dB])],[]⟩⟩)] Tryz.func220
def bq (p0:vl):Option Bool :=
 cond (p0.1==5)
 (cond (p0.1==5)
 ((cond (p0.2.1==0) (some (p0.2.2.1==[])) (some false)).bind λt16 =>
 (cond t16 (some ((p0.2.2.2.length:Int)==0)) (some false)).bind λt22 =>
 some t22)
 (cond (p0.1==2)
 ((ax p0.2.1).bind λt27 =>
 (cond (t27==p0.2.1) (some (p0.2.2.1==[])) (some false)).bind λt35 =>
 (cond t35 (some ((p0.2.2.2.length:Int)==0)) (some false)).bind λt41 =>
 some t41)
 (cond (p0.1==4)
 ((cond (decide ((p0.2.2.1.length:Int)<=20)) (some (p0.2.1==0)) (some false)).bind λt52 =>
 (cond t52 (some ((p0.2.2.2.length:Int)==0)) (some false)).bind λt58 =>
 some t58)
 (cond (p0.1==6)
 ((bH p0.2.2.2).bind λt63 =>
 (cond t63 (some (p0.2.1==0)) (some false)).bind λt68 =>
 (cond t68 (some (p0.2.2.1==[])) (some false)).bind λt73 =>
 some t73)
 (some false)))))
 (cond (p0.1==128)
 (cond (p0.1==128)
 ((cond (p0.2.1==0) (some (p0.2.2.1==[])) (some false)).bind λt16_1 =>
 (cond t16_1 (some ((p0.2.2.2.length:Int)==0)) (some false)).bind λt22_1 =>
 some t22_1)
 (cond (p0.1==2)
 ((ax p0.2.1).bind λt27_1 =>
 (cond (t27_1==p0.2.1) (some (p0.2.2.1==[])) (some false)).bind λt35_1 =>
 (cond t35_1 (some ((p0.2.2.2.length:Int)==0)) (some false)).bind λt41_1 =>
 some t41_1)
 (cond (p0.1==4)
 ((cond (decide ((p0.2.2.1.length:Int)<=20)) (some (p0.2.1==0)) (some false)).bind λt52_1 =>
 (cond t52_1 (some ((p0.2.2.2.length:Int)==0)) (some false)).bind λt58_1 =>
 some t58_1)
 (cond (p0.1==6)
 ((bH p0.2.2.2).bind λt63_1 =>
 (cond t63_1 (some (p0.2.1==0)) (some false)).bind λt68_1 =>
 (cond t68_1 (some (p0.2.2.1==[])) (some false)).bind λt73_1 =>
 some t73_1)
 (some false)))))
 (cond (p0.1==130)
 ((cond (p0.2.1==0) (some (p0.2.2.1==[])) (some false)).bind λt16_2 =>
 (cond t16_2 (some ((p0.2.2.2.length:Int)==0)) (some false)).bind λt22_2 =>
 some t22_2)
 (cond (p0.1==2)
 ((ax p0.2.1).bind λt27_2 =>
 (cond (t27_2==p0.2.1) (some (p0.2.2.1==[])) (some false)).bind λt35_2 =>
 (cond t35_2 (some ((p0.2.2.2.length:Int)==0)) (some false)).bind λt41_2 =>
 some t41_2)
 (cond (p0.1==4)
 ((cond (decide ((p0.2.2.1.length:Int)<=20)) (some (p0.2.1==0)) (some false)).bind λt52_2 =>
 (cond t52_2 (some ((p0.2.2.2.length:Int)==0)) (some false)).bind λt58_2 =>
 some t58_2)
 (cond (p0.1==6)
 ((bH p0.2.2.2).bind λt63_2 =>
 (cond t63_2 (some (p0.2.1==0)) (some false)).bind λt68_2 =>
 (cond t68_2 (some (p0.2.2.1==[])) (some false)).bind λt73_2 =>
 some t73_2)
 (some false))))))
def lc:FL:=(221,⟨[.val true wR false],[.val false sS (some true)],λa=>bq a⟩)::lb
theorem pI:Gd lc:=rS pH 221 Tryz.f221 [] Tryz.func221
def gN (k0:Int):Option Bool :=
 (cond (k0==160) (some true) (some (k0==161))).bind λt8 =>
 (cond t8 (some true) (some (k0==162))).bind λt12 =>
 (cond t12 (some true) (some (k0==163))).bind λt16 =>
 (cond t16 (some true) (some (k0==165))).bind λt20 =>
 some t20
def ld:FL:=(222,⟨[.val false rQ false],[.val false sS (some true)],λa=>gN a⟩)::lc
theorem pJ:Gd ld:=rS pI 222 Tryz.f222 [] Tryz.func222
def fZ (p0:sj) (t3:Int):Option (Int⊕(Unit⊕Bool)) :=
 cond (decide (t3<(p0.2.2.2.2.length:Int)))
 ((at? p0.2.2.2.2 t3).bind λx14 =>
 (bH x14.1).bind λt17 =>
 (cond (!t17)
 (some true)
 ((at? p0.2.2.2.2 t3).bind λx23 =>
 (bq x23.2).bind λt26 =>
 some (!t26))).bind λt28 =>
 cond t28 (some (.inr (.inr false))) (some (.inl (rJ (t3+1)))))
 (some (.inr (.inl ())))
def bI (p0:sj):Option Bool :=
 (loop (λz=>fZ p0 z) 0).bind (Sum.elim (λd =>
 (cond (p0.1 != 162) (some (p0.1 != 165)) (some false)).bind λt36 =>
 (cond t36
 ((cond (p0.2.2.1 != 0) (some true) (some (p0.2.2.2.1 != 0))).bind λt45 =>
 some t45)
 (some false)).bind λt46 =>
 cond t46
 (some false)
 ((gN p0.1).bind λt49 =>
 (cond t49
 ((ax p0.2.1).bind λt53 =>
 some (t53==p0.2.1))
 (some false)).bind λt57 =>
 (cond t57
 ((ae p0.2.2.1 0 1000).bind λt61 =>
 some t61)
 (some false)).bind λt62 =>
 (cond t62
 ((ae p0.2.2.2.1 0 1000).bind λt66 =>
 some t66)
 (some false)).bind λt67 =>
 (cond t67 (some (decide ((p0.2.2.2.2.length:Int)<=10))) (some false)).bind λt73 =>
 some t73)) (λr=>some r))
def lf:FL:=(137,⟨[.val true ud false],[.val false sS (some true)],λa=>bI a⟩)::ld
theorem pK:Gd lf:=rS pJ 137 Tryz.f137 [(0,⟨⟨(3,false,[dI])::us 20 8 [],[]⟩,
 ⟨[],[]⟩,some ⟨[(2,false,[dB])],[]⟩⟩)] Tryz.func137
def gO (p0:sj):Option Bool :=
 (bI p0).bind λt4 =>
 (cond t4 (some (p0.1 != 162)) (some false)).bind λt9 =>
 some t9
def lg:FL:=(267,⟨[.val true ud false],[.val false sS (some true)],λa=>gO a⟩)::lf
theorem pL:Gd lg:=rS pK 267 Tryz.f267 [] Tryz.func267
def f8 (j0:sY) (last1:Int):Option Bool :=
 (ae j0.1 1 last1).bind λt8 =>
 (cond (!t8)
 (some true)
 ((ae j0.2.2.1 0 2).bind λt13 =>
 some (!t13))).bind λt15 =>
 (cond t15
 (some true)
 ((ae j0.2.2.2.2.2.2.2.2.2.2.2.2.2.2.2.2.2.2.2.2 0 3).bind λt19 =>
 some (!t19))).bind λt21 =>
 (cond t21
 (some true)
 ((ae j0.2.2.2.2.2.2.2.2.2.2.2.2.2.2.2.2.2.2.2.1 0 (j0.2.2.2.2.2.2.2.1.length:Int)).bind λt29 =>
 some (!t29))).bind λt31 =>
 cond t31
 (some false)
 ((cond (j0.2.2.1==0)
 (some true)
 ((gO (j0.2.2.2.1,j0.2.2.2.2.1,j0.2.2.2.2.2.1,j0.2.2.2.2.2.2.1,j0.2.2.2.2.2.2.2.1)).bind λt38 =>
 (cond t38
 ((aV (j0.2.2.2.2.2.2.2.2.1,j0.2.2.2.2.2.2.2.2.2.1,j0.2.2.2.2.2.2.2.2.2.2.1,j0.2.2.2.2.2.2.2.2.2.2.2.1,j0.2.2.2.2.2.2.2.2.2.2.2.2.1,j0.2.2.2.2.2.2.2.2.2.2.2.2.2.1,j0.2.2.2.2.2.2.2.2.2.2.2.2.2.2.1,j0.2.2.2.2.2.2.2.2.2.2.2.2.2.2.2.1,j0.2.2.2.2.2.2.2.2.2.2.2.2.2.2.2.2.1,j0.2.2.2.2.2.2.2.2.2.2.2.2.2.2.2.2.2.1,j0.2.2.2.2.2.2.2.2.2.2.2.2.2.2.2.2.2.2.1)).bind λt42 =>
 some t42)
 (some false)).bind λt43 =>
 some t43)).bind λt44 =>
 some t44)
def lh:FL:=(178,⟨[.val true xM false,.val false rQ false],[.val false sS (some true)],λa=>f8 a.1 a.2⟩)::lg
theorem pM:Gd lh:=rS pL 178 Tryz.f178 [] Tryz.func178
def gP (p0:s9) (t3:Int):Option (Int⊕(Unit⊕Bool)) :=
 cond (decide (t3<(p0.2.2.2.2.2.2.2.2.2.2.2.2.1.length:Int)))
 ((at? p0.2.2.2.2.2.2.2.2.2.2.2.2.1 t3).bind λx14 =>
 (f8 x14 p0.2.2.2.2.2.2.2.2.2.2.2.2.2.2).bind λt18 =>
 (cond (!t18)
 (some true)
 ((cond (decide (t3>0))
 ((at? p0.2.2.2.2.2.2.2.2.2.2.2.2.1 (rJ (t3-1))).bind λx28 =>
 (at? p0.2.2.2.2.2.2.2.2.2.2.2.2.1 t3).bind λx34 =>
 some (decide (x28.1>=x34.1)))
 (some false)).bind λt38 =>
 some t38)).bind λt39 =>
 cond t39 (some (.inr (.inr false))) (some (.inl (rJ (t3+1)))))
 (some (.inr (.inl ())))
def dP (p0:s9):Option Bool :=
 (loop (λz=>gP p0 z) 0).bind (Sum.elim (λd =>
 (aV (p0.1,p0.2.1,p0.2.2.1,p0.2.2.2.1,p0.2.2.2.2.1,p0.2.2.2.2.2.1,p0.2.2.2.2.2.2.1,p0.2.2.2.2.2.2.2.1,p0.2.2.2.2.2.2.2.2.1,p0.2.2.2.2.2.2.2.2.2.1,p0.2.2.2.2.2.2.2.2.2.2.1)).bind λt42 =>
 (cond t42
 (some (decide ((p0.2.2.2.2.2.2.2.2.2.2.2.1.length:Int)<=20)))
 (some false)).bind λt48 =>
 (cond t48
 (some (decide ((p0.2.2.2.2.2.2.2.2.2.2.2.2.1.length:Int)<=6)))
 (some false)).bind λt54 =>
 (cond t54
 ((ae p0.2.2.2.2.2.2.2.2.2.2.2.2.2.1 0 1000000).bind λt58 =>
 some t58)
 (some false)).bind λt59 =>
 (cond t59
 ((ae p0.2.2.2.2.2.2.2.2.2.2.2.2.2.2 0 1000000).bind λt63 =>
 some t63)
 (some false)).bind λt64 =>
 some t64) (λr=>some r))
def lj:FL:=(106,⟨[.val true tB false],[.val false sS (some true)],λa=>dP a⟩)::lh
theorem pN:Gd lj:=rS pM 106 Tryz.f106 [(0,⟨⟨(3,false,[dI])::us 21 18 [],[]⟩,
 ⟨[],[]⟩,some ⟨[(2,false,[dB])],[]⟩⟩)] Tryz.func106
def bg (n0:Int):Option Int :=
 cond (decide (n0>=1000000)) (some n0) (some (rJ (n0+1)))
def lk:FL:=(195,⟨[.val false rQ false],[.val false rQ (some true)],λa=>bg a⟩)::lj
theorem pO:Gd lk:=rS pN 195 Tryz.f195 [] Tryz.func195
def cE (p0:List Int) (i1:Int):Option (Int×(List Int)×Int×Bool) :=
 (cond (decide (i1<0)) (some true) (some (decide (i1>=(p0.length:Int))))).bind λt17 =>
 (cond t17 (some true) (some (decide ((rJ (i1+1))>=(p0.length:Int))))).bind λt24 =>
 cond t24
 (some (0,([]:List Int),0,false))
 ((at? p0 (rJ (i1+1))).bind λx29 =>
 cond (decide ((rJ (x29))>127))
 ((cond ((rJ (x29)) != 129) (some true) (some (decide ((rJ (i1+2))>=(p0.length:Int))))).bind λt43 =>
 (cond t43
 (some true)
 ((at? p0 (rJ (i1+2))).bind λx47 =>
 some (decide (x47<128)))).bind λt50 =>
 cond t50
 (some (0,([]:List Int),0,false))
 ((at? p0 (rJ (i1+2))).bind λx54 =>
 (cond (decide ((rJ (x54))>250))
 (some true)
 (some (decide ((rJ (x54))>(rJ ((p0.length:Int)-(rJ ((rJ (i1+2))+1)))))))).bind λt68 =>
 cond t68
 (some (0,([]:List Int),0,false))
 ((at? p0 i1).bind λx72 =>
 (cut p0 (rJ ((rJ (i1+2))+1)) (rJ ((rJ ((rJ (i1+2))+1))+(rJ (x54))))).bind λt81 =>
 (sf ([]:List Int) t81).bind λzs82 =>
 let t6:=rJ ((rJ ((rJ (i1+2))+1))+(rJ (x54)))
 some (rJ (x72),zs82,t6,true))))
 ((cond (decide ((rJ (x29))>250))
 (some true)
 (some (decide ((rJ (x29))>(rJ ((p0.length:Int)-(rJ (i1+2)))))))).bind λt68_1 =>
 cond t68_1
 (some (0,([]:List Int),0,false))
 ((at? p0 i1).bind λx72_1 =>
 (cut p0 (rJ (i1+2)) (rJ ((rJ (i1+2))+(rJ (x29))))).bind λt81_1 =>
 (sf ([]:List Int) t81_1).bind λzs82_1 =>
 let t6_1:=rJ ((rJ (i1+2))+(rJ (x29)))
 some (rJ (x72_1),zs82_1,t6_1,true))))
def ll:FL:=(330,⟨[.val false tb false,.val false rQ false],[.val false rQ (some true),.val false tb (some true),.val false rQ (some true),.val false sS (some true)],λa=>cE a.1 a.2⟩)::lk
theorem pP:Gd ll:=rS pO 330 Tryz.f330 [] Tryz.func330
def bJ (r0:ul) (tag1:Int):Option (ul×List Int) :=
 (cE r0.1 r0.2.1).bind λt18 =>
 (cond r0.2.2 (some true) (some (!t18.2.2.2))).bind λt30 =>
 (cond t30 (some true) (some (t18.1 != tag1))).bind λt35 =>
 cond t35
 (some ((r0.1,r0.2.1,true),([]:List Int)))
 (some ((r0.1,t18.2.2.1,r0.2.2),t18.2.1))
def lm:FL:=(332,⟨[.ptr wz none,.val false rQ false],[.val false tb (some true)],λa=>bJ a.1 a.2⟩)::ll
theorem pQ:Gd lm:=rS pP 332 Tryz.f332 [] Tryz.func332
def cc (n0_1:Int) (out3:List Int):Option ((Int×List Int)⊕(List Int)) :=
 (cond (decide (n0_1<(-128))) (some true) (some (decide (n0_1>127)))).bind λt14 =>
 cond t14
 ((sf [IntKind.u8.wrap (n0_1.fdiv (2^8))] out3).bind λzs21 =>
 some (.inl (n0_1.fdiv (2^8),zs21)))
 (some (.inr out3))
def aK (n0:Int):Option (List Int) :=
 (ax n0).bind λt5 =>
 (loop (λz=>cc z.1 z.2) (t5,[IntKind.u8.wrap (t5)])).bind λd =>
 some d
def ln:FL:=(63,⟨[.val false rQ false],[.val false tb (some true)],λa=>aK a⟩)::lm
theorem pR:Gd ln:=rS pQ 63 Tryz.f63 [(0,⟨⟨[(0,false,[dI]),(3,false,[.own 1000000000]),(12,false,[.undef]),(13,false,[.undef])],[(1000000000,.root (.one (.int .u8)) true)]⟩,
 ⟨[(3,false,[.own 1000000300])],[(1000000300,.root (.one (.int .u8)) true)]⟩,none⟩)] Tryz.func63
def dQ (b0:List Int) (n4:Int) (i5:Int):Option ((Int×Int)⊕Int) :=
 cond (decide (i5<(b0.length:Int)))
 ((at? b0 i5).bind λx28 =>
 let n4_1:=zC .i64 (rJ (n4*2^8)) (rJ (x28))
 some (.inl (n4_1,rJ (i5+1))))
 (some (.inr n4))
def dR (b0:List Int) (n4_3:Int) (i5_1:Int):Option ((Int×Int)⊕Int) :=
 cond (decide (i5_1<(b0.length:Int)))
 ((at? b0 i5_1).bind λx28_1 =>
 let n4_4:=zC .i64 (rJ (n4_3*2^8)) (rJ (x28_1))
 some (.inl (n4_4,rJ (i5_1+1))))
 (some (.inr n4_3))
def fa (b0:List Int):Option (Int×Bool) :=
 (ae (b0.length:Int) 1 4).bind λt8 =>
 cond (!t8)
 (some (0,false))
 ((at? b0 0).bind λx11 =>
 cond (decide ((rJ (x11))>127))
 ((loop (λz=>dQ b0 z.1 z.2) (rJ ((rJ (x11))-256),1)).bind λd =>
 (aK d).bind λt33 =>
 cond ((t33.length:Int) != (b0.length:Int)) (some (0,false)) (some (d,true)))
 ((loop (λz=>dR b0 z.1 z.2) (rJ (x11),1)).bind λd_1 =>
 (aK d_1).bind λt33_1 =>
 cond ((t33_1.length:Int) != (b0.length:Int)) (some (0,false)) (some (d_1,true))))
def lp:FL:=(364,⟨[.val false tb false],[.val false rQ (some true),.val false sS (some true)],λa=>fa a⟩)::ln
theorem pS:Gd lp:=rS pR 364 Tryz.f364 [(0,⟨⟨[(4,false,[dI]),(5,false,[dI])],[]⟩,
 ⟨[(4,false,[dI])],[]⟩,none⟩)] Tryz.func364
def cG (r0:ul):Option (ul×Int) :=
 (bJ r0 2).bind λt7 =>
 (fa t7.2).bind λt8 =>
 (cond t7.1.2.2 (some true) (some (!t8.2))).bind λt19 =>
 some ((t7.1.1,t7.1.2.1,t19),t8.1)
def lq:FL:=(331,⟨[.ptr wz none],[.val false rQ (some true)],λa=>cG a⟩)::lp
theorem pT:Gd lq:=rS pS 331 Tryz.f331 [] Tryz.func331
def ce (n0_1:Int) (out3:List Int):Option ((Int×List Int)⊕(List Int)) :=
 cond (decide (n0_1>127))
 ((sf [IntKind.u8.wrap (zC .i64 (vn .i64 (n0_1.fdiv (2^7)) 127) 128)] out3).bind λzs18 =>
 some (.inl (n0_1.fdiv (2^7),zs18)))
 (some (.inr out3))
def dU (n0:Int):Option (List Int) :=
 (loop (λz=>ce z.1 z.2) (n0,[IntKind.u8.wrap (vn .i64 n0 127)])).bind λd =>
 some d
def lr:FL:=(354,⟨[.val false rQ false],[.val false tb (some true)],λa=>dU a⟩)::lq
theorem pU:Gd lr:=rS pT 354 Tryz.f354 [(0,⟨⟨[(0,false,[dI]),(3,false,[.own 1000000000])],[(1000000000,.root (.one (.int .u8)) true)]⟩,
 ⟨[(3,false,[.own 1000000300])],[(1000000300,.root (.one (.int .u8)) true)]⟩,none⟩)] Tryz.func354
def aH (p0:List Int) (t5_1:Int) (t6:Int) (t7:Int) (t8:Bool):Option ((Int×Int×Int×Bool)⊕(Int×Int×Int×Bool)) :=
 (cond t8 (some (decide (t5_1<(p0.length:Int)))) (some false)).bind λt25 =>
 (cond t25 (some (decide (t7<4))) (some false)).bind λt29 =>
 cond t29
 ((at? p0 t5_1).bind λx34 =>
 let t6_1:=zC .i64 (rJ (t6*2^7)) (rJ (vn .u8 x34 127))
 (at? p0 t5_1).bind λx41 =>
 some (.inl (rJ (t5_1+1),t6_1,rJ (t7+1),decide (x41>127))))
 (some (.inr (t5_1,t6,t7,t8)))
def au (p0:List Int) (t5:Int) (t4:List Int):Option ((Int×List Int)⊕((Int×List Int)⊕(Bool×List Int))) :=
 (cond (decide (t5<(p0.length:Int))) (some (decide ((t4.length:Int)<=10))) (some false)).bind λt18 =>
 cond t18
 ((loop (λz=>aH p0 z.1 z.2.1 z.2.2.1 z.2.2.2) (t5,0,0,true)).bind λd =>
 (cond d.2.2.2
 (some true)
 ((dU d.2.1).bind λt51 =>
 some ((t51.length:Int) != d.2.2.1))).bind λt55 =>
 cond t55
 (some (.inr (.inr (false,([]:List Int)))))
 ((sf t4 [d.2.1]).bind λzs60 =>
 some (.inl (d.1,zs60))))
 (some (.inr (.inl (t5,t4))))
def cf (p0:List Int):Option ((List Int)×Bool) :=
 (loop (λz=>au p0 z.1 z.2) (0,([]:List Int))).bind (Sum.elim (λd_1 =>
 (cond (d_1.1 != (p0.length:Int))
 (some true)
 ((bH d_1.2).bind λt67 =>
 some (!t67))).bind λt69 =>
 cond t69 (some (([]:List Int),false)) (some (d_1.2,true))) (λr=>some (r.2,r.1)))
def lu:FL:=(380,⟨[.val false tb false],[.val false uw (some true),.val false sS (some true)],λa=>cf a⟩)::lr
theorem pV:Gd lu:=rS pU 380 Tryz.f380 [(0,⟨⟨(4,false,[.own 1000000000])::(5,false,[dI])::us 15 3 (us 21 4 (us 27 2 (us 50 5 []))),[(1000000000,.root rQ true)]⟩,
 ⟨[(4,false,[.own 1000000300]),(5,false,[dI])],[(1000000300,.root rQ true)]⟩,some ⟨[(2,false,[.own 1000000600]),(3,false,[dB])],[(1000000600,.root rQ true)]⟩⟩),
 (2,⟨⟨(5,false,[dI])::(6,false,[dI])::(7,false,[dI])::(8,false,[dB])::us 21 4 (us 27 2 []),[]⟩,
 ⟨(5,false,[dI])::(6,false,[dI])::(7,false,[dI])::(8,false,[dB])::us 21 4 (us 27 2 []),[]⟩,none⟩)] Tryz.func380
def ga (b0:List Int) (at1:Int):Option (vl×Int×Bool) :=
 (cE b0 at1).bind λt16 =>
 cond (t16.1==2)
 ((fa t16.2.1).bind λt31 =>
 (cond (!t16.2.2.2) (some true) (some (!t31.2))).bind λt53 =>
 (cond t53
 (some true)
 ((bq (t16.1,t31.1,[],[])).bind λt56 =>
 some (!t56))).bind λt58 =>
 cond t58
 (some ((0,0,[],[]),0,false))
 (some ((t16.1,t31.1,[],[]),t16.2.2.1,true)))
 (cond (t16.1==4)
 ((cond (!t16.2.2.2) (some true) (some (!true))).bind λt53_1 =>
 (cond t53_1
 (some true)
 ((bq (t16.1,0,tC t16.2.1,[])).bind λt56_1 =>
 some (!t56_1))).bind λt58_1 =>
 cond t58_1
 (some ((0,0,[],[]),0,false))
 (some ((t16.1,0,tC t16.2.1,[]),t16.2.2.1,true)))
 (cond (t16.1==6)
 ((cf t16.2.1).bind λt44 =>
 (cond (!t16.2.2.2) (some true) (some (!t44.2))).bind λt53_2 =>
 (cond t53_2
 (some true)
 ((bq (t16.1,0,[],t44.1)).bind λt56_2 =>
 some (!t56_2))).bind λt58_2 =>
 cond t58_2
 (some ((0,0,[],[]),0,false))
 (some ((t16.1,0,[],t44.1),t16.2.2.1,true)))
 (let is12:=(t16.2.1.length:Int)==0
 (cond (!t16.2.2.2) (some true) (some (!is12))).bind λt53_3 =>
 (cond t53_3
 (some true)
 ((bq (t16.1,0,[],[])).bind λt56_3 =>
 some (!t56_3))).bind λt58_3 =>
 cond t58_3
 (some ((0,0,[],[]),0,false))
 (some ((t16.1,0,[],[]),t16.2.2.1,true)))))
def lv:FL:=(381,⟨[.val false tb false,.val false rQ false],[.val true wR (some true),.val false rQ (some true),.val false sS (some true)],λa=>ga a.1 a.2⟩)::lu
theorem pW:Gd lv:=rS pV 381 Tryz.f381 [] Tryz.func381
def gb (b0:List Int):Option (rK×Bool) :=
 (bJ (b0,0,false) 6).bind λt15 =>
 (cf t15.2).bind λt16 =>
 (ga b0 t15.1.2.1).bind λt25 =>
 (cond t15.1.2.2 (some true) (some (!t16.2))).bind λt36 =>
 (cond t36 (some true) (some (!t25.2.2))).bind λt40 =>
 (cond t40 (some true) (some (t25.2.1 != (b0.length:Int)))).bind λt46 =>
 cond t46
 (some (([],0,0,[],[]),false))
 (some ((t16.1,t25.1.1,t25.1.2.1,t25.1.2.2.1,t25.1.2.2.2),true))
def lw:FL:=(365,⟨[.val false tb false],[.val true rX (some true),.val false sS (some true)],λa=>gb a⟩)::lv
theorem pX:Gd lw:=rS pW 365 Tryz.f365 [] Tryz.func365
def av (b0:List Int) (b1:Int) (b2:Bool) (b0_1:Int) (b1_1:Int) (b2_1:Int) (b3:Int) (b0_2:List Int) (b1_2:Int) (b2_2:Bool) (b4:List rK):Option ((List Int×Int×Bool×Int×Int×Int×Int×List Int×Int×Bool×List rK)⊕(List Int×Int×Bool×Int×Int×Int×Int×List Int×Int×Bool×List rK)) :=
 (cond (!b2) (some (decide (b1_2<(b0_2.length:Int)))) (some false)).bind λt54 =>
 (cond t54 (some (decide ((b4.length:Int)<=10))) (some false)).bind λt60 =>
 cond t60
 ((bJ (b0_2,b1_2,b2_2) 48).bind λt63 =>
 (gb t63.2).bind λt64 =>
 (cond t63.1.2.2 (some true) (some (!t64.2))).bind λt75 =>
 (sf b4 [t64.1]).bind λzs82 =>
 some (.inl (b0,b1,t75,b0_1,b1_1,b2_1,b3,t63.1.1,t63.1.2.1,t63.1.2.2,zs82)))
 (some (.inr (b0,b1,b2,b0_1,b1_1,b2_1,b3,b0_2,b1_2,b2_2,b4)))
def gd (p0:List Int):Option (sj×Bool) :=
 (cE p0 0).bind λt15 =>
 (cG (t15.2.1,0,false)).bind λt26 =>
 (cG t26.1).bind λt29 =>
 (cG t29.1).bind λt32 =>
 (bJ t32.1 48).bind λt35 =>
 (loop (λz=>av z.1 z.2.1 z.2.2.1 z.2.2.2.1 z.2.2.2.2.1 z.2.2.2.2.2.1 z.2.2.2.2.2.2.1 z.2.2.2.2.2.2.2.1 z.2.2.2.2.2.2.2.2.1 z.2.2.2.2.2.2.2.2.2.1 z.2.2.2.2.2.2.2.2.2.2) (t35.1.1,t35.1.2.1,t35.1.2.2,t15.1,t26.2,t29.2,t32.2,t35.2,0,false,[])).bind λd =>
 (cond (!t15.2.2.2) (some true) (some (t15.2.2.1 != (p0.length:Int)))).bind λt91 =>
 (cond t91 (some true) (some d.2.2.1)).bind λt97 =>
 (cond t97 (some true) (some (d.2.1 != (t15.2.1.length:Int)))).bind λt106 =>
 (cond t106
 (some true)
 (some (d.2.2.2.2.2.2.2.2.1 != (d.2.2.2.2.2.2.2.1.length:Int)))).bind λt118 =>
 (cond t118
 (some true)
 ((bI (d.2.2.2.1,d.2.2.2.2.1,d.2.2.2.2.2.1,d.2.2.2.2.2.2.1,d.2.2.2.2.2.2.2.2.2.2)).bind λt121 =>
 some (!t121))).bind λt123 =>
 cond t123
 (some ((0,0,0,0,[]),false))
 (some ((d.2.2.2.1,d.2.2.2.2.1,d.2.2.2.2.2.1,d.2.2.2.2.2.2.1,d.2.2.2.2.2.2.2.2.2.2),true))
def lz:FL:=(333,⟨[.val false tb false],[.val true ud (some true),.val false sS (some true)],λa=>gd a⟩)::lw
theorem pY:Gd lz:=rS pX 333 Tryz.f333 [(0,⟨⟨us 44 10 (us 56 4 (us 73 2 [])),[(527360,.box [.dat (.sl (.one (.int .u8))),dI,dB]),(789504,.box [dI,dI,dI,dI,.own 1000000000]),(1839104,.box [.dat (.sl (.one (.int .u8))),dI,dB]),(1000000000,.root rX true)]⟩,
 ⟨[],[(527360,.box [.dat (.sl (.one (.int .u8))),dI,dB]),(789504,.box [dI,dI,dI,dI,.own 1000000300]),(1839104,.box [.dat (.sl (.one (.int .u8))),dI,dB]),(1000000300,.root rX true)]⟩,none⟩)] Tryz.func333
def fb (p0:List UInt8) (i1:List Int):Option (sj×Int) :=
 (cE i1 0).bind λt17 =>
 (cG (t17.2.1,0,false)).bind λt26 =>
 (bJ t26.1 4).bind λt28 =>
 (cond (!t17.2.2.2) (some true) (some (t17.1 != 48))).bind λt34 =>
 (cond t34 (some true) (some (t17.2.2.1 != (i1.length:Int)))).bind λt40 =>
 (cond t40 (some true) (some t28.1.2.2)).bind λt46 =>
 cond t46
 (some ((0,0,0,0,[]),1))
 (cond (t26.2 != 1)
 (some ((0,0,0,0,[]),2))
 (cond (!((tC t28.2)==p0))
 (some ((0,0,0,0,[]),3))
 ((cut t17.2.1 t28.1.2.1 (t17.2.1.length:Int)).bind λt62 =>
 (gd t62).bind λt63 =>
 cond (!t63.2) (some ((0,0,0,0,[]),1)) (some (t63.1,0)))))
def lA:FL:=(272,⟨[.val false FT false,.val false tb false],[.val true ud (some true),.val false rQ (some true)],λa=>fb a.1 a.2⟩)::lz
theorem pZ:Gd lA:=rS pY 272 Tryz.f272 [] Tryz.func272
def fc (a0:s9) (k1:Int):Option s9 :=
 (ix a0.2.2.2.2.2.2.2.2.2.2.2.2.1.length k1).bind λj9 =>
 (a0.2.2.2.2.2.2.2.2.2.2.2.2.1[j9]?).bind λx =>
 (ap (a0.1,a0.2.1,a0.2.2.1,a0.2.2.2.1,a0.2.2.2.2.1,a0.2.2.2.2.2.1,a0.2.2.2.2.2.2.1,a0.2.2.2.2.2.2.2.1,a0.2.2.2.2.2.2.2.2.1,a0.2.2.2.2.2.2.2.2.2.1,a0.2.2.2.2.2.2.2.2.2.2.1)).bind λt20 =>
 (ix (a0.2.2.2.2.2.2.2.2.2.2.2.2.1.set j9 (x.1,x.2.1,1,x.2.2.2.1,x.2.2.2.2.1,x.2.2.2.2.2.1,x.2.2.2.2.2.2.1,x.2.2.2.2.2.2.2.1,x.2.2.2.2.2.2.2.2.1,x.2.2.2.2.2.2.2.2.2.1,x.2.2.2.2.2.2.2.2.2.2.1,x.2.2.2.2.2.2.2.2.2.2.2.1,x.2.2.2.2.2.2.2.2.2.2.2.2.1,x.2.2.2.2.2.2.2.2.2.2.2.2.2.1,x.2.2.2.2.2.2.2.2.2.2.2.2.2.2.1,x.2.2.2.2.2.2.2.2.2.2.2.2.2.2.2.1,x.2.2.2.2.2.2.2.2.2.2.2.2.2.2.2.2.1,x.2.2.2.2.2.2.2.2.2.2.2.2.2.2.2.2.2.1,x.2.2.2.2.2.2.2.2.2.2.2.2.2.2.2.2.2.2.1,x.2.2.2.2.2.2.2.2.2.2.2.2.2.2.2.2.2.2.2.1,x.2.2.2.2.2.2.2.2.2.2.2.2.2.2.2.2.2.2.2.2)).length k1).bind λj21 =>
 ((a0.2.2.2.2.2.2.2.2.2.2.2.2.1.set j9 (x.1,x.2.1,1,x.2.2.2.1,x.2.2.2.2.1,x.2.2.2.2.2.1,x.2.2.2.2.2.2.1,x.2.2.2.2.2.2.2.1,x.2.2.2.2.2.2.2.2.1,x.2.2.2.2.2.2.2.2.2.1,x.2.2.2.2.2.2.2.2.2.2.1,x.2.2.2.2.2.2.2.2.2.2.2.1,x.2.2.2.2.2.2.2.2.2.2.2.2.1,x.2.2.2.2.2.2.2.2.2.2.2.2.2.1,x.2.2.2.2.2.2.2.2.2.2.2.2.2.2.1,x.2.2.2.2.2.2.2.2.2.2.2.2.2.2.2.1,x.2.2.2.2.2.2.2.2.2.2.2.2.2.2.2.2.1,x.2.2.2.2.2.2.2.2.2.2.2.2.2.2.2.2.2.1,x.2.2.2.2.2.2.2.2.2.2.2.2.2.2.2.2.2.2.1,x.2.2.2.2.2.2.2.2.2.2.2.2.2.2.2.2.2.2.2.1,x.2.2.2.2.2.2.2.2.2.2.2.2.2.2.2.2.2.2.2.2))[j21]?).bind λx_1 =>
 (ix ((a0.2.2.2.2.2.2.2.2.2.2.2.2.1.set j9 (x.1,x.2.1,1,x.2.2.2.1,x.2.2.2.2.1,x.2.2.2.2.2.1,x.2.2.2.2.2.2.1,x.2.2.2.2.2.2.2.1,x.2.2.2.2.2.2.2.2.1,x.2.2.2.2.2.2.2.2.2.1,x.2.2.2.2.2.2.2.2.2.2.1,x.2.2.2.2.2.2.2.2.2.2.2.1,x.2.2.2.2.2.2.2.2.2.2.2.2.1,x.2.2.2.2.2.2.2.2.2.2.2.2.2.1,x.2.2.2.2.2.2.2.2.2.2.2.2.2.2.1,x.2.2.2.2.2.2.2.2.2.2.2.2.2.2.2.1,x.2.2.2.2.2.2.2.2.2.2.2.2.2.2.2.2.1,x.2.2.2.2.2.2.2.2.2.2.2.2.2.2.2.2.2.1,x.2.2.2.2.2.2.2.2.2.2.2.2.2.2.2.2.2.2.1,x.2.2.2.2.2.2.2.2.2.2.2.2.2.2.2.2.2.2.2.1,x.2.2.2.2.2.2.2.2.2.2.2.2.2.2.2.2.2.2.2.2)).set j21 (x_1.1,x_1.2.1,x_1.2.2.1,x_1.2.2.2.1,x_1.2.2.2.2.1,x_1.2.2.2.2.2.1,x_1.2.2.2.2.2.2.1,x_1.2.2.2.2.2.2.2.1,t20.1,t20.2.1,t20.2.2.1,t20.2.2.2.1,t20.2.2.2.2.1,t20.2.2.2.2.2.1,t20.2.2.2.2.2.2.1,t20.2.2.2.2.2.2.2.1,t20.2.2.2.2.2.2.2.2.1,t20.2.2.2.2.2.2.2.2.2.1,t20.2.2.2.2.2.2.2.2.2.2,x_1.2.2.2.2.2.2.2.2.2.2.2.2.2.2.2.2.2.2.2.1,x_1.2.2.2.2.2.2.2.2.2.2.2.2.2.2.2.2.2.2.2.2)).length k1).bind λj28 =>
 (((a0.2.2.2.2.2.2.2.2.2.2.2.2.1.set j9 (x.1,x.2.1,1,x.2.2.2.1,x.2.2.2.2.1,x.2.2.2.2.2.1,x.2.2.2.2.2.2.1,x.2.2.2.2.2.2.2.1,x.2.2.2.2.2.2.2.2.1,x.2.2.2.2.2.2.2.2.2.1,x.2.2.2.2.2.2.2.2.2.2.1,x.2.2.2.2.2.2.2.2.2.2.2.1,x.2.2.2.2.2.2.2.2.2.2.2.2.1,x.2.2.2.2.2.2.2.2.2.2.2.2.2.1,x.2.2.2.2.2.2.2.2.2.2.2.2.2.2.1,x.2.2.2.2.2.2.2.2.2.2.2.2.2.2.2.1,x.2.2.2.2.2.2.2.2.2.2.2.2.2.2.2.2.1,x.2.2.2.2.2.2.2.2.2.2.2.2.2.2.2.2.2.1,x.2.2.2.2.2.2.2.2.2.2.2.2.2.2.2.2.2.2.1,x.2.2.2.2.2.2.2.2.2.2.2.2.2.2.2.2.2.2.2.1,x.2.2.2.2.2.2.2.2.2.2.2.2.2.2.2.2.2.2.2.2)).set j21 (x_1.1,x_1.2.1,x_1.2.2.1,x_1.2.2.2.1,x_1.2.2.2.2.1,x_1.2.2.2.2.2.1,x_1.2.2.2.2.2.2.1,x_1.2.2.2.2.2.2.2.1,t20.1,t20.2.1,t20.2.2.1,t20.2.2.2.1,t20.2.2.2.2.1,t20.2.2.2.2.2.1,t20.2.2.2.2.2.2.1,t20.2.2.2.2.2.2.2.1,t20.2.2.2.2.2.2.2.2.1,t20.2.2.2.2.2.2.2.2.2.1,t20.2.2.2.2.2.2.2.2.2.2,x_1.2.2.2.2.2.2.2.2.2.2.2.2.2.2.2.2.2.2.2.1,x_1.2.2.2.2.2.2.2.2.2.2.2.2.2.2.2.2.2.2.2.2))[j28]?).bind λx_2 =>
 some (a0.1,a0.2.1,a0.2.2.1,a0.2.2.2.1,a0.2.2.2.2.1,a0.2.2.2.2.2.1,a0.2.2.2.2.2.2.1,a0.2.2.2.2.2.2.2.1,a0.2.2.2.2.2.2.2.2.1,a0.2.2.2.2.2.2.2.2.2.1,a0.2.2.2.2.2.2.2.2.2.2.1,a0.2.2.2.2.2.2.2.2.2.2.2.1,((a0.2.2.2.2.2.2.2.2.2.2.2.2.1.set j9 (x.1,x.2.1,1,x.2.2.2.1,x.2.2.2.2.1,x.2.2.2.2.2.1,x.2.2.2.2.2.2.1,x.2.2.2.2.2.2.2.1,x.2.2.2.2.2.2.2.2.1,x.2.2.2.2.2.2.2.2.2.1,x.2.2.2.2.2.2.2.2.2.2.1,x.2.2.2.2.2.2.2.2.2.2.2.1,x.2.2.2.2.2.2.2.2.2.2.2.2.1,x.2.2.2.2.2.2.2.2.2.2.2.2.2.1,x.2.2.2.2.2.2.2.2.2.2.2.2.2.2.1,x.2.2.2.2.2.2.2.2.2.2.2.2.2.2.2.1,x.2.2.2.2.2.2.2.2.2.2.2.2.2.2.2.2.1,x.2.2.2.2.2.2.2.2.2.2.2.2.2.2.2.2.2.1,x.2.2.2.2.2.2.2.2.2.2.2.2.2.2.2.2.2.2.1,x.2.2.2.2.2.2.2.2.2.2.2.2.2.2.2.2.2.2.2.1,x.2.2.2.2.2.2.2.2.2.2.2.2.2.2.2.2.2.2.2.2)).set j21 (x_1.1,x_1.2.1,x_1.2.2.1,x_1.2.2.2.1,x_1.2.2.2.2.1,x_1.2.2.2.2.2.1,x_1.2.2.2.2.2.2.1,x_1.2.2.2.2.2.2.2.1,t20.1,t20.2.1,t20.2.2.1,t20.2.2.2.1,t20.2.2.2.2.1,t20.2.2.2.2.2.1,t20.2.2.2.2.2.2.1,t20.2.2.2.2.2.2.2.1,t20.2.2.2.2.2.2.2.2.1,t20.2.2.2.2.2.2.2.2.2.1,t20.2.2.2.2.2.2.2.2.2.2,x_1.2.2.2.2.2.2.2.2.2.2.2.2.2.2.2.2.2.2.2.1,x_1.2.2.2.2.2.2.2.2.2.2.2.2.2.2.2.2.2.2.2.2)).set j28 (x_2.1,x_2.2.1,x_2.2.2.1,x_2.2.2.2.1,x_2.2.2.2.2.1,x_2.2.2.2.2.2.1,x_2.2.2.2.2.2.2.1,x_2.2.2.2.2.2.2.2.1,x_2.2.2.2.2.2.2.2.2.1,x_2.2.2.2.2.2.2.2.2.2.1,x_2.2.2.2.2.2.2.2.2.2.2.1,x_2.2.2.2.2.2.2.2.2.2.2.2.1,x_2.2.2.2.2.2.2.2.2.2.2.2.2.1,x_2.2.2.2.2.2.2.2.2.2.2.2.2.2.1,x_2.2.2.2.2.2.2.2.2.2.2.2.2.2.2.1,x_2.2.2.2.2.2.2.2.2.2.2.2.2.2.2.2.1,x_2.2.2.2.2.2.2.2.2.2.2.2.2.2.2.2.2.1,x_2.2.2.2.2.2.2.2.2.2.2.2.2.2.2.2.2.2.1,x_2.2.2.2.2.2.2.2.2.2.2.2.2.2.2.2.2.2.2.1,0,x_2.2.2.2.2.2.2.2.2.2.2.2.2.2.2.2.2.2.2.2.2),a0.2.2.2.2.2.2.2.2.2.2.2.2.2.1,a0.2.2.2.2.2.2.2.2.2.2.2.2.2.2)
def lB:FL:=(273,⟨[.ptr tB (some false),.val false rQ false],[],λa=>fc a.1 a.2⟩)::lA
theorem q8:Gd lB:=rS pZ 273 Tryz.f273 [] Tryz.func273
def dV (a0:s9) (k1:Int):Option s9 :=
 (tF a0.2.2.2.2.2.2.2.2.2.2.2.2.1.length 0 k1).bind λp =>
 (sf ([]:List sY) ((a0.2.2.2.2.2.2.2.2.2.2.2.2.1.take p.2).drop p.1)).bind λzs12 =>
 (tF a0.2.2.2.2.2.2.2.2.2.2.2.2.1.length (rJ (k1+1)) (a0.2.2.2.2.2.2.2.2.2.2.2.2.1.length:Int)).bind λp_1 =>
 (sf zs12 ((a0.2.2.2.2.2.2.2.2.2.2.2.2.1.take p_1.2).drop p_1.1)).bind λzs20 =>
 some (a0.1,a0.2.1,a0.2.2.1,a0.2.2.2.1,a0.2.2.2.2.1,a0.2.2.2.2.2.1,a0.2.2.2.2.2.2.1,a0.2.2.2.2.2.2.2.1,a0.2.2.2.2.2.2.2.2.1,a0.2.2.2.2.2.2.2.2.2.1,a0.2.2.2.2.2.2.2.2.2.2.1,a0.2.2.2.2.2.2.2.2.2.2.2.1,zs20,a0.2.2.2.2.2.2.2.2.2.2.2.2.2.1,a0.2.2.2.2.2.2.2.2.2.2.2.2.2.2)
def lC:FL:=(274,⟨[.ptr tB (some false),.val false rQ false],[],λa=>dV a.1 a.2⟩)::lB
theorem q9:Gd lC:=rS q8 274 Tryz.f274 [] Tryz.func274
def dW (p0:s9) (i1:Int):Option s9 :=
 (ix p0.2.2.2.2.2.2.2.2.2.2.2.2.1.length i1).bind λj16 =>
 (p0.2.2.2.2.2.2.2.2.2.2.2.2.1[j16]?).bind λx18 =>
 (fb p0.2.2.2.2.2.2.2.2.2.2.2.1 x18.2.1).bind λt19 =>
 (cond (t19.2==0) (some (t19.1.1 != 162)) (some false)).bind λt28 =>
 cond t28
 ((ix p0.2.2.2.2.2.2.2.2.2.2.2.2.1.length i1).bind λj35 =>
 (p0.2.2.2.2.2.2.2.2.2.2.2.2.1[j35]?).bind λx =>
 (fc (p0.1,p0.2.1,p0.2.2.1,p0.2.2.2.1,p0.2.2.2.2.1,p0.2.2.2.2.2.1,p0.2.2.2.2.2.2.1,p0.2.2.2.2.2.2.2.1,p0.2.2.2.2.2.2.2.2.1,p0.2.2.2.2.2.2.2.2.2.1,p0.2.2.2.2.2.2.2.2.2.2.1,p0.2.2.2.2.2.2.2.2.2.2.2.1,p0.2.2.2.2.2.2.2.2.2.2.2.2.1.set j35 (x.1,x.2.1,x.2.2.1,t19.1.1,t19.1.2.1,t19.1.2.2.1,t19.1.2.2.2.1,t19.1.2.2.2.2,x.2.2.2.2.2.2.2.2.1,x.2.2.2.2.2.2.2.2.2.1,x.2.2.2.2.2.2.2.2.2.2.1,x.2.2.2.2.2.2.2.2.2.2.2.1,x.2.2.2.2.2.2.2.2.2.2.2.2.1,x.2.2.2.2.2.2.2.2.2.2.2.2.2.1,x.2.2.2.2.2.2.2.2.2.2.2.2.2.2.1,x.2.2.2.2.2.2.2.2.2.2.2.2.2.2.2.1,x.2.2.2.2.2.2.2.2.2.2.2.2.2.2.2.2.1,x.2.2.2.2.2.2.2.2.2.2.2.2.2.2.2.2.2.1,x.2.2.2.2.2.2.2.2.2.2.2.2.2.2.2.2.2.2.1,x.2.2.2.2.2.2.2.2.2.2.2.2.2.2.2.2.2.2.2.1,x.2.2.2.2.2.2.2.2.2.2.2.2.2.2.2.2.2.2.2.2),p0.2.2.2.2.2.2.2.2.2.2.2.2.2.1,p0.2.2.2.2.2.2.2.2.2.2.2.2.2.2) i1).bind λt39 =>
 some t39)
 (cond (t19.2==3)
 ((bg p0.2.2.2.2.2.2.2.2.1).bind λt48 =>
 (dV (p0.1,p0.2.1,p0.2.2.1,p0.2.2.2.1,p0.2.2.2.2.1,p0.2.2.2.2.2.1,p0.2.2.2.2.2.2.1,p0.2.2.2.2.2.2.2.1,t48,p0.2.2.2.2.2.2.2.2.2.1,p0.2.2.2.2.2.2.2.2.2.2.1,p0.2.2.2.2.2.2.2.2.2.2.2.1,p0.2.2.2.2.2.2.2.2.2.2.2.2.1,p0.2.2.2.2.2.2.2.2.2.2.2.2.2.1,p0.2.2.2.2.2.2.2.2.2.2.2.2.2.2) i1).bind λt64 =>
 some t64)
 ((bg p0.2.2.2.2.2.2.2.1).bind λt58 =>
 (dV (p0.1,p0.2.1,p0.2.2.1,p0.2.2.2.1,p0.2.2.2.2.1,p0.2.2.2.2.2.1,p0.2.2.2.2.2.2.1,t58,p0.2.2.2.2.2.2.2.2.1,p0.2.2.2.2.2.2.2.2.2.1,p0.2.2.2.2.2.2.2.2.2.2.1,p0.2.2.2.2.2.2.2.2.2.2.2.1,p0.2.2.2.2.2.2.2.2.2.2.2.2.1,p0.2.2.2.2.2.2.2.2.2.2.2.2.2.1,p0.2.2.2.2.2.2.2.2.2.2.2.2.2.2) i1).bind λt64_1 =>
 some t64_1))
def lD:FL:=(180,⟨[.ptr tB (some false),.val false rQ false],[],λa=>dW a.1 a.2⟩)::lC
theorem qc:Gd lD:=rS q9 180 Tryz.f180 [] Tryz.func180
def dX (a0:s9) (k1:Int) (p2:sj):Option (s9×List uV) :=
 (ix a0.2.2.2.2.2.2.2.2.2.2.2.2.1.length k1).bind λj13 =>
 (a0.2.2.2.2.2.2.2.2.2.2.2.2.1[j13]?).bind λx15 =>
 (dV a0 k1).bind λt21 =>
 some (t21,[(x15.1,p2.1,p2.2.1,p2.2.2.1,p2.2.2.2.1,p2.2.2.2.2)])
def lE:FL:=(183,⟨[.ptr tB (some false),.val false rQ false,.val true ud false],[.val false (.one (.sl yp)) (some false)],λa=>dX a.1 a.2.1 a.2.2⟩)::lD
theorem qd:Gd lE:=rS qc 183 Tryz.f183 [] Tryz.func183
def ak (b0:List Int) (tag1:Int) (body2:List Int):Option (List Int) :=
 (sf ([]:List Int) b0).bind λzs10 =>
 (ae tag1 0 255).bind λt12 =>
 (cond (!t12) (some true) (some (decide ((body2.length:Int)>250)))).bind λt18 =>
 cond t18
 (some zs10)
 ((sf zs10 [IntKind.u8.wrap (tag1)]).bind λzs24 =>
 cond (decide ((body2.length:Int)>127))
 ((sf zs24 ([129]:List Int)).bind λzs30 =>
 (sf zs30 [IntKind.u8.wrap ((body2.length:Int))]).bind λzs36 =>
 (sf zs36 body2).bind λzs38 =>
 some zs38)
 ((sf zs24 [IntKind.u8.wrap ((body2.length:Int))]).bind λzs36_1 =>
 (sf zs36_1 body2).bind λzs38_1 =>
 some zs38_1))
def lF:FL:=(62,⟨[.val false tb false,.val false rQ false,.val false tb false],[.val false tb (some true)],λa=>ak a.1 a.2.1 a.2.2⟩)::lE
theorem qe:Gd lF:=rS qd 62 Tryz.f62 [] Tryz.func62
def cH (o0:List Int) (i4:Int) (b3:List Int):Option ((Int×List Int)⊕(List Int)) :=
 cond (decide (i4<(o0.length:Int)))
 ((at? o0 i4).bind λx19 =>
 (dU x19).bind λt21 =>
 (sf b3 t21).bind λzs22 =>
 some (.inl (rJ (i4+1),zs22)))
 (some (.inr b3))
def fe (o0:List Int):Option (List Int) :=
 (bH o0).bind λt7 =>
 cond (!t7)
 (some ([]:List Int))
 ((loop (λz=>cH o0 z.1 z.2) (0,([]:List Int))).bind λd =>
 some d)
def lG:FL:=(309,⟨[.val false uw false],[.val false tb (some true)],λa=>fe a⟩)::lF
theorem qf:Gd lG:=rS qe 309 Tryz.f309 [(0,⟨⟨[(3,false,[.own 1000000000]),(4,false,[dI])],[(1000000000,.root (.one (.int .u8)) true)]⟩,
 ⟨[(3,false,[.own 1000000300])],[(1000000300,.root (.one (.int .u8)) true)]⟩,none⟩)] Tryz.func309
def ge (b0:List Int) (v1:vl):Option (List Int) :=
 (bq v1).bind λt7 =>
 cond (!t7)
 ((sf ([]:List Int) b0).bind λzs11 =>
 some zs11)
 (cond (v1.1==2)
 ((aK v1.2.1).bind λt19 =>
 (ak b0 v1.1 t19).bind λt34 =>
 some t34)
 (cond (v1.1==4)
 ((ak b0 v1.1 (uF v1.2.2.1)).bind λt34_1 =>
 some t34_1)
 (cond (v1.1==6)
 ((fe v1.2.2.2).bind λt29 =>
 (ak b0 v1.1 t29).bind λt34_2 =>
 some t34_2)
 ((ak b0 v1.1 ([]:List Int)).bind λt34_3 =>
 some t34_3))))
def lH:FL:=(308,⟨[.val false tb false,.val true wR false],[.val false tb (some true)],λa=>ge a.1 a.2⟩)::lG
theorem qg:Gd lH:=rS qf 308 Tryz.f308 [] Tryz.func308
def cI (l0:List rK) (i4:Int) (b3:List Int):Option ((Int×List Int)⊕(List Int)) :=
 cond (decide (i4<(l0.length:Int)))
 ((at? l0 i4).bind λx16 =>
 (fe x16.1).bind λt19 =>
 (ak ([]:List Int) 6 t19).bind λt20 =>
 (at? l0 i4).bind λx23 =>
 (ge t20 x23.2).bind λt26 =>
 (ak b3 48 t26).bind λt29 =>
 some (.inl (rJ (i4+1),t29)))
 (some (.inr b3))
def gg (l0:List rK):Option (List Int) :=
 (loop (λz=>cI l0 z.1 z.2) (0,([]:List Int))).bind λd =>
 some d
def lI:FL:=(223,⟨[.val false (.one (.sl rX)) false],[.val false tb (some true)],λa=>gg a⟩)::lH
theorem qh:Gd lI:=rS qg 223 Tryz.f223 [(0,⟨⟨[(3,false,[.own 1000000000]),(4,false,[dI])],[(1000000000,.root (.one (.int .u8)) true)]⟩,
 ⟨[(3,false,[.own 1000000300])],[(1000000300,.root (.one (.int .u8)) true)]⟩,none⟩)] Tryz.func223
def gQ (p0:sj):Option ((List Int)×Bool) :=
 (gg p0.2.2.2.2).bind λt8 =>
 cond (decide ((t8.length:Int)>250))
 (some (([]:List Int),false))
 ((aK p0.2.1).bind λt16 =>
 (ak ([]:List Int) 2 t16).bind λt17 =>
 (aK p0.2.2.1).bind λt20 =>
 (ak t17 2 t20).bind λt21 =>
 (aK p0.2.2.2.1).bind λt24 =>
 (ak t21 2 t24).bind λt25 =>
 (ak t25 48 t8).bind λt28 =>
 let t3:=decide ((t28.length:Int)<=250)
 some (t28,t3))
def lJ:FL:=(138,⟨[.val true ud false],[.val false tb (some true),.val false sS (some true)],λa=>gQ a⟩)::lI
theorem qi:Gd lJ:=rS qh 138 Tryz.f138 [] Tryz.func138
def dj (p0:sj):Option (List Int) :=
 (bI p0).bind λt6 =>
 cond (!t6)
 (some ([]:List Int))
 ((gQ p0).bind λt11 =>
 cond (!t11.2)
 (some ([]:List Int))
 ((ak ([]:List Int) p0.1 t11.1).bind λt21 =>
 some t21))
def lK:FL:=(65,⟨[.val true ud false],[.val false tb (some true)],λa=>dj a⟩)::lJ
theorem qj:Gd lK:=rS qi 65 Tryz.f65 [] Tryz.func65
def dY (p0:sj):Option Bool :=
 (dj p0).bind λt4 =>
 (ae (t4.length:Int) 1 120).bind λt6 =>
 some t6
def lL:FL:=(335,⟨[.val true ud false],[.val false sS (some true)],λa=>dY a⟩)::lK
theorem qk:Gd lL:=rS qj 335 Tryz.f335 [] Tryz.func335
def cg (bulk1:Bool) (b0:Int) (b1:Int) (b2:Int) (b3:Int) (b4:List rK):Option ((Int×Int×Int×Int×List rK)⊕(Int×Int×Int×Int×List rK)) :=
 (cond bulk1
 ((dY (b0,b1,b2,b3,b4)).bind λt8 =>
 some (!t8))
 (some false)).bind λt10 =>
 (cond t10 (some (decide ((b4.length:Int)>0))) (some false)).bind λt16 =>
 cond t16
 ((tF b4.length 0 (rJ ((b4.length:Int)-1))).bind λp =>
 some (.inl (b0,b1,b2,b3,(b4.take p.2).drop p.1)))
 (some (.inr (b0,b1,b2,b3,b4)))
def cJ (p0:sj) (bulk1:Bool):Option sj :=
 (loop (λz=>cg bulk1 z.1 z.2.1 z.2.2.1 z.2.2.2.1 z.2.2.2.2) p0).bind λd =>
 (dY d).bind λt26 =>
 cond t26 (some d) (some (162,d.2.1,7,0,[]))
def lM:FL:=(276,⟨[.val true ud true,.val false sS false],[.val true ud (some true)],λa=>cJ a.1 a.2⟩)::lL
theorem qm:Gd lM:=rS qk 276 Tryz.f276 [(0,⟨⟨us 7 3 (us 12 4 []),[(1024,.box [dI,dI,dI,dI,.own 1000000000]),(1000000000,.root rX true)]⟩,
 ⟨[],[(1024,.box [dI,dI,dI,dI,.own 1000000300]),(1000000300,.root rX true)]⟩,none⟩)] Tryz.func276
def gh (a0:zb) (b1:zb):Option Bool :=
 cond (a0.1 != b1.1)
 (some (decide (a0.1<b1.1)))
 (cond (a0.2.1 != b1.2.1)
 (some (decide (a0.2.1<b1.2.1)))
 (cond (a0.2.2.2.1 != b1.2.2.2.1)
 (let t4:=decide (a0.2.2.2.1<b1.2.2.2.1)
 some t4)
 (let t4_1:=decide (a0.2.2.2.2<b1.2.2.2.2)
 some t4_1)))
def lN:FL:=(345,⟨[.val true xr false,.val true xr false],[.val false sS (some true)],λa=>gh a.1 a.2⟩)::lM
theorem qn:Gd lN:=rS qm 345 Tryz.f345 [] Tryz.func345
def gR (v0:zb) (cost1:Int):Option (zb×Bool) :=
 (f6 v0).bind λt8 =>
 (cond (!t8)
 (some true)
 ((ae cost1 1 1000).bind λt12 =>
 some (!t12))).bind λt14 =>
 cond t14
 (some (v0,false))
 ((f6 (v0.1,rJ (v0.2.1+cost1),rJ (v0.2.2.1+1),v0.2.2.2.1,v0.2.2.2.2)).bind λt27 =>
 cond (!t27)
 (some (v0,false))
 (some ((v0.1,rJ (v0.2.1+cost1),rJ (v0.2.2.1+1),v0.2.2.2.1,v0.2.2.2.2),true)))
def lO:FL:=(371,⟨[.val true xr false,.val false rQ false],[.val true xr (some true),.val false sS (some true)],λa=>gR a.1 a.2⟩)::lN
theorem qo:Gd lO:=rS qn 371 Tryz.f371 [] Tryz.func371
def gS (p0:Int) (i1:List Pt) (t8:Int) (t9:Int) (b0:Int) (b1:Int) (b2:Int) (b3:Int) (b4:Int) (b0_1:Int) (b1_1:Int) (b2_1:Int) (b3_1:Int) (b4_1:Int):Option ((Int×Int×Int×Int×Int×Int×Int×Int×Int×Int×Int×Int)⊕(Int×Int×Int×Int×Int×Int×Int×Int×Int×Int×Int)) :=
 cond (decide (t9<(i1.length:Int)))
 ((at? i1 t9).bind λx24 =>
 (cond (!x24.1)
 (some true)
 ((at? i1 t9).bind λx31 =>
 some (!x31.2.2.1))).bind λt35 =>
 cond t35
 (some (.inl (t8,rJ (t9+1),b0,b1,b2,b3,b4,b0_1,b1_1,b2_1,b3_1,b4_1)))
 ((at? i1 t9).bind λx39 =>
 (at? i1 t9).bind λx44 =>
 (gR x39.2.2.2 x44.2.1).bind λt47 =>
 (cond t47.2 (some (decide (t47.1.1<p0))) (some false)).bind λt56 =>
 (cond t56
 ((cond (decide (t8<0))
 (some true)
 ((gh t47.1 (b0_1,b1_1,b2_1,b3_1,b4_1)).bind λt63 =>
 some t63)).bind λt64 =>
 some t64)
 (some false)).bind λt65 =>
 cond t65
 (some (.inl (t9,rJ (t9+1),t47.1.1,t47.1.2.1,t47.1.2.2.1,p0,0,t47.1.1,t47.1.2.1,t47.1.2.2.1,t47.1.2.2.2.1,t47.1.2.2.2.2)))
 (some (.inl (t8,rJ (t9+1),b0,b1,b2,b3,b4,b0_1,b1_1,b2_1,b3_1,b4_1)))))
 (some (.inr (t8,b0,b1,b2,b3,b4,b0_1,b1_1,b2_1,b3_1,b4_1)))
def ff (p0:Int) (i1:List Pt):Option (zb×Int) :=
 (loop (λz=>gS p0 i1 z.1 z.2.1 z.2.2.1 z.2.2.2.1 z.2.2.2.2.1 z.2.2.2.2.2.1 z.2.2.2.2.2.2.1 z.2.2.2.2.2.2.2.1 z.2.2.2.2.2.2.2.2.1 z.2.2.2.2.2.2.2.2.2.1 z.2.2.2.2.2.2.2.2.2.2.1 z.2.2.2.2.2.2.2.2.2.2.2) ((-1),0,p0,0,0,p0,0,0,0,0,0,0)).bind λd =>
 some ((d.2.1,d.2.2.1,d.2.2.2.1,d.2.2.2.2.1,d.2.2.2.2.2.1),d.1)
def lP:FL:=(344,⟨[.val false rQ false,.val false (.one (.sl uG)) false],[.val true xr (some true),.val false rQ (some true)],λa=>ff a.1 a.2⟩)::lO
theorem qp:Gd lP:=rS qo 344 Tryz.f344 [(0,⟨⟨(8,false,[dI])::(9,false,[dI])::us 29 6 (us 52 4 (us 58 7 [])),[(266240,.box [dI,dI,dI,dI,dI]),(526336,.box [dI,dI,dI,dI,dI])]⟩,
 ⟨[(8,false,[dI])],[(266240,.box [dI,dI,dI,dI,dI]),(526336,.box [dI,dI,dI,dI,dI])]⟩,none⟩)] Tryz.func344
def gi (id0:Int) (l1:List Pt) (port2:Int):Option zb :=
 (ff id0 l1).bind λt12 =>
 some (t12.1.1,t12.1.2.1,t12.1.2.2.1,t12.1.2.2.2.1,port2)
def lQ:FL:=(346,⟨[.val false rQ false,.val false (.one (.sl uG)) false,.val false rQ false],[.val true xr (some true)],λa=>gi a.1 a.2.1 a.2.2⟩)::lP
theorem qq:Gd lQ:=rS qp 346 Tryz.f346 [] Tryz.func346
def fg (id0:Int) (l1:List Pt) (port2:Int):Option Int :=
 (ae port2 0 (rJ ((l1.length:Int)-1))).bind λt13 =>
 (cond (!t13)
 (some true)
 ((at? l1 port2).bind λx18 =>
 some (!x18.1))).bind λt22 =>
 cond t22
 (some 4)
 ((ff id0 l1).bind λt26 =>
 cond (t26.2==port2)
 (some 1)
 ((at? l1 port2).bind λx36 =>
 (cond (!x36.2.2.1)
 (some true)
 ((gi id0 l1 port2).bind λt44 =>
 (at? l1 port2).bind λx47 =>
 (gh t44 x47.2.2.2).bind λt50 =>
 some t50)).bind λt51 =>
 cond t51 (some 2) (some 3)))
def lR:FL:=(289,⟨[.val false rQ false,.val false (.one (.sl uG)) false,.val false rQ false],[.val false rQ (some true)],λa=>fg a.1 a.2.1 a.2.2⟩)::lQ
theorem qr:Gd lR:=rS qq 289 Tryz.f289 [] Tryz.func289
def fh (id0:Int) (l1:List Pt) (n5:Int) (i6:Int):Option ((Int×Int)⊕Int) :=
 (cond (decide (i6<(l1.length:Int))) (some (decide (i6<6))) (some false)).bind λt14 =>
 cond t14
 ((fg id0 l1 i6).bind λt20 =>
 cond (decide (t20<=2))
 ((shl .i64 1 (IntKind.u64.wrap (i6))).bind λt25 =>
 some (.inl (zC .i64 n5 t25,rJ (i6+1))))
 (some (.inl (n5,rJ (i6+1)))))
 (some (.inr n5))
def gj (id0:Int) (l1:List Pt):Option Int :=
 (loop (λz=>fh id0 l1 z.1 z.2) (0,0)).bind λd =>
 some d
def lS:FL:=(198,⟨[.val false rQ false,.val false (.one (.sl uG)) false],[.val false rQ (some true)],λa=>gj a.1 a.2⟩)::lR
theorem qt:Gd lS:=rS qr 198 Tryz.f198 [(0,⟨⟨[(5,false,[dI]),(6,false,[dI]),(12,false,[.undef]),(13,false,[.undef])],[]⟩,
 ⟨[(5,false,[dI])],[]⟩,none⟩)] Tryz.func198
def gk (n0:Int) (port1:Int):Option Bool :=
 (ae port1 0 7).bind λt6 =>
 (cond t6
 ((shr .i64 n0 (IntKind.u64.wrap (port1))).bind λt11 =>
 some ((vn .i64 t11 1)==1))
 (some false)).bind λt14 =>
 some t14
def lT:FL:=(200,⟨[.val false rQ false,.val false rQ false],[.val false sS (some true)],λa=>gk a.1 a.2⟩)::lS
theorem qu:Gd lT:=rS qt 200 Tryz.f200 [] Tryz.func200
def dZ (l0:List rR) (port1:Int) (i6:Int) (out5:List rR):Option ((Int×List rR)⊕(List rR)) :=
 cond (decide (i6<(l0.length:Int)))
 ((at? l0 i6).bind λx16 =>
 (cond x16.2.2.2.2
 (some true)
 ((at? l0 i6).bind λx22 =>
 some (x22.2.2.1 != port1))).bind λt27 =>
 cond t27
 ((at? l0 i6).bind λx31 =>
 (sf out5 [x31]).bind λzs34 =>
 some (.inl (rJ (i6+1),zs34)))
 (some (.inl (rJ (i6+1),out5))))
 (some (.inr out5))
def gl (l0:List rR) (port1:Int):Option (List rR) :=
 (loop (λz=>dZ l0 port1 z.1 z.2) (0,([]:List rR))).bind λd =>
 some d
def lU:FL:=(304,⟨[.val false (.one (.sl sr)) false,.val false rQ false],[.val false (.one (.sl sr)) (some true)],λa=>gl a.1 a.2⟩)::lT
theorem qv:Gd lU:=rS qu 304 Tryz.f304 [(0,⟨⟨(5,false,[.own 1000000000])::(6,false,[dI])::us 20 7 [],[(1000000000,.root sr true)]⟩,
 ⟨[(5,false,[.own 1000000300])],[(1000000300,.root sr true)]⟩,none⟩)] Tryz.func304
def gm (b0:rI) (t13:Int) (i4:Int) (b0_1:Int) (b1:List UInt8) (b6:Int) (b7:Int) (b8:Int) (b9:Int) (b10:Int) (b3:List rR):Option ((Int×Int×List UInt8×Int×Int×Int×Int×Int×List rR)⊕(Int×List UInt8×Int×Int×Int×Int×Int×List rR)) :=
 cond (decide (i4<(b0.2.2.1.length:Int)))
 ((gk t13 i4).bind λt23 =>
 cond (!t23)
 ((gl b3 i4).bind λt28 =>
 some (.inl (rJ (i4+1),b0_1,b1,b6,b7,b8,b9,b10,t28)))
 (some (.inl (rJ (i4+1),b0_1,b1,b6,b7,b8,b9,b10,b3))))
 (some (.inr (b0_1,b1,b6,b7,b8,b9,b10,b3)))
def bO (b0:rI):Option rI :=
 (bg b0.2.2.2.2.2.2.2.2.2.2).bind λt7 =>
 (gj b0.1 b0.2.2.1).bind λt13 =>
 (loop (λz=>gm b0 t13 z.1 z.2.1 z.2.2.1 z.2.2.2.1 z.2.2.2.2.1 z.2.2.2.2.2.1 z.2.2.2.2.2.2.1 z.2.2.2.2.2.2.2.1 z.2.2.2.2.2.2.2.2) (0,b0.1,b0.2.1,b0.2.2.2.2.2.2.1,b0.2.2.2.2.2.2.2.1,b0.2.2.2.2.2.2.2.2.1,b0.2.2.2.2.2.2.2.2.2.1,t7,b0.2.2.2.1)).bind λd =>
 some (d.1,d.2.1,b0.2.2.1,d.2.2.2.2.2.2.2,b0.2.2.2.2.1,b0.2.2.2.2.2.1,d.2.2.1,d.2.2.2.1,d.2.2.2.2.1,d.2.2.2.2.2.1,d.2.2.2.2.2.2.1)
def lV:FL:=(216,⟨[.val true s7 true],[.val true s7 (some true)],λa=>bO a⟩)::lU
theorem qw:Gd lV:=rS qv 216 Tryz.f216 [(0,⟨⟨[(4,false,[dI])],[(1024,.box [dI,dS,.same 3,.own 1000000000,.same 5,.same 6,dI,dI,dI,dI,dI]),(1000000000,.root sr true)]⟩,
 ⟨[],[(1024,.box [dI,dS,.same 3,.own 1000000300,.same 5,.same 6,dI,dI,dI,dI,dI]),(1000000300,.root sr true)]⟩,none⟩)] Tryz.func216
def qx (a0:List Int) (b1:List Int) (i5:Int):Option (Int⊕(Unit⊕Bool)) :=
 cond (decide (i5<(a0.length:Int)))
 ((at? a0 i5).bind λx19 =>
 (at? b1 i5).bind λx23 =>
 cond (x19 != x23) (some (.inr (.inr false))) (some (.inl (rJ (i5+1)))))
 (some (.inr (.inl ())))
def cK (a0:List Int) (b1:List Int):Option Bool :=
 cond ((a0.length:Int) != (b1.length:Int))
 (some false)
 ((loop (λz=>qx a0 b1 z) 0).bind (Sum.elim (λd =>
 some true) (λr=>some r)))
def lW:FL:=(366,⟨[.val false uw false,.val false uw false],[.val false sS (some true)],λa=>cK a.1 a.2⟩)::lV
theorem qy:Gd lW:=rS qw 366 Tryz.f366 [(0,⟨⟨[(5,false,[dI])],[]⟩,
 ⟨[],[]⟩,some ⟨[(4,false,[dB])],[]⟩⟩)] Tryz.func366
def gT (o0:List Int) (head1:List Int):Option Bool :=
 (cond (decide ((o0.length:Int)>(head1.length:Int)))
 ((cut o0 0 (head1.length:Int)).bind λt14 =>
 (cK t14 head1).bind λt16 =>
 some t16)
 (some false)).bind λt17 =>
 some t17
def lX:FL:=(395,⟨[.val false uw false,.val false uw false],[.val false sS (some true)],λa=>gT a.1 a.2⟩)::lW
theorem qz:Gd lX:=rS qy 395 Tryz.f395 [] Tryz.func395
def fi (o0:List Int):Option ((List Int)×Bool) :=
 (gT o0 ([1,3,1]:List Int)).bind λt6 =>
 cond (!t6)
 (some (([]:List Int),false))
 ((cut o0 3 (o0.length:Int)).bind λt10 =>
 some (t10,true))
def lY:FL:=(391,⟨[.val false uw false],[.val false uw none,.val false sS (some true)],λa=>fi a⟩)::lX
theorem qA:Gd lY:=rS qz 391 Tryz.f391 [] Tryz.func391
def gn (p0:rI) (i1:List Int):Option Bool :=
 (fi i1).bind λt9 =>
 cond (!t9.2)
 (some false)
 (cond ((t9.1.length:Int)==2)
 ((at? t9.1 0).bind λx18 =>
 (cond (x18==1)
 ((at? t9.1 1).bind λx23 =>
 some (x23==1))
 (some false)).bind λt26 =>
 some t26)
 (cond ((t9.1.length:Int) != 3)
 (some false)
 ((at? t9.1 0).bind λx31 =>
 cond (x31==2)
 ((at? t9.1 1).bind λx36 =>
 (cond (x36==2)
 (some true)
 ((at? t9.1 1).bind λx41 =>
 some (x41==4))).bind λt44 =>
 (cond t44
 ((at? t9.1 2).bind λx47 =>
 (ae x47 1 (p0.2.2.1.length:Int)).bind λt52 =>
 some t52)
 (some false)).bind λt53 =>
 some t53)
 (cond (x31==3)
 ((at? t9.1 1).bind λx57 =>
 (cond (x57==1)
 ((at? t9.1 2).bind λx62 =>
 (ae x62 1 99).bind λt64 =>
 some t64)
 (some false)).bind λt65 =>
 (cond t65
 (some true)
 ((at? t9.1 1).bind λx68 =>
 (cond (x68==2)
 (some true)
 ((at? t9.1 1).bind λx73 =>
 some (x73==3))).bind λt76 =>
 (cond t76
 ((at? t9.1 2).bind λx81 =>
 (bc (p0.2.2.2.2.1,p0.2.2.2.2.2.1) x81).bind λt83 =>
 some (decide (t83>=0)))
 (some false)).bind λt85 =>
 some t85)).bind λt86 =>
 some t86)
 (some false)))))
def lZ:FL:=(382,⟨[.val true s7 false,.val false uw false],[.val false sS (some true)],λa=>gn a.1 a.2⟩)::lY
theorem qB:Gd lZ:=rS qA 382 Tryz.f382 [] Tryz.func382
def aR (l0:List rR) (tag1:Int) (mac2:Int) (i7:Int):Option (Int⊕(Unit⊕Int)) :=
 cond (decide (i7<(l0.length:Int)))
 ((at? l0 i7).bind λx16 =>
 (cond (x16.1==tag1)
 ((at? l0 i7).bind λx24 =>
 some (x24.2.1==mac2))
 (some false)).bind λt29 =>
 cond t29 (some (.inr (.inr i7))) (some (.inl (rJ (i7+1)))))
 (some (.inr (.inl ())))
def bM (l0:List rR) (tag1:Int) (mac2:Int):Option Int :=
 (loop (λz=>aR l0 tag1 mac2 z) 0).bind (Sum.elim (λd =>
 some (-1)) (λr=>some r))
def m5:FL:=(291,⟨[.val false (.one (.sl sr)) false,.val false rQ false,.val false rQ false],[.val false rQ (some true)],λa=>bM a.1 a.2.1 a.2.2⟩)::lZ
theorem qC:Gd m5:=rS qB 291 Tryz.f291 [(0,⟨⟨(7,false,[dI])::us 22 7 [],[]⟩,
 ⟨[],[]⟩,some ⟨[(6,false,[dI])],[]⟩⟩)] Tryz.func291
def gp (p0:rI) (i1:List Int):Option Bool :=
 (fi i1).bind λt9 =>
 cond (!t9.2)
 (some false)
 (cond ((t9.1.length:Int)==2)
 ((at? t9.1 0).bind λx19 =>
 (cond (x19==1)
 ((at? t9.1 1).bind λx24 =>
 (ae x24 2 5).bind λt26 =>
 some t26)
 (some false)).bind λt27 =>
 some t27)
 (cond ((t9.1.length:Int)==3)
 ((at? t9.1 0).bind λx31 =>
 (cond (x31==2)
 ((at? t9.1 1).bind λx36 =>
 (cond (x36==1)
 (some true)
 ((at? t9.1 1).bind λx41 =>
 some (x41==3))).bind λt44 =>
 some t44)
 (some false)).bind λt45 =>
 (cond t45
 ((at? t9.1 2).bind λx48 =>
 (ae x48 1 (p0.2.2.1.length:Int)).bind λt53 =>
 some t53)
 (some false)).bind λt54 =>
 some t54)
 (cond ((t9.1.length:Int)==4)
 ((at? t9.1 0).bind λx58 =>
 (cond (x58==4)
 ((at? t9.1 1).bind λx63 =>
 some (x63==1))
 (some false)).bind λt66 =>
 (cond t66
 ((at? t9.1 2).bind λx71 =>
 (at? t9.1 3).bind λx74 =>
 (bM p0.2.2.2.1 x71 x74).bind λt76 =>
 some (decide (t76>=0)))
 (some false)).bind λt78 =>
 some t78)
 (some false))))
def m6:FL:=(383,⟨[.val true s7 false,.val false uw false],[.val false sS (some true)],λa=>gp a.1 a.2⟩)::m5
theorem qD:Gd m6:=rS qC 383 Tryz.f383 [] Tryz.func383
def gU (b0:rI) (c1:Int) (p2:Int) (n3:Int):Option (rI×Int) :=
 cond (c1==2)
 ((ae n3 1 1000).bind λt13 =>
 cond (!t13)
 (some (b0,2))
 ((ix b0.2.2.1.length p2).bind λj20 =>
 (b0.2.2.1[j20]?).bind λx =>
 some ((b0.1,b0.2.1,b0.2.2.1.set j20 (x.1,n3,x.2.2.1,x.2.2.2.1,x.2.2.2.2.1,x.2.2.2.2.2.1,x.2.2.2.2.2.2.1,x.2.2.2.2.2.2.2),b0.2.2.2.1,b0.2.2.2.2.1,b0.2.2.2.2.2.1,b0.2.2.2.2.2.2.1,b0.2.2.2.2.2.2.2.1,b0.2.2.2.2.2.2.2.2.1,b0.2.2.2.2.2.2.2.2.2.1,b0.2.2.2.2.2.2.2.2.2.2),0)))
 ((ix b0.2.2.2.2.2.1.length p2).bind λj28 =>
 (b0.2.2.2.2.2.1[j28]?).bind λx_1 =>
 some ((b0.1,b0.2.1,b0.2.2.1,b0.2.2.2.1,b0.2.2.2.2.1,b0.2.2.2.2.2.1.set j28 n3,b0.2.2.2.2.2.2.1,b0.2.2.2.2.2.2.2.1,b0.2.2.2.2.2.2.2.2.1,b0.2.2.2.2.2.2.2.2.2.1,b0.2.2.2.2.2.2.2.2.2.2),0))
def m7:FL:=(384,⟨[.val true s7 true,.val false rQ false,.val false rQ false,.val false rQ false],[.val true s7 (some true),.val false rQ (some true)],λa=>gU a.1 a.2.1 a.2.2.1 a.2.2.2⟩)::m6
theorem qE:Gd m7:=rS qD 384 Tryz.f384 [] Tryz.func384
def bK (p0:sR) (i1:s5) (t6:Bool) (t7:Int) (b0:List s5):Option ((Bool×Int×List s5)⊕(Bool×List s5)) :=
 cond (decide (t7<(p0.1.length:Int)))
 ((cond (!t6)
 ((at? p0.1 t7).bind λx26 =>
 some (decide (x26.1>=i1.1)))
 (some false)).bind λt32 =>
 cond t32
 ((sf b0 [i1]).bind λzs37 =>
 (at? p0.1 t7).bind λx42 =>
 cond (x42.1 != i1.1)
 ((at? p0.1 t7).bind λx53 =>
 (sf zs37 [x53]).bind λzs56 =>
 some (.inl (true,rJ (t7+1),zs56)))
 (some (.inl (true,rJ (t7+1),zs37))))
 ((at? p0.1 t7).bind λx42_1 =>
 cond (x42_1.1 != i1.1)
 ((at? p0.1 t7).bind λx53_1 =>
 (sf b0 [x53_1]).bind λzs56_1 =>
 some (.inl (t6,rJ (t7+1),zs56_1)))
 (some (.inl (t6,rJ (t7+1),b0)))))
 (some (.inr (t6,b0)))
def bf (p0:sR) (i1:s5):Option sR :=
 (sf ([]:List Int) p0.2).bind λzs11 =>
 (loop (λz=>bK p0 i1 z.1 z.2.1 z.2.2) (false,0,[])).bind λd =>
 cond (!d.1)
 ((sf d.2 [i1]).bind λzs64 =>
 some (zs64,zs11))
 (some (d.2,zs11))
def m8:FL:=(350,⟨[.val true uq false,.val true tv false],[.val true uq (some true)],λa=>bf a.1 a.2⟩)::m7
theorem qF:Gd m8:=rS qE 350 Tryz.f350 [(0,⟨⟨(6,false,[dB])::(7,false,[dI])::us 23 9 [],[(268288,.box [.own 1000000000,.same 266240]),(1000000000,.root tv true)]⟩,
 ⟨[(6,false,[dB])],[(268288,.box [.own 1000000300,.same 266240]),(1000000300,.root tv true)]⟩,none⟩)] Tryz.func350
def gV (b0:rI) (id1:Int) (n2:Int):Option (rI×Int) :=
 (bc (b0.2.2.2.2.1,b0.2.2.2.2.2.1) id1).bind λt12 =>
 (cond (n2==4) (some (decide (t12<0))) (some false)).bind λt19 =>
 (cond t19 (some (decide ((b0.2.2.2.2.1.length:Int)<6))) (some false)).bind λt26 =>
 cond t26
 ((bf (b0.2.2.2.2.1,b0.2.2.2.2.2.1) (id1,0,0)).bind λt31 =>
 some ((b0.1,b0.2.1,b0.2.2.1,b0.2.2.2.1,t31.1,t31.2,b0.2.2.2.2.2.2.1,b0.2.2.2.2.2.2.2.1,b0.2.2.2.2.2.2.2.2.1,b0.2.2.2.2.2.2.2.2.2.1,b0.2.2.2.2.2.2.2.2.2.2),0))
 ((cond (n2==6) (some (decide (t12>=0))) (some false)).bind λt40 =>
 cond t40
 ((tF b0.2.2.2.2.1.length 0 t12).bind λp =>
 (sf ([]:List s5) ((b0.2.2.2.2.1.take p.2).drop p.1)).bind λzs47 =>
 (tF b0.2.2.2.2.1.length (rJ (t12+1)) (b0.2.2.2.2.1.length:Int)).bind λp_1 =>
 (sf zs47 ((b0.2.2.2.2.1.take p_1.2).drop p_1.1)).bind λzs54 =>
 some ((b0.1,b0.2.1,b0.2.2.1,b0.2.2.2.1,zs54,b0.2.2.2.2.2.1,b0.2.2.2.2.2.2.1,b0.2.2.2.2.2.2.2.1,b0.2.2.2.2.2.2.2.2.1,b0.2.2.2.2.2.2.2.2.2.1,b0.2.2.2.2.2.2.2.2.2.2),0))
 (some (b0,2)))
def m9:FL:=(392,⟨[.val true s7 true,.val false rQ false,.val false rQ false],[.val true s7 (some true),.val false rQ (some true)],λa=>gV a.1 a.2.1 a.2.2⟩)::m8
theorem qG:Gd m9:=rS qF 392 Tryz.f392 [] Tryz.func392
def gq (b0:rI) (c1:Int) (id2:Int) (n3:Int):Option (rI×Int) :=
 cond (c1==1)
 ((gV b0 id2 n3).bind λt16 =>
 some t16)
 ((shl .i64 1 (IntKind.u64.wrap ((b0.2.2.1.length:Int)))).bind λt24 =>
 (ae n3 0 (rJ (t24-1))).bind λt26 =>
 cond (!t26)
 (some (b0,2))
 ((bc (b0.2.2.2.2.1,b0.2.2.2.2.2.1) id2).bind λt35 =>
 (ix b0.2.2.2.2.1.length t35).bind λj36 =>
 (b0.2.2.2.2.1[j36]?).bind λx37 =>
 cond (c1==2)
 ((bf (b0.2.2.2.2.1,b0.2.2.2.2.2.1) (x37.1,n3,x37.2.2)).bind λt47 =>
 some ((b0.1,b0.2.1,b0.2.2.1,b0.2.2.2.1,t47.1,t47.2,b0.2.2.2.2.2.2.1,b0.2.2.2.2.2.2.2.1,b0.2.2.2.2.2.2.2.2.1,b0.2.2.2.2.2.2.2.2.2.1,b0.2.2.2.2.2.2.2.2.2.2),0))
 ((bf (b0.2.2.2.2.1,b0.2.2.2.2.2.1) (x37.1,x37.2.1,n3)).bind λt47_1 =>
 some ((b0.1,b0.2.1,b0.2.2.1,b0.2.2.2.1,t47_1.1,t47_1.2,b0.2.2.2.2.2.2.1,b0.2.2.2.2.2.2.2.1,b0.2.2.2.2.2.2.2.2.1,b0.2.2.2.2.2.2.2.2.2.1,b0.2.2.2.2.2.2.2.2.2.2),0))))
def ma:FL:=(385,⟨[.val true s7 true,.val false rQ false,.val false rQ false,.val false rQ false],[.val true s7 (some true),.val false rQ (some true)],λa=>gq a.1 a.2.1 a.2.2.1 a.2.2.2⟩)::m9
theorem qH:Gd ma:=rS qG 385 Tryz.f385 [] Tryz.func385
def fj (p0:rI) (i1:rK):Option (rI×Int) :=
 (ap p0).bind λt9 =>
 (gn p0 i1.1).bind λt13 =>
 cond (!t13)
 ((gp p0 i1.1).bind λt18 =>
 cond t18 (some (t9,4)) (some (t9,3)))
 ((cut i1.1 3 (i1.1.length:Int)).bind λt23 =>
 (at? t23 0).bind λx25 =>
 cond (x25==1)
 (cond (i1.2.1 != 4)
 (some (t9,1))
 (let t34:=decide ((i1.2.2.2.1.length:Int)>10)
 cond t34
 (some (t9,2))
 (some ((t9.1,i1.2.2.2.1,t9.2.2.1,t9.2.2.2.1,t9.2.2.2.2.1,t9.2.2.2.2.2.1,t9.2.2.2.2.2.2.1,t9.2.2.2.2.2.2.2.1,t9.2.2.2.2.2.2.2.2.1,t9.2.2.2.2.2.2.2.2.2.1,t9.2.2.2.2.2.2.2.2.2.2),0))))
 (cond (i1.2.1 != 2)
 (some (t9,1))
 ((at? t23 0).bind λx52 =>
 cond (x52==2)
 ((at? t23 1).bind λx57 =>
 (at? t23 2).bind λx60 =>
 (gU t9 x57 (rJ (x60-1)) i1.2.2.1).bind λt66 =>
 some t66)
 ((at? t23 1).bind λx71 =>
 (at? t23 2).bind λx74 =>
 (gq t9 x71 x74 i1.2.2.1).bind λt79 =>
 some t79))))
def mb:FL:=(367,⟨[.val true s7 false,.val true rX false],[.val true s7 (some true),.val false rQ (some true)],λa=>fj a.1 a.2⟩)::ma
theorem qI:Gd mb:=rS qH 367 Tryz.f367 [] Tryz.func367
def fk (p0:rI) (i1:List rK) (t8:Int) (t9:Int) (b0_2:Int) (b1_2:List UInt8) (b6_2:Int) (b7_2:Int) (b8_2:Int) (b9_2:Int) (b10_2:Int):Option ((Int×Int×List UInt8×Int×Int×Int×Int×Int)⊕((Int×List UInt8×Int×Int×Int×Int×Int)⊕(Int×Int×Int×List UInt8×Int×Int×Int×Int×Int×List Pt×List rR×List s5×List Int))) :=
 cond (decide (t9<t8))
 ((at? i1 t9).bind λx36 =>
 (at? i1 t8).bind λx41 =>
 (cK x36.1 x41.1).bind λt44 =>
 cond t44
 ((ap p0).bind λt46 =>
 some (.inr (.inr (5,rJ (t8+1),t46.1,t46.2.1,t46.2.2.2.2.2.2.1,t46.2.2.2.2.2.2.2.1,t46.2.2.2.2.2.2.2.2.1,t46.2.2.2.2.2.2.2.2.2.1,t46.2.2.2.2.2.2.2.2.2.2,t46.2.2.1,t46.2.2.2.1,t46.2.2.2.2.1,t46.2.2.2.2.2.1))))
 (some (.inl (rJ (t9+1),b0_2,b1_2,b6_2,b7_2,b8_2,b9_2,b10_2))))
 (some (.inr (.inl (b0_2,b1_2,b6_2,b7_2,b8_2,b9_2,b10_2))))
def gt (p0:rI) (i1:List rK) (t8:Int) (b0:Int) (b1:List UInt8) (b6:Int) (b7:Int) (b8:Int) (b9:Int) (b10:Int) (b0_1:Int) (b1_1:List UInt8) (b6_1:Int) (b7_1:Int) (b8_1:Int) (b9_1:Int) (b10_1:Int) (b2:List Pt) (b3:List rR) (b4:List s5) (b5:List Int) (b2_1:List Pt) (b3_1:List rR) (b4_1:List s5) (b5_1:List Int):Option ((Int×Int×List UInt8×Int×Int×Int×Int×Int×Int×List UInt8×Int×Int×Int×Int×Int×List Pt×List rR×List s5×List Int×List Pt×List rR×List s5×List Int)⊕((Int×List UInt8×Int×Int×Int×Int×Int×Int×List UInt8×Int×Int×Int×Int×Int×List Pt×List rR×List s5×List Int×List Pt×List rR×List s5×List Int)⊕(Int×Int×Int×List UInt8×Int×Int×Int×Int×Int×List Pt×List rR×List s5×List Int))) :=
 cond (decide (t8<(i1.length:Int)))
 ((loop (λz=>fk p0 i1 t8 z.1 z.2.1 z.2.2.1 z.2.2.2.1 z.2.2.2.2.1 z.2.2.2.2.2.1 z.2.2.2.2.2.2.1 z.2.2.2.2.2.2.2) (0,b0,b1,b6,b7,b8,b9,b10)).bind (Sum.elim (λd =>
 (at? i1 t8).bind λx53 =>
 (fj (b0_1,b1_1,b2_1,b3_1,b4_1,b5_1,b6_1,b7_1,b8_1,b9_1,b10_1) x53).bind λt55 =>
 cond (t55.2 != 0)
 ((ap p0).bind λt61 =>
 some (.inr (.inr (t55.2,rJ (t8+1),t61.1,t61.2.1,t61.2.2.2.2.2.2.1,t61.2.2.2.2.2.2.2.1,t61.2.2.2.2.2.2.2.2.1,t61.2.2.2.2.2.2.2.2.2.1,t61.2.2.2.2.2.2.2.2.2.2,t61.2.2.1,t61.2.2.2.1,t61.2.2.2.2.1,t61.2.2.2.2.2.1))))
 (some (.inl (rJ (t8+1),d.1,d.2.1,d.2.2.1,d.2.2.2.1,d.2.2.2.2.1,d.2.2.2.2.2.1,d.2.2.2.2.2.2,t55.1.1,t55.1.2.1,t55.1.2.2.2.2.2.2.1,t55.1.2.2.2.2.2.2.2.1,t55.1.2.2.2.2.2.2.2.2.1,t55.1.2.2.2.2.2.2.2.2.2.1,t55.1.2.2.2.2.2.2.2.2.2.2,b2,b3,b4,b5,t55.1.2.2.1,t55.1.2.2.2.1,t55.1.2.2.2.2.1,t55.1.2.2.2.2.2.1)))) (λr=>some (.inr (.inr r)))))
 (some (.inr (.inl (b0,b1,b6,b7,b8,b9,b10,b0_1,b1_1,b6_1,b7_1,b8_1,b9_1,b10_1,b2,b3,b4,b5,b2_1,b3_1,b4_1,b5_1))))
def gu (p0:rI) (i1:List rK):Option (rI×Int×Int) :=
 (ap p0).bind λt13 =>
 (aV p0).bind λt15 =>
 (cond (!t15) (some (decide ((i1.length:Int)>0))) (some false)).bind λt21 =>
 cond t21
 (some (t13,3,1))
 ((loop (λz=>gt p0 i1 z.1 z.2.1 z.2.2.1 z.2.2.2.1 z.2.2.2.2.1 z.2.2.2.2.2.1 z.2.2.2.2.2.2.1 z.2.2.2.2.2.2.2.1 z.2.2.2.2.2.2.2.2.1 z.2.2.2.2.2.2.2.2.2.1 z.2.2.2.2.2.2.2.2.2.2.1 z.2.2.2.2.2.2.2.2.2.2.2.1 z.2.2.2.2.2.2.2.2.2.2.2.2.1 z.2.2.2.2.2.2.2.2.2.2.2.2.2.1 z.2.2.2.2.2.2.2.2.2.2.2.2.2.2.1 z.2.2.2.2.2.2.2.2.2.2.2.2.2.2.2.1 z.2.2.2.2.2.2.2.2.2.2.2.2.2.2.2.2.1 z.2.2.2.2.2.2.2.2.2.2.2.2.2.2.2.2.2.1 z.2.2.2.2.2.2.2.2.2.2.2.2.2.2.2.2.2.2.1 z.2.2.2.2.2.2.2.2.2.2.2.2.2.2.2.2.2.2.2.1 z.2.2.2.2.2.2.2.2.2.2.2.2.2.2.2.2.2.2.2.2.1 z.2.2.2.2.2.2.2.2.2.2.2.2.2.2.2.2.2.2.2.2.2.1 z.2.2.2.2.2.2.2.2.2.2.2.2.2.2.2.2.2.2.2.2.2.2) (0,0,[],0,0,0,0,0,t13.1,t13.2.1,t13.2.2.2.2.2.2.1,t13.2.2.2.2.2.2.2.1,t13.2.2.2.2.2.2.2.2.1,t13.2.2.2.2.2.2.2.2.2.1,t13.2.2.2.2.2.2.2.2.2.2,[],[],[],[],t13.2.2.1,t13.2.2.2.1,t13.2.2.2.2.1,t13.2.2.2.2.2.1)).bind (Sum.elim (λd_1 =>
 cond ((i1.length:Int)==0)
 (some ((d_1.2.2.2.2.2.2.2.1,d_1.2.2.2.2.2.2.2.2.1,d_1.2.2.2.2.2.2.2.2.2.2.2.2.2.2.2.2.2.2.1,d_1.2.2.2.2.2.2.2.2.2.2.2.2.2.2.2.2.2.2.2.1,d_1.2.2.2.2.2.2.2.2.2.2.2.2.2.2.2.2.2.2.2.2.1,d_1.2.2.2.2.2.2.2.2.2.2.2.2.2.2.2.2.2.2.2.2.2,d_1.2.2.2.2.2.2.2.2.2.1,d_1.2.2.2.2.2.2.2.2.2.2.1,d_1.2.2.2.2.2.2.2.2.2.2.2.1,d_1.2.2.2.2.2.2.2.2.2.2.2.2.1,d_1.2.2.2.2.2.2.2.2.2.2.2.2.2.1),0,0))
 ((aI d_1.2.2.2.2.2.2.2.2.2.2.2.2.2.2.2.2.2.2.2.2 (d_1.2.2.2.2.2.2.2.2.2.2.2.2.2.2.2.2.2.2.1.length:Int)).bind λt75 =>
 cond (!t75)
 ((ap p0).bind λt78 =>
 some (t78,5,(i1.length:Int)))
 ((bO (d_1.2.2.2.2.2.2.2.1,d_1.2.2.2.2.2.2.2.2.1,d_1.2.2.2.2.2.2.2.2.2.2.2.2.2.2.2.2.2.2.1,d_1.2.2.2.2.2.2.2.2.2.2.2.2.2.2.2.2.2.2.2.1,d_1.2.2.2.2.2.2.2.2.2.2.2.2.2.2.2.2.2.2.2.2.1,d_1.2.2.2.2.2.2.2.2.2.2.2.2.2.2.2.2.2.2.2.2.2,d_1.2.2.2.2.2.2.2.2.2.1,d_1.2.2.2.2.2.2.2.2.2.2.1,d_1.2.2.2.2.2.2.2.2.2.2.2.1,d_1.2.2.2.2.2.2.2.2.2.2.2.2.1,d_1.2.2.2.2.2.2.2.2.2.2.2.2.2.1)).bind λt82 =>
 some (t82,0,0)))) (λr_1=>some ((r_1.2.2.1,r_1.2.2.2.1,r_1.2.2.2.2.2.2.2.2.2.1,r_1.2.2.2.2.2.2.2.2.2.2.1,r_1.2.2.2.2.2.2.2.2.2.2.2.1,r_1.2.2.2.2.2.2.2.2.2.2.2.2,r_1.2.2.2.2.1,r_1.2.2.2.2.2.1,r_1.2.2.2.2.2.2.1,r_1.2.2.2.2.2.2.2.1,r_1.2.2.2.2.2.2.2.2.1),r_1.1,r_1.2.1))))
def mc:FL:=(334,⟨[.val true s7 false,.val false (.one (.sl rX)) false],[.val true s7 (some true),.val false rQ (some true),.val false rQ (some true)],λa=>gu a.1 a.2⟩)::mb
theorem qJ:Gd mc:=rS qI 334 Tryz.f334 [(0,⟨⟨[(8,false,[dI])],[(2048,.box [dI,dS,.own 1000000000,.own 1000000001,.own 1000000002,.own 1000000003,dI,dI,dI,dI,dI]),(265216,.box [dI,dS,.own 1000000004,.own 1000000005,.own 1000000006,.own 1000000007,dI,dI,dI,dI,dI]),(1000000000,.root uG true),(1000000001,.root sr true),(1000000002,.root tv true),(1000000003,.root rQ true),(1000000004,.root uG true),(1000000005,.root sr true),(1000000006,.root tv true),(1000000007,.root rQ true)]⟩,
 ⟨[],[(2048,.box [dI,dS,.own 1000000300,.own 1000000301,.own 1000000302,.own 1000000303,dI,dI,dI,dI,dI]),(265216,.box [dI,dS,.own 1000000304,.own 1000000305,.own 1000000306,.own 1000000307,dI,dI,dI,dI,dI]),(1000000300,.root uG true),(1000000301,.root sr true),(1000000302,.root tv true),(1000000303,.root rQ true),(1000000304,.root uG true),(1000000305,.root sr true),(1000000306,.root tv true),(1000000307,.root rQ true)]⟩,some ⟨[(5,false,[dI]),(6,false,[dI])],[(2048,.box [dI,dS,.own 1000000600,.own 1000000601,.own 1000000602,.own 1000000603,dI,dI,dI,dI,dI]),(1000000600,.root uG true),(1000000601,.root sr true),(1000000602,.root tv true),(1000000603,.root rQ true)]⟩⟩),
 (2,⟨⟨[(9,false,[dI])],[(2048,.box [dI,dS,.same 1000000000,.same 1000000001,.same 1000000002,.same 1000000003,dI,dI,dI,dI,dI])]⟩,
 ⟨[],[(2048,.box [dI,dS,.same 1000000000,.same 1000000001,.same 1000000002,.same 1000000003,dI,dI,dI,dI,dI])]⟩,some ⟨[(5,false,[dI]),(6,false,[dI])],[(2048,.box [dI,dS,.own 1000002600,.own 1000002601,.own 1000002602,.own 1000002603,dI,dI,dI,dI,dI]),(1000002600,.root uG true),(1000002601,.root sr true),(1000002602,.root tv true),(1000002603,.root rQ true)]⟩⟩)] Tryz.func334
def fm (b0:rI) (p1:sj):Option (rI×sj) :=
 (cD p1.2.2.2.2).bind λt14 =>
 (gu b0 p1.2.2.2.2).bind λt20 =>
 (dY (162,p1.2.1,t20.2.1,t20.2.2,t14)).bind λt29 =>
 (cond (!t29) (some true) (some (t20.2.1 != 0))).bind λt34 =>
 cond t34
 ((ap b0).bind λt36 =>
 (cJ (162,p1.2.1,t20.2.1,t20.2.2,t14) false).bind λt38 =>
 some (t36,t38))
 (some (t20.1,(162,p1.2.1,t20.2.1,t20.2.2,t14)))
def md:FL:=(275,⟨[.val true s7 false,.val true ud false],[.val true s7 (some true),.val true ud (some true)],λa=>fm a.1 a.2⟩)::mc
theorem qK:Gd md:=rS qJ 275 Tryz.f275 [] Tryz.func275
def gv (p0:s9) (i1:Int):Option (s9×List uV) :=
 (ix p0.2.2.2.2.2.2.2.2.2.2.2.2.1.length i1).bind λj14 =>
 (p0.2.2.2.2.2.2.2.2.2.2.2.2.1[j14]?).bind λx15 =>
 cond (p0.2.2.2.2.2.2.2.2.2.2.1==x15.2.2.2.2.2.2.2.2.2.2.2.2.2.2.2.2.2.2.1)
 ((fm (p0.1,p0.2.1,p0.2.2.1,p0.2.2.2.1,p0.2.2.2.2.1,p0.2.2.2.2.2.1,p0.2.2.2.2.2.2.1,p0.2.2.2.2.2.2.2.1,p0.2.2.2.2.2.2.2.2.1,p0.2.2.2.2.2.2.2.2.2.1,p0.2.2.2.2.2.2.2.2.2.2.1) (x15.2.2.2.1,x15.2.2.2.2.1,x15.2.2.2.2.2.1,x15.2.2.2.2.2.2.1,x15.2.2.2.2.2.2.2.1)).bind λt32 =>
 (dX (t32.1.1,t32.1.2.1,t32.1.2.2.1,t32.1.2.2.2.1,t32.1.2.2.2.2.1,t32.1.2.2.2.2.2.1,t32.1.2.2.2.2.2.2.1,t32.1.2.2.2.2.2.2.2.1,t32.1.2.2.2.2.2.2.2.2.1,t32.1.2.2.2.2.2.2.2.2.2.1,t32.1.2.2.2.2.2.2.2.2.2.2,p0.2.2.2.2.2.2.2.2.2.2.2.1,p0.2.2.2.2.2.2.2.2.2.2.2.2.1,p0.2.2.2.2.2.2.2.2.2.2.2.2.2.1,p0.2.2.2.2.2.2.2.2.2.2.2.2.2.2) i1 t32.2).bind λt42 =>
 some t42)
 (cond (decide (x15.2.2.2.2.2.2.2.2.2.2.2.2.2.2.2.2.2.2.2.2>=3))
 ((cD x15.2.2.2.2.2.2.2.1).bind λt52 =>
 (cJ (162,x15.2.2.2.2.1,6,1,t52) false).bind λt57 =>
 (dX p0 i1 t57).bind λt58 =>
 some t58)
 ((ix p0.2.2.2.2.2.2.2.2.2.2.2.2.1.length i1).bind λj67 =>
 (p0.2.2.2.2.2.2.2.2.2.2.2.2.1[j67]?).bind λx =>
 (fc (p0.1,p0.2.1,p0.2.2.1,p0.2.2.2.1,p0.2.2.2.2.1,p0.2.2.2.2.2.1,p0.2.2.2.2.2.2.1,p0.2.2.2.2.2.2.2.1,p0.2.2.2.2.2.2.2.2.1,p0.2.2.2.2.2.2.2.2.2.1,p0.2.2.2.2.2.2.2.2.2.2.1,p0.2.2.2.2.2.2.2.2.2.2.2.1,p0.2.2.2.2.2.2.2.2.2.2.2.2.1.set j67 (x.1,x.2.1,x.2.2.1,x.2.2.2.1,x.2.2.2.2.1,x.2.2.2.2.2.1,x.2.2.2.2.2.2.1,x.2.2.2.2.2.2.2.1,x.2.2.2.2.2.2.2.2.1,x.2.2.2.2.2.2.2.2.2.1,x.2.2.2.2.2.2.2.2.2.2.1,x.2.2.2.2.2.2.2.2.2.2.2.1,x.2.2.2.2.2.2.2.2.2.2.2.2.1,x.2.2.2.2.2.2.2.2.2.2.2.2.2.1,x.2.2.2.2.2.2.2.2.2.2.2.2.2.2.1,x.2.2.2.2.2.2.2.2.2.2.2.2.2.2.2.1,x.2.2.2.2.2.2.2.2.2.2.2.2.2.2.2.2.1,x.2.2.2.2.2.2.2.2.2.2.2.2.2.2.2.2.2.1,x.2.2.2.2.2.2.2.2.2.2.2.2.2.2.2.2.2.2.1,x.2.2.2.2.2.2.2.2.2.2.2.2.2.2.2.2.2.2.2.1,rJ (x15.2.2.2.2.2.2.2.2.2.2.2.2.2.2.2.2.2.2.2.2+1)),p0.2.2.2.2.2.2.2.2.2.2.2.2.2.1,p0.2.2.2.2.2.2.2.2.2.2.2.2.2.2) i1).bind λt71 =>
 some (t71,([]:List uV))))
def me:FL:=(181,⟨[.ptr tB (some false),.val false rQ false],[.val false (.one (.sl yp)) (some false)],λa=>gv a.1 a.2⟩)::md
theorem qL:Gd me:=rS qK 181 Tryz.f181 [] Tryz.func181
def gW (b0:rI) (p1:sj):Option Bool :=
 (aV b0).bind λt6 =>
 (cond t6
 ((bI p1).bind λt9 =>
 some t9)
 (some false)).bind λt10 =>
 (cond t10 (some (p1.1 != 162)) (some false)).bind λt15 =>
 some t15
def mf:FL:=(277,⟨[.val true s7 false,.val true ud false],[.val false sS (some true)],λa=>gW a.1 a.2⟩)::me
theorem qM:Gd mf:=rS qL 277 Tryz.f277 [] Tryz.func277
def af (l0:List Int):Option (List Int) :=
 (sf ([1,3,1]:List Int) l0).bind λzs5 =>
 some zs5
def mg:FL:=(307,⟨[.val false uw false],[.val false uw (some true)],λa=>af a⟩)::mf
theorem qN:Gd mg:=rS qM 307 Tryz.f307 [] Tryz.func307
def ah (n0:Int):Option vl :=
 some (2,n0,[],[])
def mh:FL:=(219,⟨[.val false rQ false],[.val true wR (some true)],λa=>ah a⟩)::mg
theorem qO:Gd mh:=rS qN 219 Tryz.f219 [] Tryz.func219
def aj (out0:List rK) (name1:List Int) (n2:Int):Option (List rK) :=
 (af name1).bind λt9 =>
 (ah n2).bind λt11 =>
 (sf out0 [(t9,t11.1,t11.2.1,t11.2.2.1,t11.2.2.2)]).bind λzs14 =>
 some zs14
def mi:FL:=(351,⟨[.val false (.one (.sl rX)) true,.val false uw false,.val false rQ false],[.val false (.one (.sl rX)) (some true)],λa=>aj a.1 a.2.1 a.2.2⟩)::mh
theorem qP:Gd mi:=rS qO 351 Tryz.f351 [] Tryz.func351
def gw (b0:rI) (c1:Int) (p2:Int):Option Int :=
 cond (c1==1)
 ((at? b0.2.2.1 p2).bind λx13 =>
 cond x13.1 (some 1) (some 0))
 (cond (c1==2)
 ((at? b0.2.2.1 p2).bind λx21 =>
 some x21.2.1)
 (cond (c1==3)
 ((fg b0.1 b0.2.2.1 p2).bind λt31 =>
 some t31)
 ((at? b0.2.2.2.2.2.1 p2).bind λx36 =>
 some x36)))
def mj:FL:=(352,⟨[.val true s7 false,.val false rQ false,.val false rQ false],[.val false rQ (some true)],λa=>gw a.1 a.2.1 a.2.2⟩)::mi
theorem qQ:Gd mj:=rS qP 352 Tryz.f352 [] Tryz.func352
def gX (r0:s5) (c1:Int):Option Int :=
 cond (c1==1) (some 1) (cond (c1==2) (some r0.2.1) (some r0.2.2))
def ml:FL:=(353,⟨[.val true tv false,.val false rQ false],[.val false rQ (some true)],λa=>gX a.1 a.2⟩)::mj
theorem qR:Gd ml:=rS qQ 353 Tryz.f353 [] Tryz.func353
def gY (p0:rI) (t4:Int) (t5:Int) (t3_1:List rK):Option ((Int×List rK)⊕(List rK)) :=
 cond (decide (t5<(p0.2.2.1.length:Int)))
 ((gw p0 t4 t5).bind λt59 =>
 (aj t3_1 [2,t4,rJ (t5+1)] t59).bind λt60 =>
 some (.inl (rJ (t5+1),t60)))
 (some (.inr t3_1))
def gZ (p0:rI) (t4:Int) (t3:List rK):Option ((Int×List rK)⊕(List rK)) :=
 cond (decide (t4<=4))
 ((loop (λz=>gY p0 t4 z.1 z.2) (0,t3)).bind λd =>
 some (.inl (rJ (t4+1),d)))
 (some (.inr t3))
def hC (p0:rI) (t6:Int) (t7:Int) (t3_5:List rK):Option ((Int×List rK)⊕(List rK)) :=
 cond (decide (t7<(p0.2.2.2.2.1.length:Int)))
 ((at? p0.2.2.2.2.1 t7).bind λx79 =>
 (at? p0.2.2.2.2.1 t7).bind λx87 =>
 (gX x87 t6).bind λt90 =>
 (aj t3_5 [3,t6,x79.1] t90).bind λt91 =>
 some (.inl (rJ (t7+1),t91)))
 (some (.inr t3_5))
def fo (p0:rI) (t6:Int) (t3_4:List rK):Option ((Int×List rK)⊕(List rK)) :=
 cond (decide (t6<=3))
 ((loop (λz=>hC p0 t6 z.1 z.2) (0,t3_4)).bind λd_2 =>
 some (.inl (rJ (t6+1),d_2)))
 (some (.inr t3_4))
def hN (p0:rI) (t8:Int) (t3_8:List rK):Option ((Int×List rK)⊕(List rK)) :=
 cond (decide (t8<(p0.2.2.2.1.length:Int)))
 ((at? p0.2.2.2.1 t8).bind λx103 =>
 (at? p0.2.2.2.1 t8).bind λx109 =>
 (at? p0.2.2.2.1 t8).bind λx116 =>
 (aj t3_8 [4,1,x103.1,x109.2.1] (rJ (x116.2.2.1+1))).bind λt120 =>
 some (.inl (rJ (t8+1),t120)))
 (some (.inr t3_8))
def cL (p0:rI):Option (List rK) :=
 (aV p0).bind λt10 =>
 cond (!t10)
 (some ([]:List rK))
 ((af ([1,1]:List Int)).bind λt14 =>
 (aj ([(t14,4,0,p0.2.1,[])]) ([1,2]:List Int) p0.2.2.2.2.2.2.1).bind λt24 =>
 (aj t24 ([1,3]:List Int) p0.2.2.2.2.2.2.2.1).bind λt29 =>
 (aj t29 ([1,4]:List Int) p0.2.2.2.2.2.2.2.2.1).bind λt34 =>
 (aj t34 ([1,5]:List Int) p0.2.2.2.2.2.2.2.2.2.1).bind λt39 =>
 (loop (λz=>gZ p0 z.1 z.2) (1,t39)).bind λd_1 =>
 (loop (λz=>fo p0 z.1 z.2) (1,d_1)).bind λd_3 =>
 (loop (λz=>hN p0 z.1 z.2) (0,d_3)).bind λd_4 =>
 some d_4)
def mn:FL:=(306,⟨[.val true s7 false],[.val false (.one (.sl rX)) (some true)],λa=>cL a⟩)::ml
theorem qS:Gd mn:=rS qR 306 Tryz.f306 [(0,⟨⟨[(3,false,[.own 1000000000]),(4,false,[dI])],[(1000000000,.root rX true)]⟩,
 ⟨[(3,false,[.own 1000000300])],[(1000000300,.root rX true)]⟩,none⟩),
 (2,⟨⟨[(3,false,[.own 1000002000]),(5,false,[dI])],[(1000002000,.root rX true)]⟩,
 ⟨[(3,false,[.own 1000002300])],[(1000002300,.root rX true)]⟩,none⟩),
 (4,⟨⟨[(3,false,[.own 1000004000]),(6,false,[dI])],[(1000004000,.root rX true)]⟩,
 ⟨[(3,false,[.own 1000004300])],[(1000004300,.root rX true)]⟩,none⟩),
 (6,⟨⟨[(3,false,[.own 1000006000]),(7,false,[dI])],[(1000006000,.root rX true)]⟩,
 ⟨[(3,false,[.own 1000006300])],[(1000006300,.root rX true)]⟩,none⟩),
 (8,⟨⟨[(3,false,[.own 1000008000]),(8,false,[dI])],[(1000008000,.root rX true)]⟩,
 ⟨[(3,false,[.own 1000008300])],[(1000008300,.root rX true)]⟩,none⟩)] Tryz.func306
def qT (a0:List Int) (b1:List Int) (i5:Int):Option (Int⊕(Unit⊕Bool)) :=
 (cond (decide (i5<(a0.length:Int))) (some (decide (i5<(b1.length:Int)))) (some false)).bind λt15 =>
 cond t15
 ((at? a0 i5).bind λx20 =>
 (at? b1 i5).bind λx24 =>
 cond (x20 != x24)
 ((at? a0 i5).bind λx29 =>
 (at? b1 i5).bind λx33 =>
 some (.inr (.inr (decide (x29<x33)))))
 (some (.inl (rJ (i5+1)))))
 (some (.inr (.inl ())))
def hU (a0:List Int) (b1:List Int):Option Bool :=
 (loop (λz=>qT a0 b1 z) 0).bind (Sum.elim (λd =>
 let t4:=decide ((a0.length:Int)<(b1.length:Int))
 some t4) (λr=>some r))
def mo:FL:=(386,⟨[.val false uw false,.val false uw false],[.val false sS (some true)],λa=>hU a.1 a.2⟩)::mn
theorem qU:Gd mo:=rS qS 386 Tryz.f386 [(0,⟨⟨(5,false,[dI])::us 11 4 [],[]⟩,
 ⟨[],[]⟩,some ⟨[(4,false,[dB])],[]⟩⟩)] Tryz.func386
def hZ (o1:List Int) (t8:List rK) (i6:Int) (b1:Int) (b2:Int) (b3:List UInt8) (b0_1:List Int) (b4:List Int):Option ((Int×Int×Int×List UInt8×List Int×List Int)⊕((Int×Int×List UInt8×List Int×List Int)⊕(List Int×Int×Int×List UInt8×List Int))) :=
 cond (decide (i6<(t8.length:Int)))
 ((ix t8.length i6).bind λj18 =>
 (t8[j18]?).bind λx20 =>
 (hU o1 x20.1).bind λt21 =>
 cond t21
 ((ix t8.length i6).bind λj24 =>
 (t8[j24]?).bind λx25 =>
 some (.inr (.inr x25)))
 (some (.inl (rJ (i6+1),b1,b2,b3,b0_1,b4))))
 (some (.inr (.inl (b1,b2,b3,b0_1,b4))))
def gx (b0:rI) (o1:List Int):Option rK :=
 (cL b0).bind λt8 =>
 (loop (λz=>hZ o1 t8 z.1 z.2.1 z.2.2.1 z.2.2.2.1 z.2.2.2.2.1 z.2.2.2.2.2) (0,0,0,[],[],[])).bind (Sum.elim (λd =>
 (sf ([]:List Int) o1).bind λzs28 =>
 some (zs28,130,0,[],[])) (λr=>some r))
def mp:FL:=(368,⟨[.val true s7 false,.val false uw false],[.val true rX none],λa=>gx a.1 a.2⟩)::mo
theorem qV:Gd mp:=rS qU 368 Tryz.f368 [(0,⟨⟨[(6,false,[dI])],[(2048,.box [.own 1000000000,dI,dI,dS,.own 1000000001]),(1000000000,.root rQ true),(1000000001,.root rQ true)]⟩,
 ⟨[],[(2048,.box [.own 1000000300,dI,dI,dS,.own 1000000301]),(1000000300,.root rQ true),(1000000301,.root rQ true)]⟩,some ⟨[],[(2048,.box [.dat (.sl rQ),dI,dI,dS,.dat (.sl rQ)])]⟩⟩)] Tryz.func368
def fp (b0:rI) (from1:List rK) (i6:Int) (out5:List rK):Option ((Int×List rK)⊕(List rK)) :=
 cond (decide (i6<(from1.length:Int)))
 ((at? from1 i6).bind λx16 =>
 cond (x16.2.1==130)
 ((at? from1 i6).bind λx24 =>
 (sf out5 [x24]).bind λzs27 =>
 some (.inl (rJ (i6+1),zs27)))
 ((at? from1 i6).bind λx32 =>
 (gx b0 x32.1).bind λt35 =>
 (sf out5 [t35]).bind λzs37 =>
 some (.inl (rJ (i6+1),zs37))))
 (some (.inr out5))
def br (b0:rI) (from1:List rK):Option (List rK) :=
 (loop (λz=>fp b0 from1 z.1 z.2) (0,([]:List rK))).bind λd =>
 some d
def mq:FL:=(336,⟨[.val true s7 false,.val false (.one (.sl rX)) false],[.val false (.one (.sl rX)) (some false)],λa=>br a.1 a.2⟩)::mp
theorem qW:Gd mq:=rS qV 336 Tryz.f336 [(0,⟨⟨[(5,false,[.own 1000000000]),(6,false,[dI])],[(1000000000,.root rX false)]⟩,
 ⟨[(5,false,[.own 1000000300])],[(1000000300,.root rX false)]⟩,none⟩)] Tryz.func336
def fq (l0:List rK) (i4:Int) (out3:List rK):Option ((Int×List rK)⊕(List rK)) :=
 cond (decide (i4<(l0.length:Int)))
 ((at? l0 i4).bind λx15 =>
 (sf out3 ([(x15.1,5,0,[],[])])).bind λzs21 =>
 some (.inl (rJ (i4+1),zs21)))
 (some (.inr out3))
def cM (l0:List rK):Option (List rK) :=
 (loop (λz=>fq l0 z.1 z.2) (0,([]:List rK))).bind λd =>
 some d
def mr:FL:=(337,⟨[.val false (.one (.sl rX)) false],[.val false (.one (.sl rX)) (some false)],λa=>cM a⟩)::mq
theorem qX:Gd mr:=rS qW 337 Tryz.f337 [(0,⟨⟨[(3,false,[.own 1000000000]),(4,false,[dI])],[(1000000000,.root rX false)]⟩,
 ⟨[(3,false,[.own 1000000300])],[(1000000300,.root rX false)]⟩,none⟩)] Tryz.func337
def bL (b0:rI) (p1:sj) (told8:List rK) (i9:Int) (out7:List rK):Option ((List rK×Int×List rK)⊕(List rK)) :=
 (cond (decide (i9<p1.2.2.2.1)) (some (decide ((told8.length:Int)>0))) (some false)).bind λt39 =>
 (cond t39 (some (decide ((out7.length:Int)<10))) (some false)).bind λt44 =>
 cond t44
 ((br b0 told8).bind λt49 =>
 (sf out7 t49).bind λzs52 =>
 some (.inl (t49,rJ (i9+1),zs52)))
 (some (.inr out7))
def qY (b0:rI) (p1:sj) (told8_1:List rK) (i9_1:Int) (out7_2:List rK):Option ((List rK×Int×List rK)⊕(List rK)) :=
 (cond (decide (i9_1<p1.2.2.2.1)) (some (decide ((told8_1.length:Int)>0))) (some false)).bind λt39_1 =>
 (cond t39_1 (some (decide ((out7_2.length:Int)<10))) (some false)).bind λt44_1 =>
 cond t44_1
 ((br b0 told8_1).bind λt49_1 =>
 (sf out7_2 t49_1).bind λzs52_1 =>
 some (.inl (t49_1,rJ (i9_1+1),zs52_1)))
 (some (.inr out7_2))
def gy (b0:rI) (p1:sj):Option (List rK) :=
 cond (decide (p1.2.2.1>(p1.2.2.2.2.length:Int)))
 (let k5:=(p1.2.2.2.2.length:Int)
 (cM p1.2.2.2.2).bind λt22 =>
 (tF t22.length 0 k5).bind λp =>
 (br b0 ((t22.take p.2).drop p.1)).bind λt27 =>
 (cut t22 k5 (t22.length:Int)).bind λt30 =>
 (loop (λz=>bL b0 p1 z.1 z.2.1 z.2.2) (t30,0,t27)).bind λd =>
 cond (decide ((d.length:Int)>10))
 ((tF d.length 0 10).bind λp_1 =>
 some ((d.take p_1.2).drop p_1.1))
 (some d))
 ((cM p1.2.2.2.2).bind λt22_1 =>
 (tF t22_1.length 0 p1.2.2.1).bind λp_2 =>
 (br b0 ((t22_1.take p_2.2).drop p_2.1)).bind λt27_1 =>
 (cut t22_1 p1.2.2.1 (t22_1.length:Int)).bind λt30_1 =>
 (loop (λz=>qY b0 p1 z.1 z.2.1 z.2.2) (t30_1,0,t27_1)).bind λd_1 =>
 cond (decide ((d_1.length:Int)>10))
 ((tF d_1.length 0 10).bind λp_3 =>
 some ((d_1.take p_3.2).drop p_3.1))
 (some d_1))
def mt:FL:=(338,⟨[.val true s7 false,.val true ud false],[.val false (.one (.sl rX)) (some false)],λa=>gy a.1 a.2⟩)::mr
theorem qZ:Gd mt:=rS qX 338 Tryz.f338 [(0,⟨⟨(7,false,[.own 1000000000])::(8,false,[.dat (.sl rX)])::(9,false,[dI])::us 36 3 (us 41 3 []),[(1000000000,.root rX false)]⟩,
 ⟨[(7,false,[.own 1000000300])],[(1000000300,.root rX false)]⟩,none⟩)] Tryz.func338
def ia (o1:List Int) (t8:List rK) (i6:Int) (b0_1:Int) (b1:Int) (b2:List UInt8) (b3:List Int):Option ((Int×Int×Int×List UInt8×List Int)⊕((Int×Int×List UInt8×List Int)⊕(Int×Int×List UInt8×List Int))) :=
 cond (decide (i6<(t8.length:Int)))
 ((ix t8.length i6).bind λj17 =>
 (t8[j17]?).bind λx19 =>
 (cK x19.1 o1).bind λt21 =>
 cond t21
 ((ix t8.length i6).bind λj24 =>
 (t8[j24]?).bind λx26 =>
 some (.inr (.inr x26.2)))
 (some (.inl (rJ (i6+1),b0_1,b1,b2,b3))))
 (some (.inr (.inl (b0_1,b1,b2,b3))))
def gz (b0:rI) (o1:List Int):Option vl :=
 (cL b0).bind λt8 =>
 (loop (λz=>ia o1 t8 z.1 z.2.1 z.2.2.1 z.2.2.2.1 z.2.2.2.2) (0,0,0,[],[])).bind (Sum.elim (λd =>
 some (128,0,[],[])) (λr=>some r))
def mu:FL:=(339,⟨[.val true s7 false,.val false uw false],[.val true wR none],λa=>gz a.1 a.2⟩)::mt
theorem r7:Gd mu:=rS qZ 339 Tryz.f339 [(0,⟨⟨[(6,false,[dI])],[(2048,.box [dI,dI,dS,.own 1000000000]),(1000000000,.root rQ true)]⟩,
 ⟨[],[(2048,.box [dI,dI,dS,.own 1000000300]),(1000000300,.root rQ true)]⟩,some ⟨[],[(2048,.box [dI,dI,dS,.dat (.sl rQ)])]⟩⟩)] Tryz.func339
def e9 (b0:rI) (p1:sj) (i6:Int) (out5:List rK):Option ((Int×List rK)⊕(List rK)) :=
 cond (decide (i6<(p1.2.2.2.2.length:Int)))
 ((at? p1.2.2.2.2 i6).bind λx34 =>
 (sf ([]:List Int) x34.1).bind λzs37 =>
 (at? p1.2.2.2.2 i6).bind λx42 =>
 (gz b0 x42.1).bind λt45 =>
 (sf out5 [(zs37,t45.1,t45.2.1,t45.2.2.1,t45.2.2.2)]).bind λzs48 =>
 some (.inl (rJ (i6+1),zs48)))
 (some (.inr out5))
def gA (b0:rI) (p1:sj):Option (List rK) :=
 cond (p1.1==161)
 ((cM p1.2.2.2.2).bind λt14 =>
 (br b0 t14).bind λt15 =>
 some t15)
 (cond (p1.1==165)
 ((gy b0 p1).bind λt20 =>
 some t20)
 ((loop (λz=>e9 b0 p1 z.1 z.2) (0,([]:List rK))).bind λd =>
 some d))
def mw:FL:=(278,⟨[.val true s7 false,.val true ud false],[.val false (.one (.sl rX)) (some false)],λa=>gA a.1 a.2⟩)::mu
theorem r8:Gd mw:=rS r7 278 Tryz.f278 [(1,⟨⟨[(5,false,[.own 1000001000]),(6,false,[dI])],[(1000001000,.root rX false)]⟩,
 ⟨[(5,false,[.own 1000001300])],[(1000001300,.root rX false)]⟩,none⟩)] Tryz.func278
def gB (b0:rI) (p1:sj):Option (rI×sj×Bool) :=
 (gW b0 p1).bind λt12 =>
 cond (!t12)
 ((ap b0).bind λt15 =>
 some (t15,(0,0,0,0,[]),false))
 (cond (p1.1==163)
 ((fm b0 p1).bind λt23 =>
 some (t23.1,t23.2,true))
 ((gA b0 p1).bind λt32 =>
 (cD t32).bind λt33 =>
 (ap b0).bind λt36 =>
 (cJ (162,p1.2.1,0,0,t33) (p1.1==165)).bind λt41 =>
 some (t36,t41,true)))
def my:FL:=(182,⟨[.val true s7 false,.val true ud false],[.val true s7 (some true),.val true ud (some true),.val false sS (some true)],λa=>gB a.1 a.2⟩)::mw
theorem r9:Gd my:=rS r8 182 Tryz.f182 [] Tryz.func182
def gC (p0:s9) (i1:Int):Option (s9×List uV) :=
 (ix p0.2.2.2.2.2.2.2.2.2.2.2.2.1.length i1).bind λj14 =>
 (p0.2.2.2.2.2.2.2.2.2.2.2.2.1[j14]?).bind λx15 =>
 cond (x15.2.2.1==0)
 ((dW p0 i1).bind λt35 =>
 some (t35,([]:List uV)))
 ((cond (x15.2.2.1==1)
 (some (decide (x15.2.2.2.2.2.2.2.2.2.2.2.2.2.2.2.2.2.2.2.1<(x15.2.2.2.2.2.2.2.1.length:Int))))
 (some false)).bind λt48 =>
 cond t48
 ((ix p0.2.2.2.2.2.2.2.2.2.2.2.2.1.length i1).bind λj57 =>
 (p0.2.2.2.2.2.2.2.2.2.2.2.2.1[j57]?).bind λx =>
 some ((p0.1,p0.2.1,p0.2.2.1,p0.2.2.2.1,p0.2.2.2.2.1,p0.2.2.2.2.2.1,p0.2.2.2.2.2.2.1,p0.2.2.2.2.2.2.2.1,p0.2.2.2.2.2.2.2.2.1,p0.2.2.2.2.2.2.2.2.2.1,p0.2.2.2.2.2.2.2.2.2.2.1,p0.2.2.2.2.2.2.2.2.2.2.2.1,p0.2.2.2.2.2.2.2.2.2.2.2.2.1.set j57 (x.1,x.2.1,x.2.2.1,x.2.2.2.1,x.2.2.2.2.1,x.2.2.2.2.2.1,x.2.2.2.2.2.2.1,x.2.2.2.2.2.2.2.1,x.2.2.2.2.2.2.2.2.1,x.2.2.2.2.2.2.2.2.2.1,x.2.2.2.2.2.2.2.2.2.2.1,x.2.2.2.2.2.2.2.2.2.2.2.1,x.2.2.2.2.2.2.2.2.2.2.2.2.1,x.2.2.2.2.2.2.2.2.2.2.2.2.2.1,x.2.2.2.2.2.2.2.2.2.2.2.2.2.2.1,x.2.2.2.2.2.2.2.2.2.2.2.2.2.2.2.1,x.2.2.2.2.2.2.2.2.2.2.2.2.2.2.2.2.1,x.2.2.2.2.2.2.2.2.2.2.2.2.2.2.2.2.2.1,x.2.2.2.2.2.2.2.2.2.2.2.2.2.2.2.2.2.2.1,rJ (x15.2.2.2.2.2.2.2.2.2.2.2.2.2.2.2.2.2.2.2.1+1),x.2.2.2.2.2.2.2.2.2.2.2.2.2.2.2.2.2.2.2.2),p0.2.2.2.2.2.2.2.2.2.2.2.2.2.1,p0.2.2.2.2.2.2.2.2.2.2.2.2.2.2),([]:List uV)))
 (cond (x15.2.2.1==1)
 ((ix p0.2.2.2.2.2.2.2.2.2.2.2.2.1.length i1).bind λj68 =>
 (p0.2.2.2.2.2.2.2.2.2.2.2.2.1[j68]?).bind λx_1 =>
 some ((p0.1,p0.2.1,p0.2.2.1,p0.2.2.2.1,p0.2.2.2.2.1,p0.2.2.2.2.2.1,p0.2.2.2.2.2.2.1,p0.2.2.2.2.2.2.2.1,p0.2.2.2.2.2.2.2.2.1,p0.2.2.2.2.2.2.2.2.2.1,p0.2.2.2.2.2.2.2.2.2.2.1,p0.2.2.2.2.2.2.2.2.2.2.2.1,p0.2.2.2.2.2.2.2.2.2.2.2.2.1.set j68 (x_1.1,x_1.2.1,2,x_1.2.2.2.1,x_1.2.2.2.2.1,x_1.2.2.2.2.2.1,x_1.2.2.2.2.2.2.1,x_1.2.2.2.2.2.2.2.1,x_1.2.2.2.2.2.2.2.2.1,x_1.2.2.2.2.2.2.2.2.2.1,x_1.2.2.2.2.2.2.2.2.2.2.1,x_1.2.2.2.2.2.2.2.2.2.2.2.1,x_1.2.2.2.2.2.2.2.2.2.2.2.2.1,x_1.2.2.2.2.2.2.2.2.2.2.2.2.2.1,x_1.2.2.2.2.2.2.2.2.2.2.2.2.2.2.1,x_1.2.2.2.2.2.2.2.2.2.2.2.2.2.2.2.1,x_1.2.2.2.2.2.2.2.2.2.2.2.2.2.2.2.2.1,x_1.2.2.2.2.2.2.2.2.2.2.2.2.2.2.2.2.2.1,x_1.2.2.2.2.2.2.2.2.2.2.2.2.2.2.2.2.2.2.1,x_1.2.2.2.2.2.2.2.2.2.2.2.2.2.2.2.2.2.2.2.1,x_1.2.2.2.2.2.2.2.2.2.2.2.2.2.2.2.2.2.2.2.2),p0.2.2.2.2.2.2.2.2.2.2.2.2.2.1,p0.2.2.2.2.2.2.2.2.2.2.2.2.2.2),([]:List uV)))
 (cond (x15.2.2.2.1==163)
 ((gv p0 i1).bind λt77 =>
 some t77)
 ((gB (x15.2.2.2.2.2.2.2.2.1,x15.2.2.2.2.2.2.2.2.2.1,x15.2.2.2.2.2.2.2.2.2.2.1,x15.2.2.2.2.2.2.2.2.2.2.2.1,x15.2.2.2.2.2.2.2.2.2.2.2.2.1,x15.2.2.2.2.2.2.2.2.2.2.2.2.2.1,x15.2.2.2.2.2.2.2.2.2.2.2.2.2.2.1,x15.2.2.2.2.2.2.2.2.2.2.2.2.2.2.2.1,x15.2.2.2.2.2.2.2.2.2.2.2.2.2.2.2.2.1,x15.2.2.2.2.2.2.2.2.2.2.2.2.2.2.2.2.2.1,x15.2.2.2.2.2.2.2.2.2.2.2.2.2.2.2.2.2.2.1) (x15.2.2.2.1,x15.2.2.2.2.1,x15.2.2.2.2.2.1,x15.2.2.2.2.2.2.1,x15.2.2.2.2.2.2.2.1)).bind λt21 =>
 (dX p0 i1 t21.2.1).bind λt28 =>
 some t28))))
def mz:FL:=(108,⟨[.ptr tB (some false),.val false rQ false],[.val false (.one (.sl yp)) (some false)],λa=>gC a.1 a.2⟩)::my
theorem ra:Gd mz:=rS r9 108 Tryz.f108 [] Tryz.func108
def bt (a0:s9) (k1:Int):Option (s9×List uV) :=
 (f0 a0).bind λt9 =>
 (dP a0).bind λt11 =>
 (cond (!t11)
 (some true)
 ((ae k1 0 (rJ ((a0.2.2.2.2.2.2.2.2.2.2.2.2.1.length:Int)-1))).bind λt19 =>
 some (!t19))).bind λt21 =>
 cond t21
 (some (t9,([]:List uV)))
 ((gC t9 k1).bind λt25 =>
 some t25)
def mC:FL:=(30,⟨[.val true tB false,.val false rQ false],[.val true tB (some false),.val false (.one (.sl yp)) (some false)],λa=>bt a.1 a.2⟩)::mz
theorem rb:Gd mC:=rS ra 30 Tryz.f30 [] Tryz.func30
def cN (c0:sc):Option (sc×Int) :=
 let x3:=vn .i64 (Lg .i64 ((rJ ((rJ (c0.2.2*6364136223846793005))+1442695040888963407)).fdiv (2^33)) ((rJ ((rJ (c0.2.2*6364136223846793005))+1442695040888963407)).fdiv (2^47))) 255
 cond (decide (c0.2.1<(c0.1.length:Int)))
 ((at? c0.1 c0.2.1).bind λx44 =>
 let x3_1:=vn .i64 (rJ (x3+(rJ (x44)))) 255
 some ((c0.1,rJ (c0.2.1+1),rJ ((rJ (c0.2.2*6364136223846793005))+1442695040888963407)),x3_1))
 (some ((c0.1,c0.2.1,rJ ((rJ (c0.2.2*6364136223846793005))+1442695040888963407)),x3))
def mD:FL:=(136,⟨[.ptr uc none],[.val false rQ (some true)],λa=>cN a⟩)::mC
theorem re:Gd mD:=rS rb 136 Tryz.f136 [] Tryz.func136
def aa (c0:sc) (n1:Int):Option (sc×Int) :=
 cond (decide (n1<=0))
 (some (c0,0))
 (cond (decide (n1<=256))
 ((cN c0).bind λt13 =>
 (rem t13.2 n1).bind λt15 =>
 some (t13.1,t15))
 ((cN c0).bind λt17 =>
 (cN t17.1).bind λt19 =>
 (cN t19.1).bind λt21 =>
 (rem (rJ ((rJ ((rJ (t17.2*65536))+(rJ (t19.2*256))))+t21.2)) n1).bind λt30 =>
 some (t21.1,t30)))
def mE:FL:=(64,⟨[.ptr uc none,.val false rQ false],[.val false rQ (some true)],λa=>aa a.1 a.2⟩)::mD
theorem rf:Gd mE:=rS re 64 Tryz.f64 [] Tryz.func64
def ai (c0:sc) (list1:List Int):Option (sc×Int) :=
 (aa c0 (list1.length:Int)).bind λt9 =>
 (at? list1 t9.2).bind λx10 =>
 some (t9.1,x10)
def mF:FL:=(131,⟨[.ptr uc none,.val false uw false],[.val false rQ (some true)],λa=>ai a.1 a.2⟩)::mE
theorem rj:Gd mF:=rS rf 131 Tryz.f131 [] Tryz.func131
def cO (c0:sc):Option (sc×Int) :=
 (aa c0 1000).bind λt5 =>
 (ai t5.1 [0,1,(-1),127,128,(-128),(-129),255,256,32767,32768,(-32769),8388608,2147483647,(-2147483648),2147483648,(-2147483649),9223372036854775807,(-9223372036854775808),t5.2]).bind λt7 =>
 some t7
def mG:FL:=(133,⟨[.ptr uc none],[.val false rQ (some true)],λa=>cO a⟩)::mF
theorem rk:Gd mG:=rS rj 133 Tryz.f133 [] Tryz.func133
def ea (i4:Int) (b0:List Int) (b1:Int) (b2:Int) (out3:List Int):Option ((Int×List Int×Int×Int×List Int)⊕(List Int×Int×Int×List Int)) :=
 cond (decide (i4>0))
 ((ai (b0,b1,b2) ([0,1,2,3,127,128,16384,100000]:List Int)).bind λt16 =>
 (sf out3 [t16.2]).bind λzs18 =>
 some (.inl (rJ (i4-1),t16.1.1,t16.1.2.1,t16.1.2.2,zs18)))
 (some (.inr (b0,b1,b2,out3)))
def aS (c0:sc):Option (sc×List Int) :=
 (aa c0 6).bind λt7 =>
 (loop (λz=>ea z.1 z.2.1 z.2.2.1 z.2.2.2.1 z.2.2.2.2) (rJ (1+t7.2),t7.1.1,t7.1.2.1,t7.1.2.2,([]:List Int))).bind λd =>
 some ((d.1,d.2.1,d.2.2.1),d.2.2.2)
def mH:FL:=(134,⟨[.ptr uc none],[.val false uw (some true)],λa=>aS a⟩)::mG
theorem rl:Gd mH:=rS rk 134 Tryz.f134 [(0,⟨⟨[(3,false,[.own 1000000000]),(4,false,[dI])],[(1,.box [.dat (.sl (.one (.int .u8))),dI,dI]),(1000000000,.root rQ true)]⟩,
 ⟨[(3,false,[.own 1000000300])],[(1,.box [.dat (.sl (.one (.int .u8))),dI,dI]),(1000000300,.root rQ true)]⟩,none⟩)] Tryz.func134
def aU (c0:sc) (list1:List (List UInt8)):Option (sc×List UInt8) :=
 (aa c0 (list1.length:Int)).bind λt9 =>
 (at? list1 t9.2).bind λx10 =>
 some (t9.1,x10)
def mI:FL:=(59,⟨[.ptr uc none,.val false (.one (.sl FT)) false],[.val false FT (some true)],λa=>aU a.1 a.2⟩)::mH
theorem rm:Gd mI:=rS rl 59 Tryz.f59 [] Tryz.func59
def aD (c0:sc):Option (sc×vl) :=
 (aa c0 6).bind λt4 =>
 cond (t4.2==0)
 (some (t4.1,(5,0,[],[])))
 (cond (t4.2==1)
 (cond (t4.2==1)
 ((cO t4.1).bind λt12 =>
 (ax t12.2).bind λt13 =>
 (ah t13).bind λt14 =>
 some (t12.1,t14))
 (cond (t4.2==3)
 ((aU t4.1 ([[],[97],[121,97,114,100],[0]]:List (List UInt8))).bind λt19 =>
 some (t19.1,(4,0,t19.2,[])))
 (cond (t4.2==4)
 ((aS t4.1).bind λt24 =>
 some (t24.1,(6,0,[],t24.2)))
 ((ai t4.1 ([128,130]:List Int)).bind λt28 =>
 some (t28.1,(t28.2,0,[],[]))))))
 (cond (t4.2==2)
 ((cO t4.1).bind λt12_1 =>
 (ax t12_1.2).bind λt13_1 =>
 (ah t13_1).bind λt14_1 =>
 some (t12_1.1,t14_1))
 (cond (t4.2==3)
 ((aU t4.1 ([[],[97],[121,97,114,100],[0]]:List (List UInt8))).bind λt19_1 =>
 some (t19_1.1,(4,0,t19_1.2,[])))
 (cond (t4.2==4)
 ((aS t4.1).bind λt24_1 =>
 some (t24_1.1,(6,0,[],t24_1.2)))
 ((ai t4.1 ([128,130]:List Int)).bind λt28_1 =>
 some (t28_1.1,(t28_1.2,0,[],[])))))))
def mJ:FL:=(135,⟨[.ptr uc none],[.val true wR (some true)],λa=>aD a⟩)::mI
theorem rn:Gd mJ:=rS rm 135 Tryz.f135 [] Tryz.func135
def cP (i4:Int) (b0:List Int) (b1:Int) (b2:Int) (b0_1:Int) (b1_1:Int) (b2_1:Int) (b3:Int) (b4:List rK):Option ((Int×List Int×Int×Int×Int×Int×Int×Int×List rK)⊕(List Int×Int×Int×Int×Int×Int×Int×List rK)) :=
 cond (decide (i4>0))
 ((aS (b0,b1,b2)).bind λt35 =>
 (aD t35.1).bind λt37 =>
 (sf b4 [(t35.2,t37.2.1,t37.2.2.1,t37.2.2.2.1,t37.2.2.2.2)]).bind λzs40 =>
 some (.inl (rJ (i4-1),t37.1.1,t37.1.2.1,t37.1.2.2,b0_1,b1_1,b2_1,b3,zs40)))
 (some (.inr (b0,b1,b2,b0_1,b1_1,b2_1,b3,b4)))
def cQ (i4_1:Int) (b0_4:List Int) (b1_4:Int) (b2_4:Int) (b0_5:Int) (b1_5:Int) (b2_5:Int) (b3_2:Int) (b4_2:List rK):Option ((Int×List Int×Int×Int×Int×Int×Int×Int×List rK)⊕(List Int×Int×Int×Int×Int×Int×Int×List rK)) :=
 cond (decide (i4_1>0))
 ((aS (b0_4,b1_4,b2_4)).bind λt35_1 =>
 (aD t35_1.1).bind λt37_1 =>
 (sf b4_2 [(t35_1.2,t37_1.2.1,t37_1.2.2.1,t37_1.2.2.2.1,t37_1.2.2.2.2)]).bind λzs40_1 =>
 some (.inl (rJ (i4_1-1),t37_1.1.1,t37_1.1.2.1,t37_1.1.2.2,b0_5,b1_5,b2_5,b3_2,zs40_1)))
 (some (.inr (b0_4,b1_4,b2_4,b0_5,b1_5,b2_5,b3_2,b4_2)))
def cm (c0:sc):Option (sc×sj) :=
 (ai c0 ([160,161,162,163,165]:List Int)).bind λt7 =>
 (cO t7.1).bind λt9 =>
 (ax t9.2).bind λt10 =>
 (cond (t7.2==162) (some true) (some (t7.2==165))).bind λt19 =>
 cond t19
 ((aa t9.1 4).bind λt21 =>
 (aa t21.1 5).bind λt24 =>
 (aa t24.1 4).bind λt27 =>
 (loop (λz=>cP z.1 z.2.1 z.2.2.1 z.2.2.2.1 z.2.2.2.2.1 z.2.2.2.2.2.1 z.2.2.2.2.2.2.1 z.2.2.2.2.2.2.2.1 z.2.2.2.2.2.2.2.2) (t27.2,t27.1.1,t27.1.2.1,t27.1.2.2,t7.2,t10,t21.2,t24.2,[])).bind λd =>
 some ((d.1,d.2.1,d.2.2.1),d.2.2.2))
 ((aa t9.1 4).bind λt27_1 =>
 (loop (λz=>cQ z.1 z.2.1 z.2.2.1 z.2.2.2.1 z.2.2.2.2.1 z.2.2.2.2.2.1 z.2.2.2.2.2.2.1 z.2.2.2.2.2.2.2.1 z.2.2.2.2.2.2.2.2) (t27_1.2,t27_1.1.1,t27_1.1.2.1,t27_1.1.2.2,t7.2,t10,0,0,[])).bind λd_1 =>
 some ((d_1.1,d_1.2.1,d_1.2.2.1),d_1.2.2.2))
def mK:FL:=(60,⟨[.ptr uc none],[.val true ud (some true)],λa=>cm a⟩)::mJ
theorem rp:Gd mK:=rS rn 60 Tryz.f60 [(0,⟨⟨[(4,false,[dI])],[(1,.box [.dat (.sl (.one (.int .u8))),dI,dI]),(270336,.box [dI,dI,dI,dI,.own 1000000000]),(1000000000,.root rX true)]⟩,
 ⟨[],[(1,.box [.dat (.sl (.one (.int .u8))),dI,dI]),(270336,.box [dI,dI,dI,dI,.own 1000000300]),(1000000300,.root rX true)]⟩,none⟩)] Tryz.func60
def eu (c0:sc) (b1:List Int):Option (sc×List Int) :=
 cond ((b1.length:Int)==0)
 (some (c0,b1))
 ((aa c0 5).bind λt10 =>
 cond (t10.2==0)
 ((aa t10.1 (b1.length:Int)).bind λt17 =>
 (ai t17.1 ([0,1,2,4,5,6,48,127,128,129,160,255]:List Int)).bind λt20 =>
 (ix b1.length t17.2).bind λj22 =>
 (b1[j22]?).bind λx =>
 some (t20.1,b1.set j22 (IntKind.u8.wrap (t20.2))))
 (cond (t10.2==1)
 ((sf b1 ([3]:List Int)).bind λzs27 =>
 some (t10.1,zs27))
 (cond (t10.2==2)
 ((aa t10.1 (b1.length:Int)).bind λt34 =>
 (tF b1.length 0 t34.2).bind λp =>
 some (t34.1,(b1.take p.2).drop p.1))
 (some (t10.1,b1)))))
def mL:FL:=(66,⟨[.ptr uc none,.val false tb true],[.val false tb none],λa=>eu a.1 a.2⟩)::mK
theorem rq:Gd mL:=rS rp 66 Tryz.f66 [] Tryz.func66
def bQ (word0:List UInt8) (p1:sj):Option (List Int) :=
 (dj p1).bind λt8 =>
 (cond ((t8.length:Int)==0) (some true) (some (decide ((word0.length:Int)>20)))).bind λt16 =>
 cond t16
 (some ([]:List Int))
 ((aK 1).bind λt19 =>
 (ak ([]:List Int) 2 t19).bind λt20 =>
 (ak t20 4 (uF word0)).bind λt23 =>
 (sf t23 t8).bind λzs25 =>
 cond (decide ((zs25.length:Int)>250))
 (some ([]:List Int))
 ((ak ([]:List Int) 48 zs25).bind λt32 =>
 some t32))
def mM:FL:=(67,⟨[.val false FT false,.val true ud false],[.val false tb (some true)],λa=>bQ a.1 a.2⟩)::mL
theorem rr:Gd mM:=rS rq 67 Tryz.f67 [] Tryz.func67
def bb (c0:sc) (n1:Int):Option (sc×Bool) :=
 (aa c0 n1).bind λt7 =>
 some (t7.1,t7.2==0)
def mN:FL:=(61,⟨[.ptr uc none,.val false rQ false],[.val false sS (some true)],λa=>bb a.1 a.2⟩)::mM
theorem ru:Gd mN:=rS rr 61 Tryz.f61 [] Tryz.func61
def ay (c0:sc) (b1:rI):Option (sc×List Int) :=
 (cL b1).bind λt7 =>
 cond (decide ((t7.length:Int)>0))
 ((bb c0 4).bind λt13 =>
 cond (!t13.2)
 ((aa t13.1 (t7.length:Int)).bind λt21 =>
 (ix t7.length t21.2).bind λj22 =>
 (t7[j22]?).bind λx24 =>
 (sf ([]:List Int) x24.1).bind λzs25 =>
 some (t21.1,zs25))
 ((aa t13.1 8).bind λt27 =>
 cond (t27.2==0)
 (some (t27.1,([0]:List Int)))
 (cond (t27.2==1)
 (some (t27.1,([1,3,1]:List Int)))
 (cond (t27.2==2)
 ((af ([2,2,9]:List Int)).bind λt37 =>
 some (t27.1,t37))
 (cond (t27.2==3)
 ((aa t27.1 9).bind λt41 =>
 (af [3,1,rJ (1+t41.2)]).bind λt44 =>
 some (t41.1,t44))
 (cond (t27.2==4)
 ((af ([2,2]:List Int)).bind λt48 =>
 some (t27.1,t48))
 (cond (t27.2==5)
 ((af ([9]:List Int)).bind λt52 =>
 some (t27.1,t52))
 (cond (t27.2==6)
 ((af ([4,1,2,11]:List Int)).bind λt56 =>
 some (t27.1,t56))
 ((aS t27.1).bind λt58 =>
 some t58)))))))))
 ((aa c0 8).bind λt27_1 =>
 cond (t27_1.2==0)
 (some (t27_1.1,([0]:List Int)))
 (cond (t27_1.2==1)
 (some (t27_1.1,([1,3,1]:List Int)))
 (cond (t27_1.2==2)
 ((af ([2,2,9]:List Int)).bind λt37_1 =>
 some (t27_1.1,t37_1))
 (cond (t27_1.2==3)
 ((aa t27_1.1 9).bind λt41_1 =>
 (af [3,1,rJ (1+t41_1.2)]).bind λt44_1 =>
 some (t41_1.1,t44_1))
 (cond (t27_1.2==4)
 ((af ([2,2]:List Int)).bind λt48_1 =>
 some (t27_1.1,t48_1))
 (cond (t27_1.2==5)
 ((af ([9]:List Int)).bind λt52_1 =>
 some (t27_1.1,t52_1))
 (cond (t27_1.2==6)
 ((af ([4,1,2,11]:List Int)).bind λt56_1 =>
 some (t27_1.1,t56_1))
 ((aS t27_1.1).bind λt58_1 =>
 some t58_1))))))))
def mO:FL:=(218,⟨[.ptr uc none,.val true s7 false],[.val false uw (some true)],λa=>ay a.1 a.2⟩)::mN
theorem rz:Gd mO:=rS ru 218 Tryz.f218 [] Tryz.func218
def gD (p0:sc) (i1:rI):Option (sc×rK) :=
 (aa p0 (rJ ((i1.2.2.1.length:Int)+1))).bind λt12 =>
 (shl .i64 1 (IntKind.u64.wrap ((i1.2.2.1.length:Int)))).bind λt18 =>
 (aa t12.1 10).bind λt21 =>
 cond (t21.2==0)
 ((af ([1,1]:List Int)).bind λt25 =>
 (aU t21.1 ([[110,101,119],[],[101,108,101,118,101,110,45,98,121,116,101]]:List (List UInt8))).bind λt28 =>
 some (t28.1,(t25,4,0,t28.2,[])))
 (cond (t21.2==1)
 (cond (t21.2==1)
 ((af [2,2,rJ (1+t12.2)]).bind λt36 =>
 (ai t21.1 ([1,5,1000,0,1001]:List Int)).bind λt39 =>
 (ah t39.2).bind λt40 =>
 some (t39.1,(t36,t40.1,t40.2.1,t40.2.2.1,t40.2.2.2)))
 (cond (t21.2==3)
 ((af [2,4,rJ (1+t12.2)]).bind λt46 =>
 (aa t21.1 4).bind λt48 =>
 (ah (rJ (1+t48.2))).bind λt50 =>
 some (t48.1,(t46,t50.1,t50.2.1,t50.2.2.1,t50.2.2.2)))
 (cond (t21.2==4)
 (cond (t21.2==4)
 ((aa t21.1 4).bind λt56 =>
 (af [3,1,rJ (1+t56.2)]).bind λt59 =>
 (ai t56.1 ([4,4,6,1]:List Int)).bind λt62 =>
 (ah t62.2).bind λt63 =>
 some (t62.1,(t59,t63.1,t63.2.1,t63.2.2.1,t63.2.2.2)))
 (cond (t21.2==6)
 (cond (t21.2==6)
 ((aa t21.1 4).bind λt69 =>
 (af [3,2,rJ (1+t69.2)]).bind λt72 =>
 (aa t69.1 (rJ ((rJ (t18-1))+2))).bind λt76 =>
 (ah t76.2).bind λt77 =>
 some (t76.1,(t72,t77.1,t77.2.1,t77.2.2.1,t77.2.2.2)))
 (cond (t21.2==8)
 ((aa t21.1 4).bind λt82 =>
 (af [3,3,rJ (1+t82.2)]).bind λt85 =>
 (aa t82.1 (rJ ((rJ (t18-1))+1))).bind λt89 =>
 (ah t89.2).bind λt90 =>
 some (t89.1,(t85,t90.1,t90.2.1,t90.2.2.1,t90.2.2.2)))
 ((ay t21.1 i1).bind λt94 =>
 (aD t94.1).bind λt96 =>
 some (t96.1,(t94.2,t96.2.1,t96.2.2.1,t96.2.2.2.1,t96.2.2.2.2)))))
 (cond (t21.2==7)
 ((aa t21.1 4).bind λt69_1 =>
 (af [3,2,rJ (1+t69_1.2)]).bind λt72_1 =>
 (aa t69_1.1 (rJ ((rJ (t18-1))+2))).bind λt76_1 =>
 (ah t76_1.2).bind λt77_1 =>
 some (t76_1.1,(t72_1,t77_1.1,t77_1.2.1,t77_1.2.2.1,t77_1.2.2.2)))
 (cond (t21.2==8)
 ((aa t21.1 4).bind λt82_1 =>
 (af [3,3,rJ (1+t82_1.2)]).bind λt85_1 =>
 (aa t82_1.1 (rJ ((rJ (t18-1))+1))).bind λt89_1 =>
 (ah t89_1.2).bind λt90_1 =>
 some (t89_1.1,(t85_1,t90_1.1,t90_1.2.1,t90_1.2.2.1,t90_1.2.2.2)))
 ((ay t21.1 i1).bind λt94_1 =>
 (aD t94_1.1).bind λt96_1 =>
 some (t96_1.1,(t94_1.2,t96_1.2.1,t96_1.2.2.1,t96_1.2.2.2.1,t96_1.2.2.2.2)))))))
 (cond (t21.2==5)
 ((aa t21.1 4).bind λt56_1 =>
 (af [3,1,rJ (1+t56_1.2)]).bind λt59_1 =>
 (ai t56_1.1 ([4,4,6,1]:List Int)).bind λt62_1 =>
 (ah t62_1.2).bind λt63_1 =>
 some (t62_1.1,(t59_1,t63_1.1,t63_1.2.1,t63_1.2.2.1,t63_1.2.2.2)))
 (cond (t21.2==6)
 (cond (t21.2==6)
 ((aa t21.1 4).bind λt69_2 =>
 (af [3,2,rJ (1+t69_2.2)]).bind λt72_2 =>
 (aa t69_2.1 (rJ ((rJ (t18-1))+2))).bind λt76_2 =>
 (ah t76_2.2).bind λt77_2 =>
 some (t76_2.1,(t72_2,t77_2.1,t77_2.2.1,t77_2.2.2.1,t77_2.2.2.2)))
 (cond (t21.2==8)
 ((aa t21.1 4).bind λt82_2 =>
 (af [3,3,rJ (1+t82_2.2)]).bind λt85_2 =>
 (aa t82_2.1 (rJ ((rJ (t18-1))+1))).bind λt89_2 =>
 (ah t89_2.2).bind λt90_2 =>
 some (t89_2.1,(t85_2,t90_2.1,t90_2.2.1,t90_2.2.2.1,t90_2.2.2.2)))
 ((ay t21.1 i1).bind λt94_2 =>
 (aD t94_2.1).bind λt96_2 =>
 some (t96_2.1,(t94_2.2,t96_2.2.1,t96_2.2.2.1,t96_2.2.2.2.1,t96_2.2.2.2.2)))))
 (cond (t21.2==7)
 ((aa t21.1 4).bind λt69_3 =>
 (af [3,2,rJ (1+t69_3.2)]).bind λt72_3 =>
 (aa t69_3.1 (rJ ((rJ (t18-1))+2))).bind λt76_3 =>
 (ah t76_3.2).bind λt77_3 =>
 some (t76_3.1,(t72_3,t77_3.1,t77_3.2.1,t77_3.2.2.1,t77_3.2.2.2)))
 (cond (t21.2==8)
 ((aa t21.1 4).bind λt82_3 =>
 (af [3,3,rJ (1+t82_3.2)]).bind λt85_3 =>
 (aa t82_3.1 (rJ ((rJ (t18-1))+1))).bind λt89_3 =>
 (ah t89_3.2).bind λt90_3 =>
 some (t89_3.1,(t85_3,t90_3.1,t90_3.2.1,t90_3.2.2.1,t90_3.2.2.2)))
 ((ay t21.1 i1).bind λt94_3 =>
 (aD t94_3.1).bind λt96_3 =>
 some (t96_3.1,(t94_3.2,t96_3.2.1,t96_3.2.2.1,t96_3.2.2.2.1,t96_3.2.2.2.2))))))))))
 (cond (t21.2==2)
 ((af [2,2,rJ (1+t12.2)]).bind λt36_1 =>
 (ai t21.1 ([1,5,1000,0,1001]:List Int)).bind λt39_1 =>
 (ah t39_1.2).bind λt40_1 =>
 some (t39_1.1,(t36_1,t40_1.1,t40_1.2.1,t40_1.2.2.1,t40_1.2.2.2)))
 (cond (t21.2==3)
 ((af [2,4,rJ (1+t12.2)]).bind λt46_1 =>
 (aa t21.1 4).bind λt48_1 =>
 (ah (rJ (1+t48_1.2))).bind λt50_1 =>
 some (t48_1.1,(t46_1,t50_1.1,t50_1.2.1,t50_1.2.2.1,t50_1.2.2.2)))
 (cond (t21.2==4)
 (cond (t21.2==4)
 ((aa t21.1 4).bind λt56_2 =>
 (af [3,1,rJ (1+t56_2.2)]).bind λt59_2 =>
 (ai t56_2.1 ([4,4,6,1]:List Int)).bind λt62_2 =>
 (ah t62_2.2).bind λt63_2 =>
 some (t62_2.1,(t59_2,t63_2.1,t63_2.2.1,t63_2.2.2.1,t63_2.2.2.2)))
 (cond (t21.2==6)
 (cond (t21.2==6)
 ((aa t21.1 4).bind λt69_4 =>
 (af [3,2,rJ (1+t69_4.2)]).bind λt72_4 =>
 (aa t69_4.1 (rJ ((rJ (t18-1))+2))).bind λt76_4 =>
 (ah t76_4.2).bind λt77_4 =>
 some (t76_4.1,(t72_4,t77_4.1,t77_4.2.1,t77_4.2.2.1,t77_4.2.2.2)))
 (cond (t21.2==8)
 ((aa t21.1 4).bind λt82_4 =>
 (af [3,3,rJ (1+t82_4.2)]).bind λt85_4 =>
 (aa t82_4.1 (rJ ((rJ (t18-1))+1))).bind λt89_4 =>
 (ah t89_4.2).bind λt90_4 =>
 some (t89_4.1,(t85_4,t90_4.1,t90_4.2.1,t90_4.2.2.1,t90_4.2.2.2)))
 ((ay t21.1 i1).bind λt94_4 =>
 (aD t94_4.1).bind λt96_4 =>
 some (t96_4.1,(t94_4.2,t96_4.2.1,t96_4.2.2.1,t96_4.2.2.2.1,t96_4.2.2.2.2)))))
 (cond (t21.2==7)
 ((aa t21.1 4).bind λt69_5 =>
 (af [3,2,rJ (1+t69_5.2)]).bind λt72_5 =>
 (aa t69_5.1 (rJ ((rJ (t18-1))+2))).bind λt76_5 =>
 (ah t76_5.2).bind λt77_5 =>
 some (t76_5.1,(t72_5,t77_5.1,t77_5.2.1,t77_5.2.2.1,t77_5.2.2.2)))
 (cond (t21.2==8)
 ((aa t21.1 4).bind λt82_5 =>
 (af [3,3,rJ (1+t82_5.2)]).bind λt85_5 =>
 (aa t82_5.1 (rJ ((rJ (t18-1))+1))).bind λt89_5 =>
 (ah t89_5.2).bind λt90_5 =>
 some (t89_5.1,(t85_5,t90_5.1,t90_5.2.1,t90_5.2.2.1,t90_5.2.2.2)))
 ((ay t21.1 i1).bind λt94_5 =>
 (aD t94_5.1).bind λt96_5 =>
 some (t96_5.1,(t94_5.2,t96_5.2.1,t96_5.2.2.1,t96_5.2.2.2.1,t96_5.2.2.2.2)))))))
 (cond (t21.2==5)
 ((aa t21.1 4).bind λt56_3 =>
 (af [3,1,rJ (1+t56_3.2)]).bind λt59_3 =>
 (ai t56_3.1 ([4,4,6,1]:List Int)).bind λt62_3 =>
 (ah t62_3.2).bind λt63_3 =>
 some (t62_3.1,(t59_3,t63_3.1,t63_3.2.1,t63_3.2.2.1,t63_3.2.2.2)))
 (cond (t21.2==6)
 (cond (t21.2==6)
 ((aa t21.1 4).bind λt69_6 =>
 (af [3,2,rJ (1+t69_6.2)]).bind λt72_6 =>
 (aa t69_6.1 (rJ ((rJ (t18-1))+2))).bind λt76_6 =>
 (ah t76_6.2).bind λt77_6 =>
 some (t76_6.1,(t72_6,t77_6.1,t77_6.2.1,t77_6.2.2.1,t77_6.2.2.2)))
 (cond (t21.2==8)
 ((aa t21.1 4).bind λt82_6 =>
 (af [3,3,rJ (1+t82_6.2)]).bind λt85_6 =>
 (aa t82_6.1 (rJ ((rJ (t18-1))+1))).bind λt89_6 =>
 (ah t89_6.2).bind λt90_6 =>
 some (t89_6.1,(t85_6,t90_6.1,t90_6.2.1,t90_6.2.2.1,t90_6.2.2.2)))
 ((ay t21.1 i1).bind λt94_6 =>
 (aD t94_6.1).bind λt96_6 =>
 some (t96_6.1,(t94_6.2,t96_6.2.1,t96_6.2.2.1,t96_6.2.2.2.1,t96_6.2.2.2.2)))))
 (cond (t21.2==7)
 ((aa t21.1 4).bind λt69_7 =>
 (af [3,2,rJ (1+t69_7.2)]).bind λt72_7 =>
 (aa t69_7.1 (rJ ((rJ (t18-1))+2))).bind λt76_7 =>
 (ah t76_7.2).bind λt77_7 =>
 some (t76_7.1,(t72_7,t77_7.1,t77_7.2.1,t77_7.2.2.1,t77_7.2.2.2)))
 (cond (t21.2==8)
 ((aa t21.1 4).bind λt82_7 =>
 (af [3,3,rJ (1+t82_7.2)]).bind λt85_7 =>
 (aa t82_7.1 (rJ ((rJ (t18-1))+1))).bind λt89_7 =>
 (ah t89_7.2).bind λt90_7 =>
 some (t89_7.1,(t85_7,t90_7.1,t90_7.2.1,t90_7.2.2.1,t90_7.2.2.2)))
 ((ay t21.1 i1).bind λt94_7 =>
 (aD t94_7.1).bind λt96_7 =>
 some (t96_7.1,(t94_7.2,t96_7.2.1,t96_7.2.2.1,t96_7.2.2.2.1,t96_7.2.2.2.2)))))))))))
def mP:FL:=(305,⟨[.ptr uc none,.val true s7 false],[.val true rX (some true)],λa=>gD a.1 a.2⟩)::mO
theorem rA:Gd mP:=rS rz 305 Tryz.f305 [] Tryz.func305
def cR (b1:rI) (i6:Int) (b0:List Int) (b1_1:Int) (b2:Int) (out5:List rK):Option ((Int×List Int×Int×Int×List rK)⊕(List Int×Int×Int×List rK)) :=
 cond (decide (i6>0))
 ((gD (b0,b1_1,b2) b1).bind λt17 =>
 (sf out5 [t17.2]).bind λzs19 =>
 some (.inl (rJ (i6-1),t17.1.1,t17.1.2.1,t17.1.2.2,zs19)))
 (some (.inr (b0,b1_1,b2,out5)))
def fr (c0:sc) (b1:rI):Option (sc×List rK) :=
 (aa c0 4).bind λt9 =>
 (loop (λz=>cR b1 z.1 z.2.1 z.2.2.1 z.2.2.2.1 z.2.2.2.2) (t9.2,t9.1.1,t9.1.2.1,t9.1.2.2,([]:List rK))).bind λd =>
 some ((d.1,d.2.1,d.2.2.1),d.2.2.2)
def mQ:FL:=(217,⟨[.ptr uc none,.val true s7 false],[.val false (.one (.sl rX)) (some true)],λa=>fr a.1 a.2⟩)::mP
theorem rB:Gd mQ:=rS rA 217 Tryz.f217 [(0,⟨⟨[(5,false,[.own 1000000000]),(6,false,[dI])],[(1,.box [.dat (.sl (.one (.int .u8))),dI,dI]),(1000000000,.root rX true)]⟩,
 ⟨[(5,false,[.own 1000000300])],[(1,.box [.dat (.sl (.one (.int .u8))),dI,dI]),(1000000300,.root rX true)]⟩,none⟩)] Tryz.func217
def cS (b1:rI) (i6:Int) (b0:List Int) (b1_1:Int) (b2:Int) (b0_1:Int) (b1_2:Int) (b2_1:Int) (b3:Int) (b4:List rK):Option ((Int×List Int×Int×Int×Int×Int×Int×Int×List rK)⊕(List Int×Int×Int×Int×Int×Int×Int×List rK)) :=
 cond (decide (i6>0))
 ((ay (b0,b1_1,b2) b1).bind λt31 =>
 (sf b4 ([(t31.2,5,0,[],[])])).bind λzs35 =>
 some (.inl (rJ (i6-1),t31.1.1,t31.1.2.1,t31.1.2.2,b0_1,b1_2,b2_1,b3,zs35)))
 (some (.inr (b0,b1_1,b2,b0_1,b1_2,b2_1,b3,b4)))
def cU (c0:sc) (b1:rI):Option (sc×sj) :=
 (ai c0 ([160,161,163,163,165]:List Int)).bind λt9 =>
 (aa t9.1 100).bind λt11 =>
 cond (t9.2==163)
 ((fr t11.1 b1).bind λt18 =>
 some (t18.1,(t9.2,t11.2,0,0,t18.2)))
 ((aa t11.1 4).bind λt22 =>
 (loop (λz=>cS b1 z.1 z.2.1 z.2.2.1 z.2.2.2.1 z.2.2.2.2.1 z.2.2.2.2.2.1 z.2.2.2.2.2.2.1 z.2.2.2.2.2.2.2.1 z.2.2.2.2.2.2.2.2) (t22.2,t22.1.1,t22.1.2.1,t22.1.2.2,t9.2,t11.2,0,0,[])).bind λd =>
 cond (d.2.2.2.1==165)
 ((aa (d.1,d.2.1,d.2.2.1) 3).bind λt41 =>
 (aa t41.1 5).bind λt44 =>
 some (t44.1,(d.2.2.2.1,d.2.2.2.2.1,t41.2,t44.2,d.2.2.2.2.2.2.2)))
 (some ((d.1,d.2.1,d.2.2.1),d.2.2.2)))
def mR:FL:=(130,⟨[.ptr uc none,.val true s7 false],[.val true ud (some true)],λa=>cU a.1 a.2⟩)::mQ
theorem rC:Gd mR:=rS rB 130 Tryz.f130 [(0,⟨⟨[(6,false,[dI])],[(1,.box [.dat (.sl (.one (.int .u8))),dI,dI]),(269312,.box [dI,dI,dI,dI,.own 1000000000]),(1000000000,.root rX true)]⟩,
 ⟨[],[(1,.box [.dat (.sl (.one (.int .u8))),dI,dI]),(269312,.box [dI,dI,dI,dI,.own 1000000300]),(1000000300,.root rX true)]⟩,none⟩)] Tryz.func130
def ck (c0:sc) (b1:rI):Option (sc×List Int) :=
 (aa c0 10).bind λt6 =>
 cond (t6.2==0)
 ((cU t6.1 b1).bind λt12 =>
 (bQ [121,97,114,100] t12.2).bind λt13 =>
 (eu t12.1 t13).bind λt14 =>
 some t14)
 (cond (t6.2==1)
 ((cU t6.1 b1).bind λt19 =>
 (bQ [111,116,104,101,114] t19.2).bind λt20 =>
 some (t19.1,t20))
 (cond (t6.2==2)
 ((cm t6.1).bind λt24 =>
 (bQ [121,97,114,100] t24.2).bind λt25 =>
 some (t24.1,t25))
 ((cU t6.1 b1).bind λt28 =>
 (bQ [121,97,114,100] t28.2).bind λt29 =>
 some (t28.1,t29))))
def mS:FL:=(58,⟨[.ptr uc none,.val true s7 false],[.val false tb none],λa=>ck a.1 a.2⟩)::mR
theorem rD:Gd mS:=rS rC 58 Tryz.f58 [] Tryz.func58
def bP (a0:s9) (b1:List Int):Option s9 :=
 (f0 a0).bind λt7 =>
 (dP a0).bind λt9 =>
 (cond (!t9)
 (some true)
 (some (decide ((a0.2.2.2.2.2.2.2.2.2.2.2.2.1.length:Int)>=6)))).bind λt16 =>
 (cond t16
 (some true)
 (some (decide (a0.2.2.2.2.2.2.2.2.2.2.2.2.2.2>=1000000)))).bind λt21 =>
 cond t21
 ((dP a0).bind λt23 =>
 cond t23
 ((bg a0.2.2.2.2.2.2.2.2.2.2.2.2.2.1).bind λt26 =>
 some (t7.1,t7.2.1,t7.2.2.1,t7.2.2.2.1,t7.2.2.2.2.1,t7.2.2.2.2.2.1,t7.2.2.2.2.2.2.1,t7.2.2.2.2.2.2.2.1,t7.2.2.2.2.2.2.2.2.1,t7.2.2.2.2.2.2.2.2.2.1,t7.2.2.2.2.2.2.2.2.2.2.1,t7.2.2.2.2.2.2.2.2.2.2.2.1,t7.2.2.2.2.2.2.2.2.2.2.2.2.1,t26,t7.2.2.2.2.2.2.2.2.2.2.2.2.2.2))
 (some t7))
 ((sf ([]:List Int) b1).bind λzs39 =>
 (sf t7.2.2.2.2.2.2.2.2.2.2.2.2.1 ([(rJ (a0.2.2.2.2.2.2.2.2.2.2.2.2.2.2+1),zs39,0,0,0,0,0,[],0,[],[],[],[],[],0,0,0,0,0,0,0)])).bind λzs42 =>
 some (t7.1,t7.2.1,t7.2.2.1,t7.2.2.2.1,t7.2.2.2.2.1,t7.2.2.2.2.2.1,t7.2.2.2.2.2.2.1,t7.2.2.2.2.2.2.2.1,t7.2.2.2.2.2.2.2.2.1,t7.2.2.2.2.2.2.2.2.2.1,t7.2.2.2.2.2.2.2.2.2.2.1,t7.2.2.2.2.2.2.2.2.2.2.2.1,zs42,t7.2.2.2.2.2.2.2.2.2.2.2.2.2.1,rJ (a0.2.2.2.2.2.2.2.2.2.2.2.2.2.2+1)))
def mT:FL:=(120,⟨[.val true tB false,.val false tb false],[.val true tB (some true)],λa=>bP a.1 a.2⟩)::mS
theorem rE:Gd mT:=rS rD 120 Tryz.f120 [] Tryz.func120
def fB (b0:rI) (word1:List UInt8):Option s9 :=
 (aV b0).bind λt6 =>
 (cond (!t6) (some true) (some (decide ((word1.length:Int)>20)))).bind λt12 =>
 cond t12
 (some (0,[],[],[],[],[],0,0,0,0,0,[],[],0,0))
 ((ap b0).bind λt15 =>
 some (t15.1,t15.2.1,t15.2.2.1,t15.2.2.2.1,t15.2.2.2.2.1,t15.2.2.2.2.2.1,t15.2.2.2.2.2.2.1,t15.2.2.2.2.2.2.2.1,t15.2.2.2.2.2.2.2.2.1,t15.2.2.2.2.2.2.2.2.2.1,t15.2.2.2.2.2.2.2.2.2.2,word1,[],0,0))
def mU:FL:=(127,⟨[.val true s7 false,.val false FT false],[.val true tB (some true)],λa=>fB a.1 a.2⟩)::mT
theorem ic:Gd mU:=rS rE 127 Tryz.f127 [] Tryz.func127
def cV (p0:List rR) (i1:rR) (t6:Bool) (t7:Int) (t5:List rR):Option ((Bool×Int×List rR)⊕(Bool×List rR)) :=
 cond (decide (t7<(p0.length:Int)))
 ((cond (!t6)
 ((at? p0 t7).bind λx20 =>
 (ca x20 i1.1 i1.2.1).bind λt26 =>
 some (!t26))
 (some false)).bind λt28 =>
 cond t28
 ((sf t5 [i1]).bind λzs32 =>
 (at? p0 t7).bind λx35 =>
 (cond (x35.1 != i1.1)
 (some true)
 ((at? p0 t7).bind λx44 =>
 some (x44.2.1 != i1.2.1))).bind λt50 =>
 cond t50
 ((at? p0 t7).bind λx54 =>
 (sf zs32 [x54]).bind λzs57 =>
 some (.inl (true,rJ (t7+1),zs57)))
 (some (.inl (true,rJ (t7+1),zs32))))
 ((at? p0 t7).bind λx35_1 =>
 (cond (x35_1.1 != i1.1)
 (some true)
 ((at? p0 t7).bind λx44_1 =>
 some (x44_1.2.1 != i1.2.1))).bind λt50_1 =>
 cond t50_1
 ((at? p0 t7).bind λx54_1 =>
 (sf t5 [x54_1]).bind λzs57_1 =>
 some (.inl (t6,rJ (t7+1),zs57_1)))
 (some (.inl (t6,rJ (t7+1),t5)))))
 (some (.inr (t6,t5)))
def ee (p0:List rR) (i1:rR):Option (List rR) :=
 (loop (λz=>cV p0 i1 z.1 z.2.1 z.2.2) (false,0,([]:List rR))).bind λd =>
 cond (!d.1)
 ((sf d.2 [i1]).bind λzs63 =>
 some zs63)
 (some d.2)
def Av:Fn:=⟨[.val false (.one (.sl sr)) false,.val true sr false],[.val false (.one (.sl sr)) (some true)],λa=>ee a.1 a.2⟩
def He:List (Nat×rT):=[(0,⟨⟨(5,false,[.own 1000000000])::(6,false,[dB])::(7,false,[dI])::us 18 10 (us 42 8 []),[(1000000000,.root sr true)]⟩,
 ⟨[(5,false,[.own 1000000300]),(6,false,[dB])],[(1000000300,.root sr true)]⟩,none⟩)]
theorem Hf:zY Tryz.prog 293 Av:=O0 ic 293 Tryz.f293 He Av Tryz.func293
def ib:List (FuncId×Fn):=(293,Av)::mU
end
end Go.V.W
