/- The law FnExactDoAct: part of the proof that for every input it returns true. No condition. -/
import Derived.Test.YthcdcolihokdmaaGreatV4
import Derived.Test.YthcdcolihokdmaaGreatProg
import Derived.Test.YthcdcolihokdmaaGreatChecked
import Derived.KernelRfl
set_option linter.unusedVariables false
set_option linter.unusedSimpArgs false
namespace Go.V.W
open Go.Proofs
noncomputable section
def us:Nat->Nat->List (Nat×Bool×List yr)->List (Nat×Bool×List yr)|_,0,l=>l|a,n+1,l=>(a,false,[.undef])::us (a+1) n l
@[reducible] def wI:Cs:=.one (.int .i64)
@[reducible] def xo:Cs:=.one .bool
@[reducible] def yh:Cs:=.one (.sl (.one (.int .u8)))
@[reducible] def yU:Cs:=.one (.sl (.one (.int .i64)))
@[reducible] def Ty:Cs:=.one .str
@[reducible] def dI:yr:=.dat (.int .i64)
@[reducible] def dB:yr:=.dat .bool
@[reducible] def dS:yr:=.dat .str
@[reducible] def B0:Cs:=.cons (.int .i64) (.cons (.int .i64) (.cons (.int .i64) (.cons (.int .i64) wI)))
@[reducible] def z0:Cs:=.cons .bool (.cons (.int .i64) (.cons .bool (.cons (.int .i64) (.cons (.int .i64) (.cons (.int .i64) (.cons (.int .i64) wI))))))
@[reducible] def xa:Cs:=.cons (.int .i64) (.cons (.int .i64) (.cons (.int .i64) (.cons (.int .i64) xo)))
@[reducible] def xV:Cs:=.cons (.int .i64) (.cons (.int .i64) wI)
@[reducible] def yQ:Cs:=.cons (.sl xV) yU
@[reducible] def wR:Cs:=.cons (.int .i64) (.cons .str (.cons (.sl z0) (.cons (.sl xa) (.cons (.sl xV) (.cons (.sl wI) (.cons (.int .i64) (.cons (.int .i64) (.cons (.int .i64) (.cons (.int .i64) wI)))))))))
@[reducible] def AN:Cs:=.cons (.int .i64) (.cons (.int .i64) (.cons .str yU))
@[reducible] def wV:Cs:=.cons (.sl wI) (.cons (.int .i64) (.cons (.int .i64) (.cons .str yU)))
@[reducible] def yW:Cs:=.cons (.int .i64) (.cons (.int .i64) (.cons (.int .i64) (.cons (.int .i64) (.one (.sl wV)))))
@[reducible] def yX:Cs:=.cons (.int .i64) (.cons (.sl (.one (.int .u8))) (.cons (.int .i64) (.cons (.int .i64) (.cons (.int .i64) (.cons (.int .i64) (.cons (.int .i64) (.cons (.sl wV) (.cons (.int .i64) (.cons .str (.cons (.sl z0) (.cons (.sl xa) (.cons (.sl xV) (.cons (.sl wI) (.cons (.int .i64) (.cons (.int .i64) (.cons (.int .i64) (.cons (.int .i64) (.cons (.int .i64) (.cons (.int .i64) wI)))))))))))))))))))
@[reducible] def xv:Cs:=.cons (.int .i64) (.cons .str (.cons (.sl z0) (.cons (.sl xa) (.cons (.sl xV) (.cons (.sl wI) (.cons (.int .i64) (.cons (.int .i64) (.cons (.int .i64) (.cons (.int .i64) (.cons (.int .i64) (.cons .str (.cons (.sl yX) (.cons (.int .i64) wI)))))))))))))
@[reducible] def Ac:Cs:=.cons (.int .i64) (.cons (.int .i64) (.cons (.int .i64) (.cons (.int .i64) (.cons (.int .i64) (.one (.sl wV))))))
@[reducible] def zw:Cs:=.cons (.int .i64) (.cons (.int .i64) (.cons (.int .i64) yh))
@[reducible] def Ao:Cs:=.cons (.int .i64) (.cons (.int .i64) (.cons .bool (.cons (.sl (.one (.int .u8))) (.cons (.int .i64) (.cons (.int .i64) (.cons (.int .i64) (.cons (.sl (.one (.int .u8))) (.cons (.int .i64) (.cons (.int .i64) (.cons (.int .i64) (.cons (.int .i64) wI)))))))))))
@[reducible] def Bo:Cs:=.cons (.sl (.one (.int .u8))) (.cons (.int .i64) xo)
@[reducible] def B1:Cs:=.cons (.int .i64) (.cons (.int .i64) (.cons (.int .i64) (.cons (.int .i64) yh)))
abbrev Bv:Type:=Int×Int×Int×Int×Int
abbrev Pt:Type:=Bool×Int×Bool×Int×Int×Int×Int×Int
abbrev wJ:Type:=Int×Int×Int×Int×Bool
abbrev wY:Type:=Int×Int×Int
abbrev xO:Type:=List wY×List Int
abbrev wD:Type:=Int×List UInt8×List Pt×List wJ×List wY×List Int×Int×Int×Int×Int×Int
abbrev zH:Type:=Int×Int×List UInt8×List Int
abbrev wF:Type:=List Int×Int×Int×List UInt8×List Int
abbrev xg:Type:=Int×Int×Int×Int×List wF
abbrev xl:Type:=Int×List Int×Int×Int×Int×Int×Int×List wF×Int×List UInt8×List Pt×List wJ×List wY×List Int×Int×Int×Int×Int×Int×Int×Int
abbrev wW:Type:=Int×List UInt8×List Pt×List wJ×List wY×List Int×Int×Int×Int×Int×Int×List UInt8×List xl×Int×Int
abbrev xZ:Type:=Int×Int×Int×Int×Int×List wF
abbrev yE:Type:=Int×Int×Int×List Int
abbrev Act:Type:=Int×Int×Bool×List Int×Int×Int×Int×List Int×Int×Int×Int×Int×Int
abbrev ze:Type:=List Int×Int×Bool
abbrev xm:Type:=Int×Int×Int×Int×List Int
def tis:List (Nat×xf):=[(2,⟨false,.one (.int .i64),[],0⟩),(3,⟨false,.one (.int .i64),[],0⟩),(4,⟨false,.one .bool,[],0⟩),(5,⟨false,.one (.int .u8),[],0⟩),(6,⟨false,.one (.int .u8),[],0⟩),(9,⟨false,.one .str,[],0⟩),(10,⟨false,.one .str,[],0⟩),(11,⟨false,.one .str,[],0⟩),(12,⟨false,.one (.int .u64),[],0⟩),(21,⟨false,.one (.int .i32),[],0⟩),(22,⟨false,.one (.sl (.one (.int .u8))),[],5⟩),(24,⟨false,.one (.sl z0),[],239⟩),(25,⟨false,.one (.sl xa),[],320⟩),(26,⟨false,.one (.sl xV),[],322⟩),(27,⟨false,.one (.sl wI),[],3⟩),(28,⟨true,yQ,[(26,0),(27,1)],0⟩),(29,⟨true,yQ,[(26,0),(27,1)],0⟩),(30,⟨true,wR,[(3,0),(9,1),(24,2),(25,3),(29,4),(3,6),(3,7),(3,8),(3,9),(3,10)],0⟩),(31,⟨true,wR,[(3,0),(9,1),(24,2),(25,3),(29,4),(3,6),(3,7),(3,8),(3,9),(3,10)],0⟩),(32,⟨false,.one (.sl yX),[],148⟩),(33,⟨true,xv,[(31,0),(9,11),(32,12),(3,13),(3,14)],0⟩),(34,⟨true,xv,[(31,0),(9,11),(32,12),(3,13),(3,14)],0⟩),(39,⟨false,.one (.sl wV),[],209⟩),(40,⟨true,yW,[(3,0),(3,1),(3,2),(3,3),(39,4)],0⟩),(41,⟨true,yW,[(3,0),(3,1),(3,2),(3,3),(39,4)],0⟩),(44,⟨false,.one (.sl Ac),[],49⟩),(48,⟨true,Ac,[(3,0),(41,1)],0⟩),(49,⟨true,Ac,[(3,0),(41,1)],0⟩),(50,⟨false,.one (.sl wR),[],83⟩),(51,⟨false,.one (.sl (.cons (.int .i64) (.cons (.int .i64) (.cons (.int .i64) wI)))),[],232⟩),(52,⟨false,.one (.sl (.cons (.int .i64) (.cons .bool (.cons (.int .i64) (.cons (.int .i64) (.cons (.int .i64) (.cons (.int .i64) wI))))))),[],237⟩),(53,⟨true,.cons (.sl wR) (.cons (.sl (.cons (.int .i64) (.cons (.int .i64) (.cons (.int .i64) wI)))) (.one (.sl (.cons (.int .i64) (.cons .bool (.cons (.int .i64) (.cons (.int .i64) (.cons (.int .i64) (.cons (.int .i64) wI))))))))),[(50,0),(51,1),(52,2)],0⟩),(54,⟨true,.cons (.sl wR) (.cons (.sl (.cons (.int .i64) (.cons (.int .i64) (.cons (.int .i64) wI)))) (.one (.sl (.cons (.int .i64) (.cons .bool (.cons (.int .i64) (.cons (.int .i64) (.cons (.int .i64) (.cons (.int .i64) wI))))))))),[(50,0),(51,1),(52,2)],0⟩),(55,⟨true,zw,[(3,0),(3,1),(3,2),(22,3)],0⟩),(56,⟨true,zw,[(3,0),(3,1),(3,2),(22,3)],0⟩),(59,⟨false,.one (.sl wR),[],31⟩),(60,⟨false,.one (.sl (.cons (.int .i64) (.cons (.int .i64) (.cons (.int .i64) wI)))),[],230⟩),(61,⟨false,.one (.sl (.cons (.int .i64) (.cons .bool (.cons (.int .i64) (.cons (.int .i64) (.cons (.int .i64) (.cons (.int .i64) wI))))))),[],234⟩),(62,⟨true,.cons (.sl wR) (.cons (.sl (.cons (.int .i64) (.cons (.int .i64) (.cons (.int .i64) wI)))) (.one (.sl (.cons (.int .i64) (.cons .bool (.cons (.int .i64) (.cons (.int .i64) (.cons (.int .i64) (.cons (.int .i64) wI))))))))),[(59,0),(60,1),(61,2)],0⟩),(63,⟨true,.cons (.sl wR) (.cons (.sl (.cons (.int .i64) (.cons (.int .i64) (.cons (.int .i64) wI)))) (.one (.sl (.cons (.int .i64) (.cons .bool (.cons (.int .i64) (.cons (.int .i64) (.cons (.int .i64) (.cons (.int .i64) wI))))))))),[(59,0),(60,1),(61,2)],0⟩),(64,⟨false,.one (.sl (.cons (.int .i64) (.cons (.int .i64) (.cons (.int .i64) (.cons (.int .i64) (.cons (.int .i64) yh)))))),[],169⟩),(68,⟨true,zw,[(3,0),(3,1),(3,2),(22,3)],0⟩),(77,⟨false,.one (.sl z0),[],332⟩),(78,⟨false,.one (.sl xa),[],334⟩),(79,⟨false,.one (.sl xV),[],372⟩),(80,⟨true,yQ,[(79,0),(27,1)],0⟩),(81,⟨true,yQ,[(79,0),(27,1)],0⟩),(82,⟨true,wR,[(3,0),(9,1),(77,2),(78,3),(81,4),(3,6),(3,7),(3,8),(3,9),(3,10)],0⟩),(83,⟨true,wR,[(3,0),(9,1),(77,2),(78,3),(81,4),(3,6),(3,7),(3,8),(3,9),(3,10)],0⟩),(84,⟨false,.one (.sl yX),[],263⟩),(85,⟨true,xv,[(83,0),(9,11),(84,12),(3,13),(3,14)],0⟩),(86,⟨true,xv,[(83,0),(9,11),(84,12),(3,13),(3,14)],0⟩),(94,⟨true,B0,[(3,0),(3,1),(3,2),(3,3),(3,4)],0⟩),(95,⟨true,B0,[(3,0),(3,1),(3,2),(3,3),(3,4)],0⟩),(96,⟨true,Ao,[(3,0),(3,1),(4,2),(22,3),(56,4),(95,8)],0⟩),(97,⟨true,Ao,[(3,0),(3,1),(4,2),(22,3),(56,4),(95,8)],0⟩),(99,⟨false,.one (.sl B1),[],194⟩),(102,⟨true,B0,[(3,0),(3,1),(3,2),(3,3),(3,4)],0⟩),(103,⟨true,Ao,[(3,0),(3,1),(4,2),(22,3),(68,4),(102,8)],0⟩),(104,⟨true,Ao,[(3,0),(3,1),(4,2),(22,3),(68,4),(102,8)],0⟩),(111,⟨false,.one (.sl Ao),[],97⟩),(114,⟨false,.one (.sl Ao),[],104⟩),(125,⟨false,.one (.sl Ty),[],9⟩),(137,⟨true,Bo,[(22,0),(3,1),(4,2)],0⟩),(138,⟨true,Bo,[(22,0),(3,1),(4,2)],0⟩),(147,⟨true,yX,[(3,0),(22,1),(3,2),(41,3),(31,8),(3,19),(3,20)],0⟩),(148,⟨true,yX,[(3,0),(22,1),(3,2),(41,3),(31,8),(3,19),(3,20)],0⟩),(154,⟨false,.one (.sl (.cons (.int .i64) (.cons (.int .i64) (.cons (.int .i64) (.cons (.int .i64) (.cons (.int .i64) yh)))))),[],227⟩),(155,⟨true,.cons (.sl wR) (.cons (.sl (.cons (.int .i64) (.cons (.int .i64) (.cons (.int .i64) wI)))) (.cons (.sl (.cons (.int .i64) (.cons .bool (.cons (.int .i64) (.cons (.int .i64) (.cons (.int .i64) (.cons (.int .i64) wI))))))) (.cons (.sl (.cons (.int .i64) (.cons (.int .i64) (.cons (.int .i64) (.cons (.int .i64) (.cons (.int .i64) yh)))))) (.cons (.sl (.cons (.int .i64) (.cons (.int .i64) (.cons (.int .i64) (.cons (.int .i64) (.cons (.int .i64) yh)))))) (.cons (.sl wI) wI))))),[(63,0),(154,3),(64,4),(27,5),(3,6)],0⟩),(156,⟨true,.cons (.sl wR) (.cons (.sl (.cons (.int .i64) (.cons (.int .i64) (.cons (.int .i64) wI)))) (.cons (.sl (.cons (.int .i64) (.cons .bool (.cons (.int .i64) (.cons (.int .i64) (.cons (.int .i64) (.cons (.int .i64) wI))))))) (.cons (.sl (.cons (.int .i64) (.cons (.int .i64) (.cons (.int .i64) (.cons (.int .i64) (.cons (.int .i64) yh)))))) (.cons (.sl (.cons (.int .i64) (.cons (.int .i64) (.cons (.int .i64) (.cons (.int .i64) (.cons (.int .i64) yh)))))) (.cons (.sl wI) wI))))),[(63,0),(154,3),(64,4),(27,5),(3,6)],0⟩),(168,⟨true,.cons (.int .i64) (.cons (.int .i64) (.cons (.int .i64) (.cons (.int .i64) (.cons (.int .i64) yh)))),[(3,0),(3,1),(68,2)],0⟩),(169,⟨true,.cons (.int .i64) (.cons (.int .i64) (.cons (.int .i64) (.cons (.int .i64) (.cons (.int .i64) yh)))),[(3,0),(3,1),(68,2)],0⟩),(193,⟨true,B1,[(3,0),(68,1)],0⟩),(194,⟨true,B1,[(3,0),(68,1)],0⟩),(196,⟨true,.cons (.sl (.one (.int .u8))) (.cons (.int .i64) wI),[(22,0),(3,1),(3,2)],0⟩),(197,⟨true,.cons (.sl (.one (.int .u8))) (.cons (.int .i64) wI),[(22,0),(3,1),(3,2)],0⟩),(205,⟨true,AN,[(3,0),(3,1),(9,2),(27,3)],0⟩),(206,⟨true,AN,[(3,0),(3,1),(9,2),(27,3)],0⟩),(208,⟨true,wV,[(27,0),(206,1)],0⟩),(209,⟨true,wV,[(27,0),(206,1)],0⟩),(210,⟨false,.one (.int .u64),[],0⟩),(226,⟨true,.cons (.int .i64) (.cons (.int .i64) (.cons (.int .i64) (.cons (.int .i64) (.cons (.int .i64) yh)))),[(3,0),(3,1),(68,2)],0⟩),(227,⟨true,.cons (.int .i64) (.cons (.int .i64) (.cons (.int .i64) (.cons (.int .i64) (.cons (.int .i64) yh)))),[(3,0),(3,1),(68,2)],0⟩),(229,⟨true,.cons (.int .i64) (.cons (.int .i64) (.cons (.int .i64) wI)),[(3,0),(3,1),(3,2),(3,3)],0⟩),(230,⟨true,.cons (.int .i64) (.cons (.int .i64) (.cons (.int .i64) wI)),[(3,0),(3,1),(3,2),(3,3)],0⟩),(232,⟨true,.cons (.int .i64) (.cons (.int .i64) (.cons (.int .i64) wI)),[(3,0),(3,1),(3,2),(3,3)],0⟩),(233,⟨true,.cons (.int .i64) (.cons .bool (.cons (.int .i64) (.cons (.int .i64) (.cons (.int .i64) (.cons (.int .i64) wI))))),[(3,0),(4,1),(102,2)],0⟩),(234,⟨true,.cons (.int .i64) (.cons .bool (.cons (.int .i64) (.cons (.int .i64) (.cons (.int .i64) (.cons (.int .i64) wI))))),[(3,0),(4,1),(102,2)],0⟩),(236,⟨true,.cons (.int .i64) (.cons .bool (.cons (.int .i64) (.cons (.int .i64) (.cons (.int .i64) (.cons (.int .i64) wI))))),[(3,0),(4,1),(95,2)],0⟩),(237,⟨true,.cons (.int .i64) (.cons .bool (.cons (.int .i64) (.cons (.int .i64) (.cons (.int .i64) (.cons (.int .i64) wI))))),[(3,0),(4,1),(95,2)],0⟩),(238,⟨true,z0,[(4,0),(3,1),(4,2),(102,3)],0⟩),(239,⟨true,z0,[(4,0),(3,1),(4,2),(102,3)],0⟩),(243,⟨true,.cons (.int .i64) (.cons (.int .i64) (.cons (.int .i64) (.cons (.int .i64) (.cons (.int .i64) yh)))),[(3,0),(3,1),(68,2)],0⟩),(244,⟨true,.cons (.int .i64) (.cons (.int .i64) (.cons (.int .i64) (.cons (.int .i64) (.cons (.int .i64) yh)))),[(3,0),(3,1),(68,2)],0⟩),(245,⟨false,.one (.sl (.cons (.int .i64) (.cons (.int .i64) (.cons (.int .i64) (.cons (.int .i64) (.cons (.int .i64) yh)))))),[],244⟩),(259,⟨false,.one (.sl wV),[],392⟩),(260,⟨true,yW,[(3,0),(3,1),(3,2),(3,3),(259,4)],0⟩),(261,⟨true,yW,[(3,0),(3,1),(3,2),(3,3),(259,4)],0⟩),(262,⟨true,yX,[(3,0),(22,1),(3,2),(261,3),(83,8),(3,19),(3,20)],0⟩),(263,⟨true,yX,[(3,0),(22,1),(3,2),(261,3),(83,8),(3,19),(3,20)],0⟩),(301,⟨false,.one (.int .i8),[],0⟩),(319,⟨true,xa,[(3,0),(3,1),(3,2),(3,3),(4,4)],0⟩),(320,⟨true,xa,[(3,0),(3,1),(3,2),(3,3),(4,4)],0⟩),(321,⟨true,xV,[(3,0),(3,1),(3,2)],0⟩),(322,⟨true,xV,[(3,0),(3,1),(3,2)],0⟩),(331,⟨true,z0,[(4,0),(3,1),(4,2),(95,3)],0⟩),(332,⟨true,z0,[(4,0),(3,1),(4,2),(95,3)],0⟩),(334,⟨true,xa,[(3,0),(3,1),(3,2),(3,3),(4,4)],0⟩),(366,⟨true,Bo,[(22,0),(3,1),(4,2)],0⟩),(367,⟨true,Bo,[(22,0),(3,1),(4,2)],0⟩),(372,⟨true,xV,[(3,0),(3,1),(3,2)],0⟩),(387,⟨false,.one (.sl yU),[],27⟩),(390,⟨true,AN,[(3,0),(3,1),(9,2),(27,3)],0⟩),(391,⟨true,wV,[(27,0),(390,1)],0⟩),(392,⟨true,wV,[(27,0),(390,1)],0⟩),(417,⟨false,.one (.int .u32),[],0⟩),(418,⟨false,.one (.int .u8),[],0⟩),(419,⟨false,.one (.int .u8),[],0⟩),(422,⟨false,.one (.int .i32),[],0⟩),(423,⟨false,.one (.int .i32),[],0⟩)]
theorem tisT:zi Tryz.prog tis:=zi.of_all (by kernel_rfl)
theorem Y7:N7 Tryz.prog tis:=N7.of_all (by kernel_rfl)
theorem tisD:Deep Tryz.prog tis:=Deep.of_all (by kernel_rfl)
theorem By:Tryz.prog.follows .mixedOrders=true:=by kernel_rfl
def yi (fn:Func):Code:=match fn.body with|some c=>c|none=>.skip
theorem sJ:zv Tryz.prog ⟨tis,[],[],false⟩:=⟨tisT,Y7,(λf F h=>by cases h),(λf M h=>by cases h),(λh=>by cases h)⟩
theorem YH {l : List (FuncId×Fn)} (g : zv Tryz.prog ⟨tis, l, [], false⟩) (n : FuncId) (f : Func) (ann : List (Nat×wP)) (F : Fn) (h1 : Tryz.prog.funcs[n]?=some f) (h2 : (f.name == "runtime.NumGoroutine")=false := by kernel_rfl) (h3 : f.body=some (yi f) := by kernel_rfl) (h4 : IR ⟨tis, l, [], false⟩ ann f (yi f) F.ps F.rs=F.den := by kernel_rfl) : Es Tryz.prog n F := by
 have h:=Ny (ann:=ann) (ps:=F.ps) (rs:=F.rs) g By h1 h2 h3;rw[h4]at h;exact h
abbrev FL:=List (FuncId×Fn)
def Gd (a:FL):Prop:=zv Tryz.prog ⟨tis,a,[],false⟩
theorem wM {l : List (FuncId×Fn)} (g : Gd l) (n : FuncId) (f : Func) (ann : List (Nat×wP)) {F : Fn} (h1 : Tryz.prog.funcs[n]?=some f) (h2 : (f.name == "runtime.NumGoroutine")=false := by kernel_rfl) (h3 : f.body=some (yi f) := by kernel_rfl) (h4 : IR ⟨tis, l, [], false⟩ ann f (yi f) F.ps F.rs=F.den := by kernel_rfl) : Gd ((n, F)::l) := zv.cons g (YH g n f ann F h1 h2 h3 h4)
def jc (b:List Pt) (c:Int):Option Int :=let a:=wE (c-(b.length:Int)); cond (decide (a<0)) (some (-1)) (some a)
def mP:FL:=(172,⟨[.val false (.one (.sl z0)) false,.val false wI false],[.val false wI (some true)],λa=>jc a.1 a.2⟩)::[]
theorem sK:Gd mP:=wM sJ 172 Tryz.f172 [] Tryz.func172
def jd (b:List wJ) (c:Int):Option Int :=let a:=wE (c-(b.length:Int)); cond (decide (a<0)) (some (-1)) (some a)
def mQ:FL:=(173,⟨[.val false (.one (.sl xa)) false,.val false wI false],[.val false wI (some true)],λa=>jd a.1 a.2⟩)::mP
theorem sL:Gd mQ:=wM sK 173 Tryz.f173 [] Tryz.func173
def je (b:List wY) (c:Int):Option Int :=let a:=wE (c-(b.length:Int)); cond (decide (a<0)) (some (-1)) (some a)
def mR:FL:=(261,⟨[.val false (.one (.sl xV)) false,.val false wI false],[.val false wI (some true)],λa=>je a.1 a.2⟩)::mQ
theorem sM:Gd mR:=wM sL 261 Tryz.f261 [] Tryz.func261
def fj (b:List Int) (c:Int):Option Int :=let a:=wE (c-(b.length:Int)); cond (decide (a<0)) (some (-1)) (some a)
def mS:FL:=(262,⟨[.val false yU false,.val false wI false],[.val false wI (some true)],λa=>fj a.1 a.2⟩)::mR
theorem sN:Gd mS:=wM sM 262 Tryz.f262 [] Tryz.func262
def jf (a:xO) (d:Int):Option Int :=(je a.1 d).bind λb =>cond (decide (b<0)) (some (-1)) ((fj a.2 b).bind λc =>cond (decide (c<0)) (some (-1)) (some c))
def mT:FL:=(174,⟨[.val true yQ false,.val false wI false],[.val false wI (some true)],λa=>jf a.1 a.2⟩)::mS
theorem sO:Gd mT:=wM sN 174 Tryz.f174 [] Tryz.func174
def gQ (a:wD) (f:Int):Option Int :=let b:=wE (f-(a.2.1.length:Int)); cond (decide (b<0)) (some (-1)) ((jc a.2.2.1 b).bind λc =>cond (decide (c<0)) (some (-1)) ((jd a.2.2.2.1 c).bind λd =>cond (decide (d<0)) (some (-1)) ((jf (a.2.2.2.2.1,a.2.2.2.2.2.1) d).bind λe =>cond (decide (e<0)) (some (-1)) (some e))))
def mU:FL:=(103,⟨[.val true wR false,.val false wI false],[.val false wI (some true)],λa=>gQ a.1 a.2⟩)::mT
theorem sP:Gd mU:=wM sO 103 Tryz.f103 [] Tryz.func103
def fk (b:List Int) (c:Int):Option Int :=let a:=wE (c-(b.length:Int)); cond (decide (a<0)) (some (-1)) (some a)
def mV:FL:=(81,⟨[.val false yh false,.val false wI false],[.val false wI (some true)],λa=>fk a.1 a.2⟩)::mU
theorem sQ:Gd mV:=wM sP 81 Tryz.f81 [] Tryz.func81
def jg (a:zH) (d:Int):Option Int :=let b:=wE (d-(a.2.2.1.length:Int)); cond (decide (b<0)) (some (-1)) ((fj a.2.2.2 b).bind λc =>cond (decide (c<0)) (some (-1)) (some c))
def mW:FL:=(379,⟨[.val true AN false,.val false wI false],[.val false wI (some true)],λa=>jg a.1 a.2⟩)::mV
theorem sR:Gd mW:=wM sQ 379 Tryz.f379 [] Tryz.func379
def gR (a:wF) (d:Int):Option Int :=(fj a.1 d).bind λb =>cond (decide (b<0)) (some (-1)) ((jg a.2 b).bind λc =>cond (decide (c<0)) (some (-1)) (some c))
def mX:FL:=(363,⟨[.val true wV false,.val false wI false],[.val false wI (some true)],λa=>gR a.1 a.2⟩)::mW
theorem sS:Gd mX:=wM sR 363 Tryz.f363 [] Tryz.func363
def mY (b:List wF) (c:Int) (a:Int):Option ((Int×Int)⊕(Int⊕Int)) :=cond (decide (a<(b.length:Int))) ((at? b a).bind λe =>(gR e c).bind λd =>cond (decide (d<0)) (some (.inr (.inr (-1)))) (some (.inl (d,wE (a+1))))) (some (.inr (.inl c)))
def jh (a:List wF) (d:Int):Option Int :=let b:=wE (d-(a.length:Int)); cond (decide (b<0)) (some (-1)) ((loop (λc=>mY a c.1 c.2) (b,0)).bind (Sum.elim (λe =>some e) (λf=>some f)))
def mZ:FL:=(328,⟨[.val false (.one (.sl wV)) false,.val false wI false],[.val false wI (some true)],λa=>jh a.1 a.2⟩)::mX
theorem sT:Gd mZ:=wM sS 328 Tryz.f328 [(0,⟨⟨[(1,false,[dI]),(5,false,[dI])],[]⟩,
 ⟨[(1,false,[dI])],[]⟩,some ⟨[(4,false,[dI])],[]⟩⟩)] Tryz.func328
def ji (b:xg) (c:Int):Option Int :=(jh b.2.2.2.2 c).bind λa =>cond (decide (a<0)) (some (-1)) (some a)
def n7:FL:=(263,⟨[.val true yW false,.val false wI false],[.val false wI (some true)],λa=>ji a.1 a.2⟩)::mZ
theorem sU:Gd n7:=wM sT 263 Tryz.f263 [] Tryz.func263
def gS (a:xl) (e:Int):Option Int :=(fk a.2.1 e).bind λb =>cond (decide (b<0)) (some (-1)) ((ji (a.2.2.2.1,a.2.2.2.2.1,a.2.2.2.2.2.1,a.2.2.2.2.2.2.1,a.2.2.2.2.2.2.2.1) b).bind λc =>cond (decide (c<0)) (some (-1)) ((gQ (a.2.2.2.2.2.2.2.2.1,a.2.2.2.2.2.2.2.2.2.1,a.2.2.2.2.2.2.2.2.2.2.1,a.2.2.2.2.2.2.2.2.2.2.2.1,a.2.2.2.2.2.2.2.2.2.2.2.2.1,a.2.2.2.2.2.2.2.2.2.2.2.2.2.1,a.2.2.2.2.2.2.2.2.2.2.2.2.2.2.1,a.2.2.2.2.2.2.2.2.2.2.2.2.2.2.2.1,a.2.2.2.2.2.2.2.2.2.2.2.2.2.2.2.2.1,a.2.2.2.2.2.2.2.2.2.2.2.2.2.2.2.2.2.1,a.2.2.2.2.2.2.2.2.2.2.2.2.2.2.2.2.2.2.1) c).bind λd =>cond (decide (d<0)) (some (-1)) (some d)))
def n8:FL:=(175,⟨[.val true yX false,.val false wI false],[.val false wI (some true)],λa=>gS a.1 a.2⟩)::n7
theorem sV:Gd n8:=wM sU 175 Tryz.f175 [] Tryz.func175
def n9 (b:List xl) (c:Int) (a:Int):Option ((Int×Int)⊕(Int⊕Int)) :=cond (decide (a<(b.length:Int))) ((at? b a).bind λe =>(gS e c).bind λd =>cond (decide (d<0)) (some (.inr (.inr (-1)))) (some (.inl (d,wE (a+1))))) (some (.inr (.inl c)))
def jj (a:List xl) (d:Int):Option Int :=let b:=wE (d-(a.length:Int)); cond (decide (b<0)) (some (-1)) ((loop (λc=>n9 a c.1 c.2) (b,0)).bind (Sum.elim (λe =>some e) (λf=>some f)))
def na:FL:=(104,⟨[.val false (.one (.sl yX)) false,.val false wI false],[.val false wI (some true)],λa=>jj a.1 a.2⟩)::n8
theorem sW:Gd na:=wM sV 104 Tryz.f104 [(0,⟨⟨[(1,false,[dI]),(5,false,[dI])],[]⟩,
 ⟨[(1,false,[dI])],[]⟩,some ⟨[(4,false,[dI])],[]⟩⟩)] Tryz.func104
def ja (a:wW) (e:Int):Option Int :=(gQ (a.1,a.2.1,a.2.2.1,a.2.2.2.1,a.2.2.2.2.1,a.2.2.2.2.2.1,a.2.2.2.2.2.2.1,a.2.2.2.2.2.2.2.1,a.2.2.2.2.2.2.2.2.1,a.2.2.2.2.2.2.2.2.2.1,a.2.2.2.2.2.2.2.2.2.2.1) e).bind λb =>cond (decide (b<0)) (some (-1)) (let c:=wE (b-(a.2.2.2.2.2.2.2.2.2.2.2.1.length:Int)); cond (decide (c<0)) (some (-1)) ((jj a.2.2.2.2.2.2.2.2.2.2.2.2.1 c).bind λd =>cond (decide (d<0)) (some (-1)) (some d)))
def nb:FL:=(29,⟨[.val true xv false,.val false wI false],[.val false wI (some true)],λa=>ja a.1 a.2⟩)::na
theorem sX:Gd nb:=wM sW 29 Tryz.f29 [] Tryz.func29
def iT (a:Bv):Option Bv :=some a
def nc:FL:=(123,⟨[.val true B0 false],[.val true B0 (some true)],λa=>iT a⟩)::nb
theorem sY:Gd nc:=wM sX 123 Tryz.f123 [] Tryz.func123
def jk (b:Pt):Option Pt :=(iT b.2.2.2).bind λa =>some (b.1,b.2.1,b.2.2.1,a.1,a.2.1,a.2.2.1,a.2.2.2.1,a.2.2.2.2)
def nd:FL:=(279,⟨[.val true z0 false],[.val true z0 (some true)],λa=>jk a⟩)::nc
theorem sZ:Gd nd:=wM sY 279 Tryz.f279 [] Tryz.func279
def ta (c:List Pt) (a:Int) (b:List Pt):Option ((Int×List Pt)⊕(List Pt)) :=cond (decide (a<(c.length:Int))) ((at? c a).bind λe =>(jk e).bind λf =>(ix b.length a).bind λd =>(b[d]?).bind λg =>some (.inl (wE (a+1),b.set d f))) (some (.inr b))
def jl (a:List Pt):Option (List Pt) :=(Ck (a.length:Int)).bind λc =>(loop (λb=>ta a b.1 b.2) (0,List.replicate c ((false,0,false,0,0,0,0,0):Pt))).bind λd =>some d
def ne:FL:=(184,⟨[.val false (.one (.sl z0)) false],[.val false (.one (.sl z0)) (some true)],λa=>jl a⟩)::nd
theorem tb:Gd ne:=wM sZ 184 Tryz.f184 [(0,⟨⟨[(4,false,[dI])],[(265216,.keep z0 true)]⟩,
 ⟨[],[(265216,.keep z0 true)]⟩,none⟩)] Tryz.func184
def jm (a:wJ):Option wJ :=some a
def ng:FL:=(280,⟨[.val true xa false],[.val true xa (some true)],λa=>jm a⟩)::ne
theorem td:Gd ng:=wM tb 280 Tryz.f280 [] Tryz.func280
def te (c:List wJ) (a:Int) (b:List wJ):Option ((Int×List wJ)⊕(List wJ)) :=cond (decide (a<(c.length:Int))) ((at? c a).bind λe =>(jm e).bind λf =>(ix b.length a).bind λd =>(b[d]?).bind λg =>some (.inl (wE (a+1),b.set d f))) (some (.inr b))
def jn (a:List wJ):Option (List wJ) :=(Ck (a.length:Int)).bind λc =>(loop (λb=>te a b.1 b.2) (0,List.replicate c ((0,0,0,0,false):wJ))).bind λd =>some d
def nh:FL:=(185,⟨[.val false (.one (.sl xa)) false],[.val false (.one (.sl xa)) (some true)],λa=>jn a⟩)::ng
theorem tg:Gd nh:=wM td 185 Tryz.f185 [(0,⟨⟨[(4,false,[dI])],[(265216,.keep xa true)]⟩,
 ⟨[],[(265216,.keep xa true)]⟩,none⟩)] Tryz.func185
def jo (a:wY):Option wY :=some a
def ni:FL:=(340,⟨[.val true xV false],[.val true xV (some true)],λa=>jo a⟩)::nh
theorem tj:Gd ni:=wM tg 340 Tryz.f340 [] Tryz.func340
def tk (c:List wY) (a:Int) (b:List wY):Option ((Int×List wY)⊕(List wY)) :=cond (decide (a<(c.length:Int))) ((at? c a).bind λe =>(jo e).bind λf =>(ix b.length a).bind λd =>(b[d]?).bind λg =>some (.inl (wE (a+1),b.set d f))) (some (.inr b))
def jp (a:List wY):Option (List wY) :=(Ck (a.length:Int)).bind λc =>(loop (λb=>tk a b.1 b.2) (0,List.replicate c ((0,0,0):wY))).bind λd =>some d
def nj:FL:=(281,⟨[.val false (.one (.sl xV)) false],[.val false (.one (.sl xV)) (some true)],λa=>jp a⟩)::ni
theorem tn:Gd nj:=wM tj 281 Tryz.f281 [(0,⟨⟨[(4,false,[dI])],[(265216,.keep xV true)]⟩,
 ⟨[],[(265216,.keep xV true)]⟩,none⟩)] Tryz.func281
def to (c:List Int) (a:Int) (b:List Int):Option ((Int×List Int)⊕(List Int)) :=cond (decide (a<(c.length:Int))) ((at? c a).bind λe =>(ix b.length a).bind λd =>(b[d]?).bind λf =>some (.inl (wE (a+1),b.set d e))) (some (.inr b))
def fm (a:List Int):Option (List Int) :=(Ck (a.length:Int)).bind λc =>(loop (λb=>to a b.1 b.2) (0,List.replicate c (0:Int))).bind λd =>some d
def nk:FL:=(282,⟨[.val false yU false],[.val false yU (some true)],λa=>fm a⟩)::nj
theorem tq:Gd nk:=wM tn 282 Tryz.f282 [(0,⟨⟨[(4,false,[dI])],[(265216,.keep wI true)]⟩,
 ⟨[],[(265216,.keep wI true)]⟩,none⟩)] Tryz.func282
def gT (a:xO):Option xO :=(jp a.1).bind λb =>(fm a.2).bind λc =>some (b,c)
def nl:FL:=(186,⟨[.val true yQ false],[.val true yQ (some true)],λa=>gT a⟩)::nk
theorem tu:Gd nl:=wM tq 186 Tryz.f186 [] Tryz.func186
def fo (a:wD):Option wD :=(jl a.2.2.1).bind λc =>(jn a.2.2.2.1).bind λd =>(gT (a.2.2.2.2.1,a.2.2.2.2.2.1)).bind λb =>some (a.1,a.2.1,c,d,b.1,b.2,a.2.2.2.2.2.2.1,a.2.2.2.2.2.2.2.1,a.2.2.2.2.2.2.2.2.1,a.2.2.2.2.2.2.2.2.2.1,a.2.2.2.2.2.2.2.2.2.2)
def nn:FL:=(109,⟨[.val true wR false],[.val true wR (some true)],λa=>fo a⟩)::nl
theorem tv:Gd nn:=wM tu 109 Tryz.f109 [] Tryz.func109
def tz (c:List Int) (a:Int) (b:List Int):Option ((Int×List Int)⊕(List Int)) :=cond (decide (a<(c.length:Int))) ((at? c a).bind λe =>(ix b.length a).bind λd =>(b[d]?).bind λf =>some (.inl (wE (a+1),b.set d e))) (some (.inr b))
def em (a:List Int):Option (List Int) :=(Ck (a.length:Int)).bind λc =>(loop (λb=>tz a b.1 b.2) (0,List.replicate c (0:Int))).bind λd =>some d
def np:FL:=(86,⟨[.val false yh false],[.val false yh (some true)],λa=>em a⟩)::nn
theorem tA:Gd np:=wM tv 86 Tryz.f86 [(0,⟨⟨[(4,false,[dI])],[(265216,.keep (.one (.int .u8)) true)]⟩,
 ⟨[],[(265216,.keep (.one (.int .u8)) true)]⟩,none⟩)] Tryz.func86
def gU (a:zH):Option zH :=(fm a.2.2.2).bind λb =>some (a.1,a.2.1,a.2.2.1,b)
def nq:FL:=(387,⟨[.val true AN false],[.val true AN (some true)],λa=>gU a⟩)::np
theorem tB:Gd nq:=wM tA 387 Tryz.f387 [] Tryz.func387
def fp (b:wF):Option wF :=(fm b.1).bind λc =>(gU b.2).bind λa =>some (c,a.1,a.2.1,a.2.2.1,a.2.2.2)
def nr:FL:=(369,⟨[.val true wV false],[.val true wV (some true)],λa=>fp a⟩)::nq
theorem tC:Gd nr:=wM tB 369 Tryz.f369 [] Tryz.func369
def tD (c:List wF) (a:Int) (b:List wF):Option ((Int×List wF)⊕(List wF)) :=cond (decide (a<(c.length:Int))) ((at? c a).bind λe =>(fp e).bind λf =>(ix b.length a).bind λd =>(b[d]?).bind λg =>some (.inl (wE (a+1),b.set d f))) (some (.inr b))
def jq (a:List wF):Option (List wF) :=(Ck (a.length:Int)).bind λc =>(loop (λb=>tD a b.1 b.2) (0,List.replicate c (([],0,0,[],[]):wF))).bind λd =>some d
def nu:FL:=(341,⟨[.val false (.one (.sl wV)) false],[.val false (.one (.sl wV)) (some true)],λa=>jq a⟩)::nr
theorem tE:Gd nu:=wM tC 341 Tryz.f341 [(0,⟨⟨[(4,false,[dI])],[(265216,.keep wV true)]⟩,
 ⟨[],[(265216,.keep wV true)]⟩,none⟩)] Tryz.func341
def fq (a:xg):Option xg :=(jq a.2.2.2.2).bind λb =>some (a.1,a.2.1,a.2.2.1,a.2.2.2.1,b)
def nv:FL:=(283,⟨[.val true yW false],[.val true yW (some true)],λa=>fq a⟩)::nu
theorem tF:Gd nv:=wM tE 283 Tryz.f283 [] Tryz.func283
def fr (a:xl):Option xl :=(em a.2.1).bind λd =>(fq (a.2.2.2.1,a.2.2.2.2.1,a.2.2.2.2.2.1,a.2.2.2.2.2.2.1,a.2.2.2.2.2.2.2.1)).bind λc =>(fo (a.2.2.2.2.2.2.2.2.1,a.2.2.2.2.2.2.2.2.2.1,a.2.2.2.2.2.2.2.2.2.2.1,a.2.2.2.2.2.2.2.2.2.2.2.1,a.2.2.2.2.2.2.2.2.2.2.2.2.1,a.2.2.2.2.2.2.2.2.2.2.2.2.2.1,a.2.2.2.2.2.2.2.2.2.2.2.2.2.2.1,a.2.2.2.2.2.2.2.2.2.2.2.2.2.2.2.1,a.2.2.2.2.2.2.2.2.2.2.2.2.2.2.2.2.1,a.2.2.2.2.2.2.2.2.2.2.2.2.2.2.2.2.2.1,a.2.2.2.2.2.2.2.2.2.2.2.2.2.2.2.2.2.2.1)).bind λb =>some (a.1,d,a.2.2.1,c.1,c.2.1,c.2.2.1,c.2.2.2.1,c.2.2.2.2,b.1,b.2.1,b.2.2.1,b.2.2.2.1,b.2.2.2.2.1,b.2.2.2.2.2.1,b.2.2.2.2.2.2.1,b.2.2.2.2.2.2.2.1,b.2.2.2.2.2.2.2.2.1,b.2.2.2.2.2.2.2.2.2.1,b.2.2.2.2.2.2.2.2.2.2,a.2.2.2.2.2.2.2.2.2.2.2.2.2.2.2.2.2.2.2.1,a.2.2.2.2.2.2.2.2.2.2.2.2.2.2.2.2.2.2.2.2)
def nx:FL:=(187,⟨[.val true yX false],[.val true yX (some true)],λa=>fr a⟩)::nv
theorem tG:Gd nx:=wM tF 187 Tryz.f187 [] Tryz.func187
def tH (c:List xl) (a:Int) (b:List xl):Option ((Int×List xl)⊕(List xl)) :=cond (decide (a<(c.length:Int))) ((at? c a).bind λe =>(fr e).bind λf =>(ix b.length a).bind λd =>(b[d]?).bind λg =>some (.inl (wE (a+1),b.set d f))) (some (.inr b))
def jr (a:List xl):Option (List xl) :=(Ck (a.length:Int)).bind λc =>(loop (λb=>tH a b.1 b.2) (0,List.replicate c ((0,[],0,0,0,0,0,[],0,[],[],[],[],[],0,0,0,0,0,0,0):xl))).bind λd =>some d
def ny:FL:=(110,⟨[.val false (.one (.sl yX)) false],[.val false (.one (.sl yX)) (some true)],λa=>jr a⟩)::nx
theorem tI:Gd ny:=wM tG 110 Tryz.f110 [(0,⟨⟨[(4,false,[dI])],[(265216,.keep yX true)]⟩,
 ⟨[],[(265216,.keep yX true)]⟩,none⟩)] Tryz.func110
def cI (a:wW):Option wW :=(fo (a.1,a.2.1,a.2.2.1,a.2.2.2.1,a.2.2.2.2.1,a.2.2.2.2.2.1,a.2.2.2.2.2.2.1,a.2.2.2.2.2.2.2.1,a.2.2.2.2.2.2.2.2.1,a.2.2.2.2.2.2.2.2.2.1,a.2.2.2.2.2.2.2.2.2.2.1)).bind λb =>(jr a.2.2.2.2.2.2.2.2.2.2.2.2.1).bind λc =>some (b.1,b.2.1,b.2.2.1,b.2.2.2.1,b.2.2.2.2.1,b.2.2.2.2.2.1,b.2.2.2.2.2.2.1,b.2.2.2.2.2.2.2.1,b.2.2.2.2.2.2.2.2.1,b.2.2.2.2.2.2.2.2.2.1,b.2.2.2.2.2.2.2.2.2.2,a.2.2.2.2.2.2.2.2.2.2.2.1,c,a.2.2.2.2.2.2.2.2.2.2.2.2.2.1,a.2.2.2.2.2.2.2.2.2.2.2.2.2.2)
def nz:FL:=(31,⟨[.val true xv false],[.val true xv (some true)],λa=>cI a⟩)::ny
theorem tJ:Gd nz:=wM tI 31 Tryz.f31 [] Tryz.func31
def eX (a:Bv) (b:Bv):Option Bool :=cond (a.1 != b.1) (some false) (cond (a.2.1 != b.2.1) (some false) (cond (a.2.2.1 != b.2.2.1) (some false) (cond (a.2.2.2.1 != b.2.2.2.1) (some false) (cond (a.2.2.2.2 != b.2.2.2.2) (some false) (some true)))))
def nA:FL:=(126,⟨[.val true B0 false,.val true B0 false],[.val false xo (some true)],λa=>eX a.1 a.2⟩)::nz
theorem tK:Gd nA:=wM tJ 126 Tryz.f126 [] Tryz.func126
def ft (a:Pt) (b:Pt):Option Bool :=cond (!(a.1==b.1)) (some false) (cond (a.2.1 != b.2.1) (some false) (cond (!(a.2.2.1==b.2.2.1)) (some false) ((eX a.2.2.2 b.2.2.2).bind λc =>cond (!c) (some false) (some true))))
def nB:FL:=(284,⟨[.val true z0 false,.val true z0 false],[.val false xo (some true)],λa=>ft a.1 a.2⟩)::nA
theorem tL:Gd nB:=wM tK 284 Tryz.f284 [] Tryz.func284
def tM (b:List Pt) (c:List Pt) (a:Int):Option (Int⊕(Unit⊕Bool)) :=cond (decide (a<(b.length:Int))) ((at? b a).bind λd =>(at? c a).bind λe =>(ft d e).bind λf =>cond (!f) (some (.inr (.inr false))) (some (.inl (wE (a+1))))) (some (.inr (.inl ())))
def js (a:List Pt) (b:List Pt):Option Bool :=cond ((a.length:Int) != (b.length:Int)) (some false) ((loop (λc=>tM a b c) 0).bind (Sum.elim (λe =>some true) (λd=>some d)))
def nC:FL:=(188,⟨[.val false (.one (.sl z0)) false,.val false (.one (.sl z0)) false],[.val false xo (some true)],λa=>js a.1 a.2⟩)::nB
theorem tN:Gd nC:=wM tL 188 Tryz.f188 [(0,⟨⟨[(5,false,[dI])],[]⟩,
 ⟨[],[]⟩,some ⟨[(4,false,[dB])],[]⟩⟩)] Tryz.func188
def fu (a:wJ) (b:wJ):Option Bool :=cond (a.1 != b.1) (some false) (cond (a.2.1 != b.2.1) (some false) (cond (a.2.2.1 != b.2.2.1) (some false) (cond (a.2.2.2.1 != b.2.2.2.1) (some false) (cond (!(a.2.2.2.2==b.2.2.2.2)) (some false) (some true)))))
def nD:FL:=(285,⟨[.val true xa false,.val true xa false],[.val false xo (some true)],λa=>fu a.1 a.2⟩)::nC
theorem tO:Gd nD:=wM tN 285 Tryz.f285 [] Tryz.func285
def tP (b:List wJ) (c:List wJ) (a:Int):Option (Int⊕(Unit⊕Bool)) :=cond (decide (a<(b.length:Int))) ((at? b a).bind λd =>(at? c a).bind λe =>(fu d e).bind λf =>cond (!f) (some (.inr (.inr false))) (some (.inl (wE (a+1))))) (some (.inr (.inl ())))
def jt (a:List wJ) (b:List wJ):Option Bool :=cond ((a.length:Int) != (b.length:Int)) (some false) ((loop (λc=>tP a b c) 0).bind (Sum.elim (λe =>some true) (λd=>some d)))
def nE:FL:=(189,⟨[.val false (.one (.sl xa)) false,.val false (.one (.sl xa)) false],[.val false xo (some true)],λa=>jt a.1 a.2⟩)::nD
theorem tQ:Gd nE:=wM tO 189 Tryz.f189 [(0,⟨⟨[(5,false,[dI])],[]⟩,
 ⟨[],[]⟩,some ⟨[(4,false,[dB])],[]⟩⟩)] Tryz.func189
def fv (a:wY) (b:wY):Option Bool :=cond (a.1 != b.1) (some false) (cond (a.2.1 != b.2.1) (some false) (cond (a.2.2 != b.2.2) (some false) (some true)))
def nF:FL:=(342,⟨[.val true xV false,.val true xV false],[.val false xo (some true)],λa=>fv a.1 a.2⟩)::nE
theorem tR:Gd nF:=wM tQ 342 Tryz.f342 [] Tryz.func342
def tS (b:List wY) (c:List wY) (a:Int):Option (Int⊕(Unit⊕Bool)) :=cond (decide (a<(b.length:Int))) ((at? b a).bind λd =>(at? c a).bind λe =>(fv d e).bind λf =>cond (!f) (some (.inr (.inr false))) (some (.inl (wE (a+1))))) (some (.inr (.inl ())))
def ju (a:List wY) (b:List wY):Option Bool :=cond ((a.length:Int) != (b.length:Int)) (some false) ((loop (λc=>tS a b c) 0).bind (Sum.elim (λe =>some true) (λd=>some d)))
def nG:FL:=(286,⟨[.val false (.one (.sl xV)) false,.val false (.one (.sl xV)) false],[.val false xo (some true)],λa=>ju a.1 a.2⟩)::nF
theorem tT:Gd nG:=wM tR 286 Tryz.f286 [(0,⟨⟨[(5,false,[dI])],[]⟩,
 ⟨[],[]⟩,some ⟨[(4,false,[dB])],[]⟩⟩)] Tryz.func286
def tU (b:List Int) (c:List Int) (a:Int):Option (Int⊕(Unit⊕Bool)) :=cond (decide (a<(b.length:Int))) ((at? b a).bind λd =>(at? c a).bind λe =>cond (d != e) (some (.inr (.inr false))) (some (.inl (wE (a+1))))) (some (.inr (.inl ())))
def fw (a:List Int) (b:List Int):Option Bool :=cond ((a.length:Int) != (b.length:Int)) (some false) ((loop (λc=>tU a b c) 0).bind (Sum.elim (λe =>some true) (λd=>some d)))
def nH:FL:=(287,⟨[.val false yU false,.val false yU false],[.val false xo (some true)],λa=>fw a.1 a.2⟩)::nG
theorem tV:Gd nH:=wM tT 287 Tryz.f287 [(0,⟨⟨[(5,false,[dI])],[]⟩,
 ⟨[],[]⟩,some ⟨[(4,false,[dB])],[]⟩⟩)] Tryz.func287
def gV (a:xO) (b:xO):Option Bool :=(ju a.1 b.1).bind λc =>cond (!c) (some false) ((fw a.2 b.2).bind λd =>cond (!d) (some false) (some true))
def nI:FL:=(190,⟨[.val true yQ false,.val true yQ false],[.val false xo (some true)],λa=>gV a.1 a.2⟩)::nH
theorem tW:Gd nI:=wM tV 190 Tryz.f190 [] Tryz.func190
def fx (a:wD) (b:wD):Option Bool :=cond (a.1 != b.1) (some false) (cond (!(a.2.1==b.2.1)) (some false) ((js a.2.2.1 b.2.2.1).bind λc =>cond (!c) (some false) ((jt a.2.2.2.1 b.2.2.2.1).bind λd =>cond (!d) (some false) ((gV (a.2.2.2.2.1,a.2.2.2.2.2.1) (b.2.2.2.2.1,b.2.2.2.2.2.1)).bind λe =>cond (!e) (some false) (cond (a.2.2.2.2.2.2.1 != b.2.2.2.2.2.2.1) (some false) (cond (a.2.2.2.2.2.2.2.1 != b.2.2.2.2.2.2.2.1) (some false) (cond (a.2.2.2.2.2.2.2.2.1 != b.2.2.2.2.2.2.2.2.1) (some false) (cond (a.2.2.2.2.2.2.2.2.2.1 != b.2.2.2.2.2.2.2.2.2.1) (some false) (cond (a.2.2.2.2.2.2.2.2.2.2 != b.2.2.2.2.2.2.2.2.2.2) (some false) (some true))))))))))
def nJ:FL:=(111,⟨[.val true wR false,.val true wR false],[.val false xo (some true)],λa=>fx a.1 a.2⟩)::nI
theorem tX:Gd nJ:=wM tW 111 Tryz.f111 [] Tryz.func111
def tY (b:List Int) (c:List Int) (a:Int):Option (Int⊕(Unit⊕Bool)) :=cond (decide (a<(b.length:Int))) ((at? b a).bind λd =>(at? c a).bind λe =>cond (d != e) (some (.inr (.inr false))) (some (.inl (wE (a+1))))) (some (.inr (.inl ())))
def eU (a:List Int) (b:List Int):Option Bool :=cond ((a.length:Int) != (b.length:Int)) (some false) ((loop (λc=>tY a b c) 0).bind (Sum.elim (λe =>some true) (λd=>some d)))
def nK:FL:=(94,⟨[.val false yh false,.val false yh false],[.val false xo (some true)],λa=>eU a.1 a.2⟩)::nJ
theorem tZ:Gd nK:=wM tX 94 Tryz.f94 [(0,⟨⟨[(5,false,[dI])],[]⟩,
 ⟨[],[]⟩,some ⟨[(4,false,[dB])],[]⟩⟩)] Tryz.func94
def gW (a:zH) (b:zH):Option Bool :=cond (a.1 != b.1) (some false) (cond (a.2.1 != b.2.1) (some false) (cond (!(a.2.2.1==b.2.2.1)) (some false) ((fw a.2.2.2 b.2.2.2).bind λc =>cond (!c) (some false) (some true))))
def nL:FL:=(370,⟨[.val true AN false,.val true AN false],[.val false xo (some true)],λa=>gW a.1 a.2⟩)::nK
theorem u0:Gd nL:=wM tZ 370 Tryz.f370 [] Tryz.func370
def fy (a:wF) (b:wF):Option Bool :=(fw a.1 b.1).bind λc =>cond (!c) (some false) ((gW a.2 b.2).bind λd =>cond (!d) (some false) (some true))
def nM:FL:=(343,⟨[.val true wV false,.val true wV false],[.val false xo (some true)],λa=>fy a.1 a.2⟩)::nL
theorem u5:Gd nM:=wM u0 343 Tryz.f343 [] Tryz.func343
def u6 (b:List wF) (c:List wF) (a:Int):Option (Int⊕(Unit⊕Bool)) :=cond (decide (a<(b.length:Int))) ((at? b a).bind λd =>(at? c a).bind λe =>(fy d e).bind λf =>cond (!f) (some (.inr (.inr false))) (some (.inl (wE (a+1))))) (some (.inr (.inl ())))
def jv (a:List wF) (b:List wF):Option Bool :=cond ((a.length:Int) != (b.length:Int)) (some false) ((loop (λc=>u6 a b c) 0).bind (Sum.elim (λe =>some true) (λd=>some d)))
def nN:FL:=(288,⟨[.val false (.one (.sl wV)) false,.val false (.one (.sl wV)) false],[.val false xo (some true)],λa=>jv a.1 a.2⟩)::nM
theorem u7:Gd nN:=wM u5 288 Tryz.f288 [(0,⟨⟨[(5,false,[dI])],[]⟩,
 ⟨[],[]⟩,some ⟨[(4,false,[dB])],[]⟩⟩)] Tryz.func288
def fA (a:xg) (b:xg):Option Bool :=cond (a.1 != b.1) (some false) (cond (a.2.1 != b.2.1) (some false) (cond (a.2.2.1 != b.2.2.1) (some false) (cond (a.2.2.2.1 != b.2.2.2.1) (some false) ((jv a.2.2.2.2 b.2.2.2.2).bind λc =>cond (!c) (some false) (some true)))))
def nO:FL:=(192,⟨[.val true yW false,.val true yW false],[.val false xo (some true)],λa=>fA a.1 a.2⟩)::nN
theorem u9:Gd nO:=wM u7 192 Tryz.f192 [] Tryz.func192
def fB (a:xl) (b:xl):Option Bool :=cond (a.1 != b.1) (some false) ((eU a.2.1 b.2.1).bind λc =>cond (!c) (some false) (cond (a.2.2.1 != b.2.2.1) (some false) ((fA (a.2.2.2.1,a.2.2.2.2.1,a.2.2.2.2.2.1,a.2.2.2.2.2.2.1,a.2.2.2.2.2.2.2.1) (b.2.2.2.1,b.2.2.2.2.1,b.2.2.2.2.2.1,b.2.2.2.2.2.2.1,b.2.2.2.2.2.2.2.1)).bind λd =>cond (!d) (some false) ((fx (a.2.2.2.2.2.2.2.2.1,a.2.2.2.2.2.2.2.2.2.1,a.2.2.2.2.2.2.2.2.2.2.1,a.2.2.2.2.2.2.2.2.2.2.2.1,a.2.2.2.2.2.2.2.2.2.2.2.2.1,a.2.2.2.2.2.2.2.2.2.2.2.2.2.1,a.2.2.2.2.2.2.2.2.2.2.2.2.2.2.1,a.2.2.2.2.2.2.2.2.2.2.2.2.2.2.2.1,a.2.2.2.2.2.2.2.2.2.2.2.2.2.2.2.2.1,a.2.2.2.2.2.2.2.2.2.2.2.2.2.2.2.2.2.1,a.2.2.2.2.2.2.2.2.2.2.2.2.2.2.2.2.2.2.1) (b.2.2.2.2.2.2.2.2.1,b.2.2.2.2.2.2.2.2.2.1,b.2.2.2.2.2.2.2.2.2.2.1,b.2.2.2.2.2.2.2.2.2.2.2.1,b.2.2.2.2.2.2.2.2.2.2.2.2.1,b.2.2.2.2.2.2.2.2.2.2.2.2.2.1,b.2.2.2.2.2.2.2.2.2.2.2.2.2.2.1,b.2.2.2.2.2.2.2.2.2.2.2.2.2.2.2.1,b.2.2.2.2.2.2.2.2.2.2.2.2.2.2.2.2.1,b.2.2.2.2.2.2.2.2.2.2.2.2.2.2.2.2.2.1,b.2.2.2.2.2.2.2.2.2.2.2.2.2.2.2.2.2.2.1)).bind λe =>cond (!e) (some false) (cond (a.2.2.2.2.2.2.2.2.2.2.2.2.2.2.2.2.2.2.2.1 != b.2.2.2.2.2.2.2.2.2.2.2.2.2.2.2.2.2.2.2.1) (some false) (cond (a.2.2.2.2.2.2.2.2.2.2.2.2.2.2.2.2.2.2.2.2 != b.2.2.2.2.2.2.2.2.2.2.2.2.2.2.2.2.2.2.2.2) (some false) (some true)))))))
def nP:FL:=(191,⟨[.val true yX false,.val true yX false],[.val false xo (some true)],λa=>fB a.1 a.2⟩)::nO
theorem ua:Gd nP:=wM u9 191 Tryz.f191 [] Tryz.func191
def ub (b:List xl) (c:List xl) (a:Int):Option (Int⊕(Unit⊕Bool)) :=cond (decide (a<(b.length:Int))) ((at? b a).bind λd =>(at? c a).bind λe =>(fB d e).bind λf =>cond (!f) (some (.inr (.inr false))) (some (.inl (wE (a+1))))) (some (.inr (.inl ())))
def jw (a:List xl) (b:List xl):Option Bool :=cond ((a.length:Int) != (b.length:Int)) (some false) ((loop (λc=>ub a b c) 0).bind (Sum.elim (λe =>some true) (λd=>some d)))
def nQ:FL:=(112,⟨[.val false (.one (.sl yX)) false,.val false (.one (.sl yX)) false],[.val false xo (some true)],λa=>jw a.1 a.2⟩)::nP
theorem uc:Gd nQ:=wM ua 112 Tryz.f112 [(0,⟨⟨[(5,false,[dI])],[]⟩,
 ⟨[],[]⟩,some ⟨[(4,false,[dB])],[]⟩⟩)] Tryz.func112
def cJ (a:wW) (b:wW):Option Bool :=(fx (a.1,a.2.1,a.2.2.1,a.2.2.2.1,a.2.2.2.2.1,a.2.2.2.2.2.1,a.2.2.2.2.2.2.1,a.2.2.2.2.2.2.2.1,a.2.2.2.2.2.2.2.2.1,a.2.2.2.2.2.2.2.2.2.1,a.2.2.2.2.2.2.2.2.2.2.1) (b.1,b.2.1,b.2.2.1,b.2.2.2.1,b.2.2.2.2.1,b.2.2.2.2.2.1,b.2.2.2.2.2.2.1,b.2.2.2.2.2.2.2.1,b.2.2.2.2.2.2.2.2.1,b.2.2.2.2.2.2.2.2.2.1,b.2.2.2.2.2.2.2.2.2.2.1)).bind λc =>cond (!c) (some false) (cond (!(a.2.2.2.2.2.2.2.2.2.2.2.1==b.2.2.2.2.2.2.2.2.2.2.2.1)) (some false) ((jw a.2.2.2.2.2.2.2.2.2.2.2.2.1 b.2.2.2.2.2.2.2.2.2.2.2.2.1).bind λd =>cond (!d) (some false) (cond (a.2.2.2.2.2.2.2.2.2.2.2.2.2.1 != b.2.2.2.2.2.2.2.2.2.2.2.2.2.1) (some false) (cond (a.2.2.2.2.2.2.2.2.2.2.2.2.2.2 != b.2.2.2.2.2.2.2.2.2.2.2.2.2.2) (some false) (some true)))))
def nR:FL:=(33,⟨[.val true xv false,.val true xv false],[.val false xo (some true)],λa=>cJ a.1 a.2⟩)::nQ
theorem ud:Gd nR:=wM uc 33 Tryz.f33 [] Tryz.func33
def fC (a:xZ) (b:xZ):Option Bool :=cond (a.1 != b.1) (some false) ((fA a.2 b.2).bind λc =>cond (!c) (some false) (some true))
def nS:FL:=(113,⟨[.val true Ac false,.val true Ac false],[.val false xo (some true)],λa=>fC a.1 a.2⟩)::nR
theorem ue:Gd nS:=wM ud 113 Tryz.f113 [] Tryz.func113
def uf (b:List xZ) (c:List xZ) (a:Int):Option (Int⊕(Unit⊕Bool)) :=cond (decide (a<(b.length:Int))) ((at? b a).bind λd =>(at? c a).bind λe =>(fC d e).bind λf =>cond (!f) (some (.inr (.inr false))) (some (.inl (wE (a+1))))) (some (.inr (.inl ())))
def fg (a:List xZ) (b:List xZ):Option Bool :=cond ((a.length:Int) != (b.length:Int)) (some false) ((loop (λc=>uf a b c) 0).bind (Sum.elim (λe =>some true) (λd=>some d)))
def nT:FL:=(34,⟨[.val false (.one (.sl Ac)) false,.val false (.one (.sl Ac)) false],[.val false xo (some true)],λa=>fg a.1 a.2⟩)::nS
theorem ug:Gd nT:=wM ue 34 Tryz.f34 [(0,⟨⟨[(5,false,[dI])],[]⟩,
 ⟨[],[]⟩,some ⟨[(4,false,[dB])],[]⟩⟩)] Tryz.func34
def gX (a:Int) (b:List UInt8):Option ((Int×List UInt8)⊕(List UInt8)) :=cond (decide (a>0)) ((MN (xU [IntKind.u8.wrap (wE (48+(a.tmod 10)))]) b).bind λc =>some (.inl (wE (a.tdiv 10),c))) (some (.inr b))
def cG (a:Int):Option (List UInt8) :=cond (decide (a<=0)) (some [109,48]) ((loop (λb=>gX b.1 b.2) (a,[])).bind λc =>(MN [109] c).bind λd =>some d)
def nU:FL:=(163,⟨[.val false wI false],[.val false Ty (some true)],λa=>cG a⟩)::nT
theorem uh:Gd nU:=wM ug 163 Tryz.f163 [(0,⟨⟨[(0,false,[dI]),(3,false,[dS])],[]⟩,
 ⟨[(3,false,[dS])],[]⟩,none⟩)] Tryz.func163
def gY (b:List Pt) (c:Int) (a:Int):Option ((Int×Int)⊕(Int⊕Int)) :=cond (decide (a<(b.length:Int))) ((at? b a).bind λg =>cond (!(g.1==((c.tmod 3)==0))) (some (.inr (.inr (-1)))) ((at? b a).bind λh =>cond (h.2.1 != (wE (c+1))) (some (.inr (.inr (-1)))) (let d:=wE ((wE (c+1))+1); (at? b a).bind λi =>cond (!(i.2.2.1==((d.tmod 3)==0))) (some (.inr (.inr (-1)))) ((at? b a).bind λj =>cond (j.2.2.2.1 != (wE (d+1))) (some (.inr (.inr (-1)))) (let e:=wE ((wE (d+1))+1); (at? b a).bind λk =>cond (k.2.2.2.2.1 != e) (some (.inr (.inr (-1)))) ((at? b a).bind λl =>cond (l.2.2.2.2.2.1 != (wE (e+1))) (some (.inr (.inr (-1)))) (let f:=wE ((wE (e+1))+1); (at? b a).bind λm =>cond (m.2.2.2.2.2.2.1 != f) (some (.inr (.inr (-1)))) ((at? b a).bind λn =>cond (n.2.2.2.2.2.2.2 != (wE (f+1))) (some (.inr (.inr (-1)))) (let o:=wE ((wE (f+1))+1); some (.inl (o,wE (a+1)))))))))))) (some (.inr (.inl c)))
def fD (b:List Pt) (c:Int):Option Int :=(loop (λa=>gY b a.1 a.2) (c,0)).bind (Sum.elim (λd =>some d) (λe=>some e))
def nV:FL:=(168,⟨[.val false (.one (.sl z0)) false,.val false wI false],[.val false wI (some true)],λa=>fD a.1 a.2⟩)::nU
theorem ui:Gd nV:=wM uh 168 Tryz.f168 [(0,⟨⟨[(1,false,[dI]),(5,false,[dI])],[]⟩,
 ⟨[(1,false,[dI])],[]⟩,some ⟨[(4,false,[dI])],[]⟩⟩)] Tryz.func168
def gZ (b:List wJ) (c:Int) (a:Int):Option ((Int×Int)⊕(Int⊕Int)) :=cond (decide (a<(b.length:Int))) ((at? b a).bind λf =>cond (f.1 != c) (some (.inr (.inr (-1)))) ((at? b a).bind λg =>cond (g.2.1 != (wE (c+1))) (some (.inr (.inr (-1)))) (let d:=wE ((wE (c+1))+1); (at? b a).bind λh =>cond (h.2.2.1 != d) (some (.inr (.inr (-1)))) ((at? b a).bind λi =>cond (i.2.2.2.1 != (wE (d+1))) (some (.inr (.inr (-1)))) (let e:=wE ((wE (d+1))+1); (at? b a).bind λj =>cond (!(j.2.2.2.2==((e.tmod 3)==0))) (some (.inr (.inr (-1)))) (some (.inl (wE (e+1),wE (a+1))))))))) (some (.inr (.inl c)))
def fE (b:List wJ) (c:Int):Option Int :=(loop (λa=>gZ b a.1 a.2) (c,0)).bind (Sum.elim (λd =>some d) (λe=>some e))
def nW:FL:=(169,⟨[.val false (.one (.sl xa)) false,.val false wI false],[.val false wI (some true)],λa=>fE a.1 a.2⟩)::nV
theorem uj:Gd nW:=wM ui 169 Tryz.f169 [(0,⟨⟨[(1,false,[dI]),(5,false,[dI])],[]⟩,
 ⟨[(1,false,[dI])],[]⟩,some ⟨[(4,false,[dI])],[]⟩⟩)] Tryz.func169
def hC (b:List wY) (c:Int) (a:Int):Option ((Int×Int)⊕(Int⊕Int)) :=cond (decide (a<(b.length:Int))) ((at? b a).bind λe =>cond (e.1 != c) (some (.inr (.inr (-1)))) ((at? b a).bind λf =>cond (f.2.1 != (wE (c+1))) (some (.inr (.inr (-1)))) (let d:=wE ((wE (c+1))+1); (at? b a).bind λg =>cond (g.2.2 != d) (some (.inr (.inr (-1)))) (some (.inl (wE (d+1),wE (a+1))))))) (some (.inr (.inl c)))
def fF (b:List wY) (c:Int):Option Int :=(loop (λa=>hC b a.1 a.2) (c,0)).bind (Sum.elim (λd =>some d) (λe=>some e))
def nX:FL:=(170,⟨[.val false (.one (.sl xV)) false,.val false wI false],[.val false wI (some true)],λa=>fF a.1 a.2⟩)::nW
theorem uk:Gd nX:=wM uj 170 Tryz.f170 [(0,⟨⟨[(1,false,[dI]),(5,false,[dI])],[]⟩,
 ⟨[(1,false,[dI])],[]⟩,some ⟨[(4,false,[dI])],[]⟩⟩)] Tryz.func170
def hN (c:List Int) (a:Int) (b:Int):Option ((Int×Int)⊕(Int⊕Int)) :=cond (decide (b<(c.length:Int))) ((at? c b).bind λd =>cond (d != a) (some (.inr (.inr (-1)))) (some (.inl (wE (a+1),wE (b+1))))) (some (.inr (.inl a)))
def cK (b:List Int) (c:Int):Option Int :=(loop (λa=>hN b a.1 a.2) (c,0)).bind (Sum.elim (λd =>some d) (λe=>some e))
def nY:FL:=(171,⟨[.val false yU false,.val false wI false],[.val false wI (some true)],λa=>cK a.1 a.2⟩)::nX
theorem ul:Gd nY:=wM uk 171 Tryz.f171 [(0,⟨⟨[(1,false,[dI]),(5,false,[dI])],[]⟩,
 ⟨[(1,false,[dI])],[]⟩,some ⟨[(4,false,[dI])],[]⟩⟩)] Tryz.func171
def jx (a:xO) (d:Int):Option Int :=(fF a.1 d).bind λb =>cond (decide (b<0)) (some (-1)) ((cK a.2 b).bind λc =>cond (decide (c<0)) (some (-1)) (some c))
def nZ:FL:=(194,⟨[.val true yQ false,.val false wI false],[.val false wI (some true)],λa=>jx a.1 a.2⟩)::nY
theorem um:Gd nZ:=wM ul 194 Tryz.f194 [] Tryz.func194
def jy (a:wD) (e:Int):Option Int :=(fD a.2.2.1 e).bind λb =>cond (decide (b<0)) (some (-1)) ((fE a.2.2.2.1 b).bind λc =>cond (decide (c<0)) (some (-1)) ((jx (a.2.2.2.2.1,a.2.2.2.2.2.1) c).bind λd =>cond (decide (d<0)) (some (-1)) (some d)))
def o4:FL:=(117,⟨[.val true wR false,.val false wI false],[.val false wI (some true)],λa=>jy a.1 a.2⟩)::nZ
theorem un:Gd o4:=wM um 117 Tryz.f117 [] Tryz.func117
def hU (c:List Int) (a:Int) (b:Int):Option ((Int×Int)⊕(Int⊕Int)) :=cond (decide (b<(c.length:Int))) ((at? c b).bind λd =>cond (d != (IntKind.u8.wrap (a))) (some (.inr (.inr (-1)))) (some (.inl (wE (a+1),wE (b+1))))) (some (.inr (.inl a)))
def eY (b:List Int) (c:Int):Option Int :=(loop (λa=>hU b a.1 a.2) (c,0)).bind (Sum.elim (λd =>some d) (λe=>some e))
def o5:FL:=(102,⟨[.val false yh false,.val false wI false],[.val false wI (some true)],λa=>eY a.1 a.2⟩)::o4
theorem uo:Gd o5:=wM un 102 Tryz.f102 [(0,⟨⟨[(1,false,[dI]),(5,false,[dI])],[]⟩,
 ⟨[(1,false,[dI])],[]⟩,some ⟨[(4,false,[dI])],[]⟩⟩)] Tryz.func102
def hZ (b:List wF) (d:Int) (a:Int):Option ((Int×Int)⊕(Int⊕Int)) :=cond (decide (a<(b.length:Int))) ((at? b a).bind λg =>(cK g.1 d).bind λc =>cond (decide (c<0)) (some (.inr (.inr (-1)))) ((at? b a).bind λh =>cond (h.2.1 != c) (some (.inr (.inr (-1)))) ((at? b a).bind λi =>cond (i.2.2.1 != (wE (c+1))) (some (.inr (.inr (-1)))) (let e:=wE ((wE (c+1))+1); (at? b a).bind λj =>(cG e).bind λk =>cond (!(j.2.2.2.1==k)) (some (.inr (.inr (-1)))) ((at? b a).bind λl =>(cK l.2.2.2.2 (wE (e+1))).bind λf =>cond (decide (f<0)) (some (.inr (.inr (-1)))) (some (.inl (f,wE (a+1))))))))) (some (.inr (.inl d)))
def fG (b:List wF) (c:Int):Option Int :=(loop (λa=>hZ b a.1 a.2) (c,0)).bind (Sum.elim (λd =>some d) (λe=>some e))
def o7:FL:=(119,⟨[.val false (.one (.sl wV)) false,.val false wI false],[.val false wI (some true)],λa=>fG a.1 a.2⟩)::o5
theorem uq:Gd o7:=wM uo 119 Tryz.f119 [(0,⟨⟨[(1,false,[dI]),(5,false,[dI])],[]⟩,
 ⟨[(1,false,[dI])],[]⟩,some ⟨[(4,false,[dI])],[]⟩⟩)] Tryz.func119
def i0 (b:List xl) (f:Int) (a:Int):Option ((Int×Int)⊕(Int⊕Int)) :=cond (decide (a<(b.length:Int))) ((at? b a).bind λo =>cond (o.1 != f) (some (.inr (.inr (-1)))) ((at? b a).bind λp =>(eY p.2.1 (wE (f+1))).bind λc =>cond (decide (c<0)) (some (.inr (.inr (-1)))) ((at? b a).bind λq =>cond (q.2.2.1 != c) (some (.inr (.inr (-1)))) ((at? b a).bind λr =>cond (r.2.2.2.1 != (wE (c+1))) (some (.inr (.inr (-1)))) (let g:=wE ((wE (c+1))+1); (at? b a).bind λs =>cond (s.2.2.2.2.1 != g) (some (.inr (.inr (-1)))) ((at? b a).bind λt =>cond (t.2.2.2.2.2.1 != (wE (g+1))) (some (.inr (.inr (-1)))) (let j:=wE ((wE (g+1))+1); (at? b a).bind λu =>cond (u.2.2.2.2.2.2.1 != j) (some (.inr (.inr (-1)))) ((at? b a).bind λv =>(fG v.2.2.2.2.2.2.2.1 (wE (j+1))).bind λd =>cond (decide (d<0)) (some (.inr (.inr (-1)))) ((at? b a).bind λw =>cond (w.2.2.2.2.2.2.2.2.1 != d) (some (.inr (.inr (-1)))) ((at? b a).bind λx =>(cG (wE (d+1))).bind λy =>cond (!(x.2.2.2.2.2.2.2.2.2.1==y)) (some (.inr (.inr (-1)))) (let z:=wE ((wE (d+1))+1); (at? b a).bind λA =>(fD A.2.2.2.2.2.2.2.2.2.2.1 z).bind λk =>cond (decide (k<0)) (some (.inr (.inr (-1)))) ((at? b a).bind λB =>(fE B.2.2.2.2.2.2.2.2.2.2.2.1 k).bind λl =>cond (decide (l<0)) (some (.inr (.inr (-1)))) ((at? b a).bind λC =>(fF C.2.2.2.2.2.2.2.2.2.2.2.2.1 l).bind λm =>cond (decide (m<0)) (some (.inr (.inr (-1)))) ((at? b a).bind λD =>(cK D.2.2.2.2.2.2.2.2.2.2.2.2.2.1 m).bind λe =>cond (decide (e<0)) (some (.inr (.inr (-1)))) ((at? b a).bind λE =>cond (E.2.2.2.2.2.2.2.2.2.2.2.2.2.2.1 != e) (some (.inr (.inr (-1)))) ((at? b a).bind λF =>cond (F.2.2.2.2.2.2.2.2.2.2.2.2.2.2.2.1 != (wE (e+1))) (some (.inr (.inr (-1)))) (let h:=wE ((wE (e+1))+1); (at? b a).bind λG =>cond (G.2.2.2.2.2.2.2.2.2.2.2.2.2.2.2.2.1 != h) (some (.inr (.inr (-1)))) ((at? b a).bind λH =>cond (H.2.2.2.2.2.2.2.2.2.2.2.2.2.2.2.2.2.1 != (wE (h+1))) (some (.inr (.inr (-1)))) (let i:=wE ((wE (h+1))+1); (at? b a).bind λI =>cond (I.2.2.2.2.2.2.2.2.2.2.2.2.2.2.2.2.2.2.1 != i) (some (.inr (.inr (-1)))) ((at? b a).bind λJ =>cond (J.2.2.2.2.2.2.2.2.2.2.2.2.2.2.2.2.2.2.2.1 != (wE (i+1))) (some (.inr (.inr (-1)))) (let n:=wE ((wE (i+1))+1); (at? b a).bind λK =>cond (K.2.2.2.2.2.2.2.2.2.2.2.2.2.2.2.2.2.2.2.2 != n) (some (.inr (.inr (-1)))) (some (.inl (wE (n+1),wE (a+1))))))))))))))))))))))))) (some (.inr (.inl f)))
def ia (b:List xl) (c:Int):Option Int :=(loop (λa=>i0 b a.1 a.2) (c,0)).bind (Sum.elim (λd =>some d) (λe=>some e))
def o8:FL:=(118,⟨[.val false (.one (.sl yX)) false,.val false wI false],[.val false wI (some true)],λa=>ia a.1 a.2⟩)::o7
theorem ur:Gd o8:=wM uq 118 Tryz.f118 [(0,⟨⟨[(1,false,[dI]),(5,false,[dI])],[]⟩,
 ⟨[(1,false,[dI])],[]⟩,some ⟨[(4,false,[dI])],[]⟩⟩)] Tryz.func118
def fh (a:wW) (d:Int):Option Int :=(jy (a.1,a.2.1,a.2.2.1,a.2.2.2.1,a.2.2.2.2.1,a.2.2.2.2.2.1,a.2.2.2.2.2.2.1,a.2.2.2.2.2.2.2.1,a.2.2.2.2.2.2.2.2.1,a.2.2.2.2.2.2.2.2.2.1,a.2.2.2.2.2.2.2.2.2.2.1) d).bind λb =>cond (decide (b<0)) (some (-1)) ((ia a.2.2.2.2.2.2.2.2.2.2.2.2.1 b).bind λc =>cond (decide (c<0)) (some (-1)) (some c))
def o9:FL:=(37,⟨[.val true xv false,.val false wI false],[.val false wI (some true)],λa=>fh a.1 a.2⟩)::o8
theorem ut:Gd o9:=wM ur 37 Tryz.f37 [] Tryz.func37
def ib (b:List xZ) (c:Int) (a:Int):Option ((Int×Int)⊕(Int⊕Int)) :=cond (decide (a<(b.length:Int))) ((at? b a).bind λg =>cond (g.1 != c) (some (.inr (.inr (-1)))) ((at? b a).bind λh =>cond (h.2.1 != (wE (c+1))) (some (.inr (.inr (-1)))) (let d:=wE ((wE (c+1))+1); (at? b a).bind λi =>cond (i.2.2.1 != d) (some (.inr (.inr (-1)))) ((at? b a).bind λj =>cond (j.2.2.2.1 != (wE (d+1))) (some (.inr (.inr (-1)))) (let e:=wE ((wE (d+1))+1); (at? b a).bind λk =>cond (k.2.2.2.2.1 != e) (some (.inr (.inr (-1)))) ((at? b a).bind λl =>(fG l.2.2.2.2.2 (wE (e+1))).bind λf =>cond (decide (f<0)) (some (.inr (.inr (-1)))) (some (.inl (f,wE (a+1)))))))))) (some (.inr (.inl c)))
def fi (b:List xZ) (c:Int):Option Int :=(loop (λa=>ib b a.1 a.2) (c,0)).bind (Sum.elim (λd =>some d) (λe=>some e))
def oa:FL:=(38,⟨[.val false (.one (.sl Ac)) false,.val false wI false],[.val false wI (some true)],λa=>fi a.1 a.2⟩)::o9
theorem uu:Gd oa:=wM ut 38 Tryz.f38 [(0,⟨⟨[(1,false,[dI]),(5,false,[dI])],[]⟩,
 ⟨[(1,false,[dI])],[]⟩,some ⟨[(4,false,[dI])],[]⟩⟩)] Tryz.func38
def jz (b:yE) (c:Int):Option Int :=(fk b.2.2.2 c).bind λa =>cond (decide (a<0)) (some (-1)) (some a)
def ob:FL:=(16,⟨[.val true zw false,.val false wI false],[.val false wI (some true)],λa=>jz a.1 a.2⟩)::oa
theorem uv:Gd ob:=wM uu 16 Tryz.f16 [] Tryz.func16
def jb (a:Act) (d:Int):Option Int :=(fk a.2.2.2.1 d).bind λb =>cond (decide (b<0)) (some (-1)) ((jz (a.2.2.2.2.1,a.2.2.2.2.2.1,a.2.2.2.2.2.2.1,a.2.2.2.2.2.2.2.1) b).bind λc =>cond (decide (c<0)) (some (-1)) (some c))
def oc:FL:=(40,⟨[.val true Ao false,.val false wI false],[.val false wI (some true)],λa=>jb a.1 a.2⟩)::ob
theorem uw:Gd oc:=wM uv 40 Tryz.f40 [] Tryz.func40
def fH (a:List wJ):Option (List wJ) :=(app ([]:List wJ) a).bind λb =>some b
def od:FL:=(264,⟨[.val false (.one (.sl xa)) false],[.val false (.one (.sl xa)) (some true)],λa=>fH a⟩)::oc
theorem ux:Gd od:=wM uw 264 Tryz.f264 [] Tryz.func264
def ic (a:xO):Option xO :=(app ([]:List wY) a.1).bind λb =>(app ([]:List Int) a.2).bind λc =>some (b,c)
def oe:FL:=(265,⟨[.val true yQ false],[.val true yQ (some true)],λa=>ic a⟩)::od
theorem uy:Gd oe:=wM ux 265 Tryz.f265 [] Tryz.func265
def af (a:wD):Option wD :=(app ([]:List Pt) a.2.2.1).bind λc =>(fH a.2.2.2.1).bind λd =>(ic (a.2.2.2.2.1,a.2.2.2.2.2.1)).bind λb =>some (a.1,a.2.1,c,d,b.1,b.2,a.2.2.2.2.2.2.1,a.2.2.2.2.2.2.2.1,a.2.2.2.2.2.2.2.2.1,a.2.2.2.2.2.2.2.2.2.1,a.2.2.2.2.2.2.2.2.2.2)
def og:FL:=(176,⟨[.val true wR false],[.val true wR (some true)],λa=>af a⟩)::oe
theorem uz:Gd og:=wM uy 176 Tryz.f176 [] Tryz.func176
def dV (c:List wF) (a:Int) (d:List wF):Option ((Int×List wF)⊕(List wF)) :=cond (decide (a<(c.length:Int))) ((at? c a).bind λb =>(app ([]:List Int) b.2.2.2.2).bind λe =>(at? c a).bind λf =>(app ([]:List Int) f.1).bind λg =>(app d [(g,b.2.1,b.2.2.1,b.2.2.2.1,e)]).bind λh =>some (.inl (wE (a+1),h))) (some (.inr d))
def cL (b:List wF):Option (List wF) :=(loop (λa=>dV b a.1 a.2) (0,([]:List wF))).bind λc =>some c
def oh:FL:=(266,⟨[.val false (.one (.sl wV)) false],[.val false (.one (.sl wV)) (some true)],λa=>cL a⟩)::og
theorem uA:Gd oh:=wM uz 266 Tryz.f266 [(0,⟨⟨[(3,false,[.own 1000000000]),(4,false,[dI])],[(1000000000,.root wV true)]⟩,
 ⟨[(3,false,[.own 1000000300])],[(1000000300,.root wV true)]⟩,none⟩)] Tryz.func266
def fJ (a:xg):Option xg :=(cL a.2.2.2.2).bind λb =>some (a.1,a.2.1,a.2.2.1,a.2.2.2.1,b)
def oi:FL:=(177,⟨[.val true yW false],[.val true yW (some true)],λa=>fJ a⟩)::oh
theorem uB:Gd oi:=wM uA 177 Tryz.f177 [] Tryz.func177
def fK (e:wW) (d:Int) (f:Int) (g:List UInt8) (h:Int) (i:Int) (j:Int) (k:Int) (l:Int) (m:List UInt8) (n:Int) (o:Int) (p:List xl):Option ((Int×Int×List UInt8×Int×Int×Int×Int×Int×List UInt8×Int×Int×List xl)⊕(Int×List UInt8×Int×Int×Int×Int×Int×List UInt8×Int×Int×List xl)) :=cond (decide (d<(e.2.2.2.2.2.2.2.2.2.2.2.2.1.length:Int))) ((at? e.2.2.2.2.2.2.2.2.2.2.2.2.1 d).bind λa =>(app ([]:List Int) a.2.1).bind λq =>(fJ (a.2.2.2.1,a.2.2.2.2.1,a.2.2.2.2.2.1,a.2.2.2.2.2.2.1,a.2.2.2.2.2.2.2.1)).bind λc =>(af (a.2.2.2.2.2.2.2.2.1,a.2.2.2.2.2.2.2.2.2.1,a.2.2.2.2.2.2.2.2.2.2.1,a.2.2.2.2.2.2.2.2.2.2.2.1,a.2.2.2.2.2.2.2.2.2.2.2.2.1,a.2.2.2.2.2.2.2.2.2.2.2.2.2.1,a.2.2.2.2.2.2.2.2.2.2.2.2.2.2.1,a.2.2.2.2.2.2.2.2.2.2.2.2.2.2.2.1,a.2.2.2.2.2.2.2.2.2.2.2.2.2.2.2.2.1,a.2.2.2.2.2.2.2.2.2.2.2.2.2.2.2.2.2.1,a.2.2.2.2.2.2.2.2.2.2.2.2.2.2.2.2.2.2.1)).bind λb =>(app p [(a.1,q,a.2.2.1,c.1,c.2.1,c.2.2.1,c.2.2.2.1,c.2.2.2.2,b.1,b.2.1,b.2.2.1,b.2.2.2.1,b.2.2.2.2.1,b.2.2.2.2.2.1,b.2.2.2.2.2.2.1,b.2.2.2.2.2.2.2.1,b.2.2.2.2.2.2.2.2.1,b.2.2.2.2.2.2.2.2.2.1,b.2.2.2.2.2.2.2.2.2.2,a.2.2.2.2.2.2.2.2.2.2.2.2.2.2.2.2.2.2.2.1,a.2.2.2.2.2.2.2.2.2.2.2.2.2.2.2.2.2.2.2.2)]).bind λr =>some (.inl (wE (d+1),f,g,h,i,j,k,l,m,n,o,r))) (some (.inr (f,g,h,i,j,k,l,m,n,o,p)))
def dg (a:wW):Option wW :=(af (a.1,a.2.1,a.2.2.1,a.2.2.2.1,a.2.2.2.2.1,a.2.2.2.2.2.1,a.2.2.2.2.2.2.1,a.2.2.2.2.2.2.2.1,a.2.2.2.2.2.2.2.2.1,a.2.2.2.2.2.2.2.2.2.1,a.2.2.2.2.2.2.2.2.2.2.1)).bind λc =>(loop (λb=>fK a b.1 b.2.1 b.2.2.1 b.2.2.2.1 b.2.2.2.2.1 b.2.2.2.2.2.1 b.2.2.2.2.2.2.1 b.2.2.2.2.2.2.2.1 b.2.2.2.2.2.2.2.2.1 b.2.2.2.2.2.2.2.2.2.1 b.2.2.2.2.2.2.2.2.2.2.1 b.2.2.2.2.2.2.2.2.2.2.2) (0,c.1,c.2.1,c.2.2.2.2.2.2.1,c.2.2.2.2.2.2.2.1,c.2.2.2.2.2.2.2.2.1,c.2.2.2.2.2.2.2.2.2.1,c.2.2.2.2.2.2.2.2.2.2,a.2.2.2.2.2.2.2.2.2.2.2.1,a.2.2.2.2.2.2.2.2.2.2.2.2.2.1,a.2.2.2.2.2.2.2.2.2.2.2.2.2.2,[])).bind λd =>some (d.1,d.2.1,c.2.2.1,c.2.2.2.1,c.2.2.2.2.1,c.2.2.2.2.2.1,d.2.2.1,d.2.2.2.1,d.2.2.2.2.1,d.2.2.2.2.2.1,d.2.2.2.2.2.2.1,d.2.2.2.2.2.2.2.1,d.2.2.2.2.2.2.2.2.2.2,d.2.2.2.2.2.2.2.2.1,d.2.2.2.2.2.2.2.2.2.1)
def oj:FL:=(105,⟨[.val true xv false],[.val true xv (some true)],λa=>dg a⟩)::oi
theorem uC:Gd oj:=wM uB 105 Tryz.f105 [(0,⟨⟨[(4,false,[dI])],[(273408,.box [dI,dS,.same 265218,.same 265219,.same 265220,.same 265221,dI,dI,dI,dI,dI,dS,.own 1000000000,dI,dI]),(1000000000,.root yX true)]⟩,
 ⟨[],[(273408,.box [dI,dS,.same 265218,.same 265219,.same 265220,.same 265221,dI,dI,dI,dI,dI,dS,.own 1000000300,dI,dI]),(1000000300,.root yX true)]⟩,none⟩)] Tryz.func105
def ac (a:Int) (b:Int) (c:Int):Option Bool :=(cond (decide (a>=b)) (some (decide (a<=c))) (some false)).bind λd =>some d
def om:FL:=(107,⟨[.val false wI false,.val false wI false,.val false wI false],[.val false xo (some true)],λa=>ac a.1 a.2.1 a.2.2⟩)::oj
theorem uD:Gd om:=wM uC 107 Tryz.f107 [] Tryz.func107
def de (a:Bv):Option Bool :=(ac a.1 1 99).bind λb =>(cond b ((ac a.2.1 0 100000).bind λc =>some c) (some false)).bind λd =>(cond d ((ac a.2.2.1 0 10).bind λe =>some e) (some false)).bind λf =>(cond f ((ac a.2.2.2.1 1 99).bind λg =>some g) (some false)).bind λh =>(cond h ((ac a.2.2.2.2 0 7).bind λi =>some i) (some false)).bind λj =>some j
def oo:FL:=(245,⟨[.val true B0 false],[.val false xo (some true)],λa=>de a⟩)::om
theorem uE:Gd oo:=wM uD 245 Tryz.f245 [] Tryz.func245
def fL (a:Pt):Option Bool :=(ac a.2.1 1 1000).bind λb =>(cond (!b) (some true) ((cond (!a.1) (some a.2.2.1) (some false)).bind λc =>some c)).bind λd =>cond d (some false) (cond (!a.2.2.1) (let e:=a.2.2.2.1==0&&(a.2.2.2.2.1==0&&(a.2.2.2.2.2.1==0&&(a.2.2.2.2.2.2.1==0&&(a.2.2.2.2.2.2.2==0)))); some e) ((de a.2.2.2).bind λf =>some f))
def oq:FL:=(268,⟨[.val true z0 false],[.val false xo (some true)],λa=>fL a⟩)::oo
theorem uF:Gd oq:=wM uE 268 Tryz.f268 [] Tryz.func268
def fM (a:wJ):Option Bool :=(ac a.1 1 99).bind λb =>(cond b ((ac a.2.1 1 9999).bind λc =>some c) (some false)).bind λd =>(cond d ((ac a.2.2.1 0 7).bind λe =>some e) (some false)).bind λf =>(cond f ((ac a.2.2.2.1 0 4).bind λg =>some g) (some false)).bind λh =>(cond h ((cond (!a.2.2.2.2) (some true) (some (a.2.2.2.1==0))).bind λi =>some i) (some false)).bind λj =>some j
def ot:FL:=(292,⟨[.val true xa false],[.val false xo (some true)],λa=>fM a⟩)::oq
theorem uG:Gd ot:=wM uF 292 Tryz.f292 [] Tryz.func292
def ce (a:wJ) (b:Int) (c:Int):Option Bool :=cond (a.1 != b) (some (decide (a.1<b))) (some (decide (a.2.1<c)))
def ou:FL:=(329,⟨[.val true xa false,.val false wI false,.val false wI false],[.val false xo (some true)],λa=>ce a.1 a.2.1 a.2.2⟩)::ot
theorem uH:Gd ou:=wM uG 329 Tryz.f329 [] Tryz.func329
def jA (b:List wJ) (a:Int):Option (Int⊕(Unit⊕Bool)) :=cond (decide (a<(b.length:Int))) ((at? b a).bind λc =>(fM c).bind λd =>(cond (!d) (some true) ((cond (decide (a>0)) ((at? b (wE (a-1))).bind λe =>(at? b a).bind λf =>(at? b a).bind λg =>(ce e f.1 g.2.1).bind λh =>some (!h)) (some false)).bind λi =>some i)).bind λj =>cond j (some (.inr (.inr false))) (some (.inl (wE (a+1))))) (some (.inr (.inl ())))
def fN (a:List wJ):Option Bool :=(loop (λb=>jA a b) 0).bind (Sum.elim (λe =>let c:=decide ((a.length:Int)<=12); some c) (λd=>some d))
def ov:FL:=(269,⟨[.val false (.one (.sl xa)) false],[.val false xo (some true)],λa=>fN a⟩)::ou
theorem uI:Gd ov:=wM uH 269 Tryz.f269 [(0,⟨⟨(3,false,[dI])::us 17 21 [],[]⟩,
 ⟨[],[]⟩,some ⟨[(2,false,[dB])],[]⟩⟩)] Tryz.func269
def uJ (b:xO) (c:Int) (a:Int):Option (Int⊕(Unit⊕Int)) :=cond (decide (a<(b.1.length:Int))) ((at? b.1 a).bind λd =>cond (d.1==c) (some (.inr (.inr a))) (some (.inl (wE (a+1))))) (some (.inr (.inl ())))
def aP (a:xO) (b:Int):Option Int :=(loop (λc=>uJ a b c) 0).bind (Sum.elim (λe =>some (-1)) (λd=>some d))
def ow:FL:=(290,⟨[.val true yQ false,.val false wI false],[.val false wI (some true)],λa=>aP a.1 a.2⟩)::ov
theorem uK:Gd ow:=wM uI 290 Tryz.f290 [(0,⟨⟨[(5,false,[dI])],[]⟩,
 ⟨[],[]⟩,some ⟨[(4,false,[dI])],[]⟩⟩)] Tryz.func290
def jC (c:xO) (d:Int) (b:Int):Option (Int⊕(Unit⊕Bool)) :=cond (decide (b<(c.1.length:Int))) ((at? c.1 b).bind λa =>(ac a.1 1 99).bind λe =>(cond (!e) (some true) ((ac a.2.1 0 (wE (d-1))).bind λf =>some (!f))).bind λg =>(cond g (some true) ((ac a.2.2 0 (wE (d-1))).bind λh =>some (!h))).bind λi =>(cond i (some true) (some ((zc .i64 a.2.2 a.2.1) != a.2.2))).bind λj =>(cond j (some true) ((cond (decide (b>0)) ((at? c.1 (wE (b-1))).bind λk =>some (decide (k.1>=a.1))) (some false)).bind λl =>some l)).bind λm =>cond m (some (.inr (.inr false))) (some (.inl (wE (b+1))))) (some (.inr (.inl ())))
def ox (a:xO) (b:Int):Option (Int⊕(Unit⊕Bool)) :=cond (decide (b<(a.2.length:Int))) ((at? a.2 b).bind λc =>(aP a c).bind λd =>cond (decide (d<0)) (some (.inr (.inr false))) (some (.inl (wE (b+1))))) (some (.inr (.inl ())))
def dW (a:xO) (b:Int):Option Bool :=(ac b 1 6).bind λd =>(cond (!d) (some true) (some ((a.2.length:Int) != b))).bind λe =>(cond e (some true) (some (decide ((a.1.length:Int)>6)))).bind λf =>cond f (some false) ((shl .i64 1 (IntKind.u64.wrap (b))).bind λg =>(loop (λc=>jC a g c) 0).bind (Sum.elim (λj =>(loop (λc=>ox a c) 0).bind (Sum.elim (λk =>some true) (λh=>some h))) (λi=>some i)))
def oy:FL:=(270,⟨[.val true yQ false,.val false wI false],[.val false xo (some true)],λa=>dW a.1 a.2⟩)::ow
theorem uL:Gd oy:=wM uK 270 Tryz.f270 [(0,⟨⟨(6,false,[dI])::us 46 5 (us 53 5 (us 60 8 (us 70 14 []))),[]⟩,
 ⟨[],[]⟩,some ⟨[(4,false,[dB])],[]⟩⟩),
 (2,⟨⟨[(8,false,[dI])],[]⟩,
 ⟨[],[]⟩,some ⟨[(4,false,[dB])],[]⟩⟩)] Tryz.func270
def ie (a:wD):Option Bool :=(ac a.2.2.2.2.2.2.1 0 1000000).bind λb =>(cond b ((ac a.2.2.2.2.2.2.2.1 0 1000000).bind λc =>some c) (some false)).bind λd =>(cond d ((ac a.2.2.2.2.2.2.2.2.1 0 1000000).bind λe =>some e) (some false)).bind λf =>(cond f ((ac a.2.2.2.2.2.2.2.2.2.1 0 1000000).bind λg =>some g) (some false)).bind λh =>(cond h ((ac a.2.2.2.2.2.2.2.2.2.2 0 1000000).bind λi =>some i) (some false)).bind λj =>some j
def oz:FL:=(271,⟨[.val true wR false],[.val false xo (some true)],λa=>ie a⟩)::oy
theorem uM:Gd oz:=wM uL 271 Tryz.f271 [] Tryz.func271
def jD (b:wD) (a:Int):Option (Int⊕(Unit⊕Bool)) :=cond (decide (a<(b.2.2.1.length:Int))) ((at? b.2.2.1 a).bind λc =>(fL c).bind λd =>cond (!d) (some (.inr (.inr false))) (some (.inl (wE (a+1))))) (some (.inr (.inl ())))
def aR (a:wD):Option Bool :=(loop (λb=>jD a b) 0).bind (Sum.elim (λn =>(ac a.1 1 99).bind λc =>(cond c (some (decide ((a.2.1.length:Int)<=10))) (some false)).bind λd =>(cond d ((ac (a.2.2.1.length:Int) 1 6).bind λe =>some e) (some false)).bind λf =>(cond f ((fN a.2.2.2.1).bind λg =>some g) (some false)).bind λh =>(cond h ((dW (a.2.2.2.2.1,a.2.2.2.2.2.1) (a.2.2.1.length:Int)).bind λi =>some i) (some false)).bind λj =>(cond j ((ie a).bind λk =>some k) (some false)).bind λl =>some l) (λm=>some m))
def oA:FL:=(179,⟨[.val true wR false],[.val false xo (some true)],λa=>aR a⟩)::oz
theorem uN:Gd oA:=wM uM 179 Tryz.f179 [(0,⟨⟨[(3,false,[dI])],[]⟩,
 ⟨[],[]⟩,some ⟨[(2,false,[dB])],[]⟩⟩)] Tryz.func179
def bt (a:Int):Option Int :=cond (decide (a>2147483647)) (some 2147483647) (cond (decide (a<(-2147483648))) (some (-2147483648)) (some a))
def oC:FL:=(132,⟨[.val false wI false],[.val false wI (some true)],λa=>bt a⟩)::oA
theorem uO:Gd oC:=wM uN 132 Tryz.f132 [] Tryz.func132
def uP (b:List Int) (a:Int):Option (Int⊕(Unit⊕Bool)) :=cond (decide (a<(b.length:Int))) ((at? b a).bind λc =>(ac c 0 100000).bind λd =>cond (!d) (some (.inr (.inr false))) (some (.inl (wE (a+1))))) (some (.inr (.inl ())))
def bJ (a:List Int):Option Bool :=(loop (λb=>uP a b) 0).bind (Sum.elim (λe =>(ac (a.length:Int) 1 10).bind λc =>some c) (λd=>some d))
def oD:FL:=(220,⟨[.val false yU false],[.val false xo (some true)],λa=>bJ a⟩)::oC
theorem uQ:Gd oD:=wM uO 220 Tryz.f220 [(0,⟨⟨[(3,false,[dI])],[]⟩,
 ⟨[],[]⟩,some ⟨[(2,false,[dB])],[]⟩⟩)] Tryz.func220
def bu (a:zH):Option Bool :=cond (a.1==5) (cond (a.1==5) ((cond (a.2.1==0) (some (a.2.2.1==[])) (some false)).bind λb =>(cond b (some ((a.2.2.2.length:Int)==0)) (some false)).bind λc =>some c) (cond (a.1==2) ((bt a.2.1).bind λd =>(cond (d==a.2.1) (some (a.2.2.1==[])) (some false)).bind λe =>(cond e (some ((a.2.2.2.length:Int)==0)) (some false)).bind λf =>some f) (cond (a.1==4) ((cond (decide ((a.2.2.1.length:Int)<=20)) (some (a.2.1==0)) (some false)).bind λg =>(cond g (some ((a.2.2.2.length:Int)==0)) (some false)).bind λh =>some h) (cond (a.1==6) ((bJ a.2.2.2).bind λi =>(cond i (some (a.2.1==0)) (some false)).bind λj =>(cond j (some (a.2.2.1==[])) (some false)).bind λk =>some k) (some false))))) (cond (a.1==128) (cond (a.1==128) ((cond (a.2.1==0) (some (a.2.2.1==[])) (some false)).bind λl =>(cond l (some ((a.2.2.2.length:Int)==0)) (some false)).bind λm =>some m) (cond (a.1==2) ((bt a.2.1).bind λn =>(cond (n==a.2.1) (some (a.2.2.1==[])) (some false)).bind λo =>(cond o (some ((a.2.2.2.length:Int)==0)) (some false)).bind λp =>some p) (cond (a.1==4) ((cond (decide ((a.2.2.1.length:Int)<=20)) (some (a.2.1==0)) (some false)).bind λq =>(cond q (some ((a.2.2.2.length:Int)==0)) (some false)).bind λr =>some r) (cond (a.1==6) ((bJ a.2.2.2).bind λs =>(cond s (some (a.2.1==0)) (some false)).bind λt =>(cond t (some (a.2.2.1==[])) (some false)).bind λu =>some u) (some false))))) (cond (a.1==130) ((cond (a.2.1==0) (some (a.2.2.1==[])) (some false)).bind λv =>(cond v (some ((a.2.2.2.length:Int)==0)) (some false)).bind λw =>some w) (cond (a.1==2) ((bt a.2.1).bind λx =>(cond (x==a.2.1) (some (a.2.2.1==[])) (some false)).bind λy =>(cond y (some ((a.2.2.2.length:Int)==0)) (some false)).bind λz =>some z) (cond (a.1==4) ((cond (decide ((a.2.2.1.length:Int)<=20)) (some (a.2.1==0)) (some false)).bind λA =>(cond A (some ((a.2.2.2.length:Int)==0)) (some false)).bind λB =>some B) (cond (a.1==6) ((bJ a.2.2.2).bind λC =>(cond C (some (a.2.1==0)) (some false)).bind λD =>(cond D (some (a.2.2.1==[])) (some false)).bind λE =>some E) (some false))))))
def oE:FL:=(221,⟨[.val true AN false],[.val false xo (some true)],λa=>bu a⟩)::oD
theorem uR:Gd oE:=wM uQ 221 Tryz.f221 [] Tryz.func221
def jE (a:Int):Option Bool :=(cond (a==160) (some true) (some (a==161))).bind λb =>(cond b (some true) (some (a==162))).bind λc =>(cond c (some true) (some (a==163))).bind λd =>(cond d (some true) (some (a==165))).bind λe =>some e
def oF:FL:=(222,⟨[.val false wI false],[.val false xo (some true)],λa=>jE a⟩)::oE
theorem uS:Gd oF:=wM uR 222 Tryz.f222 [] Tryz.func222
def ig (b:xg) (a:Int):Option (Int⊕(Unit⊕Bool)) :=cond (decide (a<(b.2.2.2.2.length:Int))) ((at? b.2.2.2.2 a).bind λc =>(bJ c.1).bind λd =>(cond (!d) (some true) ((at? b.2.2.2.2 a).bind λe =>(bu e.2).bind λf =>some (!f))).bind λg =>cond g (some (.inr (.inr false))) (some (.inl (wE (a+1))))) (some (.inr (.inl ())))
def bK (a:xg):Option Bool :=(loop (λb=>ig a b) 0).bind (Sum.elim (λo =>(cond (a.1 != 162) (some (a.1 != 165)) (some false)).bind λc =>(cond c ((cond (a.2.2.1 != 0) (some true) (some (a.2.2.2.1 != 0))).bind λd =>some d) (some false)).bind λe =>cond e (some false) ((jE a.1).bind λf =>(cond f ((bt a.2.1).bind λg =>some (g==a.2.1)) (some false)).bind λh =>(cond h ((ac a.2.2.1 0 1000).bind λi =>some i) (some false)).bind λj =>(cond j ((ac a.2.2.2.1 0 1000).bind λk =>some k) (some false)).bind λl =>(cond l (some (decide ((a.2.2.2.2.length:Int)<=10))) (some false)).bind λm =>some m)) (λn=>some n))
def oG:FL:=(137,⟨[.val true yW false],[.val false xo (some true)],λa=>bK a⟩)::oF
theorem uT:Gd oG:=wM uS 137 Tryz.f137 [(0,⟨⟨(3,false,[dI])::us 20 8 [],[]⟩,
 ⟨[],[]⟩,some ⟨[(2,false,[dB])],[]⟩⟩)] Tryz.func137
def jF (a:xg):Option Bool :=(bK a).bind λb =>(cond b (some (a.1 != 162)) (some false)).bind λc =>some c
def oH:FL:=(267,⟨[.val true yW false],[.val false xo (some true)],λa=>jF a⟩)::oG
theorem uU:Gd oH:=wM uT 267 Tryz.f267 [] Tryz.func267
def fO (a:xl) (b:Int):Option Bool :=(ac a.1 1 b).bind λc =>(cond (!c) (some true) ((ac a.2.2.1 0 2).bind λd =>some (!d))).bind λe =>(cond e (some true) ((ac a.2.2.2.2.2.2.2.2.2.2.2.2.2.2.2.2.2.2.2.2 0 3).bind λf =>some (!f))).bind λg =>(cond g (some true) ((ac a.2.2.2.2.2.2.2.2.2.2.2.2.2.2.2.2.2.2.2.1 0 (a.2.2.2.2.2.2.2.1.length:Int)).bind λh =>some (!h))).bind λi =>cond i (some false) ((cond (a.2.2.1==0) (some true) ((jF (a.2.2.2.1,a.2.2.2.2.1,a.2.2.2.2.2.1,a.2.2.2.2.2.2.1,a.2.2.2.2.2.2.2.1)).bind λj =>(cond j ((aR (a.2.2.2.2.2.2.2.2.1,a.2.2.2.2.2.2.2.2.2.1,a.2.2.2.2.2.2.2.2.2.2.1,a.2.2.2.2.2.2.2.2.2.2.2.1,a.2.2.2.2.2.2.2.2.2.2.2.2.1,a.2.2.2.2.2.2.2.2.2.2.2.2.2.1,a.2.2.2.2.2.2.2.2.2.2.2.2.2.2.1,a.2.2.2.2.2.2.2.2.2.2.2.2.2.2.2.1,a.2.2.2.2.2.2.2.2.2.2.2.2.2.2.2.2.1,a.2.2.2.2.2.2.2.2.2.2.2.2.2.2.2.2.2.1,a.2.2.2.2.2.2.2.2.2.2.2.2.2.2.2.2.2.2.1)).bind λk =>some k) (some false)).bind λl =>some l)).bind λm =>some m)
def oI:FL:=(178,⟨[.val true yX false,.val false wI false],[.val false xo (some true)],λa=>fO a.1 a.2⟩)::oH
theorem uV:Gd oI:=wM uU 178 Tryz.f178 [] Tryz.func178
def jG (b:wW) (a:Int):Option (Int⊕(Unit⊕Bool)) :=cond (decide (a<(b.2.2.2.2.2.2.2.2.2.2.2.2.1.length:Int))) ((at? b.2.2.2.2.2.2.2.2.2.2.2.2.1 a).bind λc =>(fO c b.2.2.2.2.2.2.2.2.2.2.2.2.2.2).bind λd =>(cond (!d) (some true) ((cond (decide (a>0)) ((at? b.2.2.2.2.2.2.2.2.2.2.2.2.1 (wE (a-1))).bind λe =>(at? b.2.2.2.2.2.2.2.2.2.2.2.2.1 a).bind λf =>some (decide (e.1>=f.1))) (some false)).bind λg =>some g)).bind λh =>cond h (some (.inr (.inr false))) (some (.inl (wE (a+1))))) (some (.inr (.inl ())))
def ck (a:wW):Option Bool :=(loop (λb=>jG a b) 0).bind (Sum.elim (λk =>(aR (a.1,a.2.1,a.2.2.1,a.2.2.2.1,a.2.2.2.2.1,a.2.2.2.2.2.1,a.2.2.2.2.2.2.1,a.2.2.2.2.2.2.2.1,a.2.2.2.2.2.2.2.2.1,a.2.2.2.2.2.2.2.2.2.1,a.2.2.2.2.2.2.2.2.2.2.1)).bind λc =>(cond c (some (decide ((a.2.2.2.2.2.2.2.2.2.2.2.1.length:Int)<=20))) (some false)).bind λd =>(cond d (some (decide ((a.2.2.2.2.2.2.2.2.2.2.2.2.1.length:Int)<=6))) (some false)).bind λe =>(cond e ((ac a.2.2.2.2.2.2.2.2.2.2.2.2.2.1 0 1000000).bind λf =>some f) (some false)).bind λg =>(cond g ((ac a.2.2.2.2.2.2.2.2.2.2.2.2.2.2 0 1000000).bind λh =>some h) (some false)).bind λi =>some i) (λj=>some j))
def oJ:FL:=(106,⟨[.val true xv false],[.val false xo (some true)],λa=>ck a⟩)::oI
theorem uW:Gd oJ:=wM uV 106 Tryz.f106 [(0,⟨⟨(3,false,[dI])::us 21 18 [],[]⟩,
 ⟨[],[]⟩,some ⟨[(2,false,[dB])],[]⟩⟩)] Tryz.func106
def aE (a:Int):Option Int :=cond (decide (a>=1000000)) (some a) (some (wE (a+1)))
def oK:FL:=(195,⟨[.val false wI false],[.val false wI (some true)],λa=>aE a⟩)::oJ
theorem uX:Gd oK:=wM uW 195 Tryz.f195 [] Tryz.func195
def cM (b:List Int) (a:Int):Option (Int×(List Int)×Int×Bool) :=(cond (decide (a<0)) (some true) (some (decide (a>=(b.length:Int))))).bind λe =>(cond e (some true) (some (decide ((wE (a+1))>=(b.length:Int))))).bind λf =>cond f (some (0,([]:List Int),0,false)) ((at? b (wE (a+1))).bind λc =>cond (decide ((wE (c))>127)) ((cond ((wE (c)) != 129) (some true) (some (decide ((wE (a+2))>=(b.length:Int))))).bind λg =>(cond g (some true) ((at? b (wE (a+2))).bind λh =>some (decide (h<128)))).bind λi =>cond i (some (0,([]:List Int),0,false)) ((at? b (wE (a+2))).bind λd =>(cond (decide ((wE (d))>250)) (some true) (some (decide ((wE (d))>(wE ((b.length:Int)-(wE ((wE (a+2))+1)))))))).bind λj =>cond j (some (0,([]:List Int),0,false)) ((at? b a).bind λk =>(cut b (wE ((wE (a+2))+1)) (wE ((wE ((wE (a+2))+1))+(wE (d))))).bind λl =>(app ([]:List Int) l).bind λm =>let n:=wE ((wE ((wE (a+2))+1))+(wE (d))); some (wE (k),m,n,true)))) ((cond (decide ((wE (c))>250)) (some true) (some (decide ((wE (c))>(wE ((b.length:Int)-(wE (a+2)))))))).bind λo =>cond o (some (0,([]:List Int),0,false)) ((at? b a).bind λp =>(cut b (wE (a+2)) (wE ((wE (a+2))+(wE (c))))).bind λq =>(app ([]:List Int) q).bind λr =>let s:=wE ((wE (a+2))+(wE (c))); some (wE (p),r,s,true))))
def oL:FL:=(330,⟨[.val false yh false,.val false wI false],[.val false wI (some true),.val false yh (some true),.val false wI (some true),.val false xo (some true)],λa=>cM a.1 a.2⟩)::oK
theorem uY:Gd oL:=wM uX 330 Tryz.f330 [] Tryz.func330
def bL (a:ze) (c:Int):Option (ze×List Int) :=(cM a.1 a.2.1).bind λb =>(cond a.2.2 (some true) (some (!b.2.2.2))).bind λd =>(cond d (some true) (some (b.1 != c))).bind λe =>cond e (some ((a.1,a.2.1,true),([]:List Int))) (some ((a.1,b.2.2.1,a.2.2),b.2.1))
def oM:FL:=(332,⟨[.ptr Bo none,.val false wI false],[.val false yh (some true)],λa=>bL a.1 a.2⟩)::oL
theorem uZ:Gd oM:=wM uY 332 Tryz.f332 [] Tryz.func332
def cf (a:Int) (b:List Int):Option ((Int×List Int)⊕(List Int)) :=(cond (decide (a<(-128))) (some true) (some (decide (a>127)))).bind λc =>cond c ((app [IntKind.u8.wrap (a.fdiv (2^8))] b).bind λd =>some (.inl (a.fdiv (2^8),d))) (some (.inr b))
def bv (c:Int):Option (List Int) :=(bt c).bind λa =>(loop (λb=>cf b.1 b.2) (a,[IntKind.u8.wrap (a)])).bind λd =>some d
def oN:FL:=(63,⟨[.val false wI false],[.val false yh (some true)],λa=>bv a⟩)::oM
theorem v5:Gd oN:=wM uZ 63 Tryz.f63 [(0,⟨⟨[(0,false,[dI]),(3,false,[.own 1000000000]),(12,false,[.undef]),(13,false,[.undef])],[(1000000000,.root (.one (.int .u8)) true)]⟩,
 ⟨[(3,false,[.own 1000000300])],[(1000000300,.root (.one (.int .u8)) true)]⟩,none⟩)] Tryz.func63
def dX (b:List Int) (c:Int) (a:Int):Option ((Int×Int)⊕Int) :=cond (decide (a<(b.length:Int))) ((at? b a).bind λd =>let e:=E0 .i64 (wE (c*2^8)) (wE (d)); some (.inl (e,wE (a+1)))) (some (.inr c))
def dY (b:List Int) (c:Int) (a:Int):Option ((Int×Int)⊕Int) :=cond (decide (a<(b.length:Int))) ((at? b a).bind λd =>let e:=E0 .i64 (wE (c*2^8)) (wE (d)); some (.inl (e,wE (a+1)))) (some (.inr c))
def fP (a:List Int):Option (Int×Bool) :=(ac (a.length:Int) 1 4).bind λf =>cond (!f) (some (0,false)) ((at? a 0).bind λc =>cond (decide ((wE (c))>127)) ((loop (λb=>dX a b.1 b.2) (wE ((wE (c))-256),1)).bind λd =>(bv d).bind λg =>cond ((g.length:Int) != (a.length:Int)) (some (0,false)) (some (d,true))) ((loop (λb=>dY a b.1 b.2) (wE (c),1)).bind λe =>(bv e).bind λh =>cond ((h.length:Int) != (a.length:Int)) (some (0,false)) (some (e,true))))
def oO:FL:=(364,⟨[.val false yh false],[.val false wI (some true),.val false xo (some true)],λa=>fP a⟩)::oN
theorem v7:Gd oO:=wM v5 364 Tryz.f364 [(0,⟨⟨[(4,false,[dI]),(5,false,[dI])],[]⟩,
 ⟨[(4,false,[dI])],[]⟩,none⟩)] Tryz.func364
def cN (c:ze):Option (ze×Int) :=(bL c 2).bind λa =>(fP a.2).bind λb =>(cond a.1.2.2 (some true) (some (!b.2))).bind λd =>some ((a.1.1,a.1.2.1,d),b.1)
def oP:FL:=(331,⟨[.ptr Bo none],[.val false wI (some true)],λa=>cN a⟩)::oO
theorem v8:Gd oP:=wM v7 331 Tryz.f331 [] Tryz.func331
def cg (a:Int) (b:List Int):Option ((Int×List Int)⊕(List Int)) :=cond (decide (a>127)) ((app [IntKind.u8.wrap (E0 .i64 (zc .i64 (a.fdiv (2^7)) 127) 128)] b).bind λc =>some (.inl (a.fdiv (2^7),c))) (some (.inr b))
def dZ (a:Int):Option (List Int) :=(loop (λb=>cg b.1 b.2) (a,[IntKind.u8.wrap (zc .i64 a 127)])).bind λc =>some c
def oQ:FL:=(354,⟨[.val false wI false],[.val false yh (some true)],λa=>dZ a⟩)::oP
theorem v9:Gd oQ:=wM v8 354 Tryz.f354 [(0,⟨⟨[(0,false,[dI]),(3,false,[.own 1000000000])],[(1000000000,.root (.one (.int .u8)) true)]⟩,
 ⟨[(3,false,[.own 1000000300])],[(1000000300,.root (.one (.int .u8)) true)]⟩,none⟩)] Tryz.func354
def aI (b:List Int) (a:Int) (d:Int) (c:Int) (e:Bool):Option ((Int×Int×Int×Bool)⊕(Int×Int×Int×Bool)) :=(cond e (some (decide (a<(b.length:Int)))) (some false)).bind λf =>(cond f (some (decide (c<4))) (some false)).bind λg =>cond g ((at? b a).bind λh =>let i:=E0 .i64 (wE (d*2^7)) (wE (zc .u8 h 127)); (at? b a).bind λj =>some (.inl (wE (a+1),i,wE (c+1),decide (j>127)))) (some (.inr (a,d,c,e)))
def aq (e:List Int) (c:Int) (d:List Int):Option ((Int×List Int)⊕((Int×List Int)⊕(Bool×List Int))) :=(cond (decide (c<(e.length:Int))) (some (decide ((d.length:Int)<=10))) (some false)).bind λf =>cond f ((loop (λb=>aI e b.1 b.2.1 b.2.2.1 b.2.2.2) (c,0,0,true)).bind λa =>(cond a.2.2.2 (some true) ((dZ a.2.1).bind λg =>some ((g.length:Int) != a.2.2.1))).bind λh =>cond h (some (.inr (.inr (false,([]:List Int))))) ((app d [a.2.1]).bind λi =>some (.inl (a.1,i)))) (some (.inr (.inl (c,d))))
def ch (b:List Int):Option ((List Int)×Bool) :=(loop (λc=>aq b c.1 c.2) (0,([]:List Int))).bind (Sum.elim (λa =>(cond (a.1 != (b.length:Int)) (some true) ((bJ a.2).bind λe =>some (!e))).bind λf =>cond f (some (([]:List Int),false)) (some (a.2,true))) (λd=>some (d.2,d.1)))
def oR:FL:=(380,⟨[.val false yh false],[.val false yU (some true),.val false xo (some true)],λa=>ch a⟩)::oQ
theorem va:Gd oR:=wM v9 380 Tryz.f380 [(0,⟨⟨(4,false,[.own 1000000000])::(5,false,[dI])::us 15 3 (us 21 4 (us 27 2 (us 50 5 []))),[(1000000000,.root wI true)]⟩,
 ⟨[(4,false,[.own 1000000300]),(5,false,[dI])],[(1000000300,.root wI true)]⟩,some ⟨[(2,false,[.own 1000000600]),(3,false,[dB])],[(1000000600,.root wI true)]⟩⟩),
 (2,⟨⟨(5,false,[dI])::(6,false,[dI])::(7,false,[dI])::(8,false,[dB])::us 21 4 (us 27 2 []),[]⟩,
 ⟨(5,false,[dI])::(6,false,[dI])::(7,false,[dI])::(8,false,[dB])::us 21 4 (us 27 2 []),[]⟩,none⟩)] Tryz.func380
def ii (d:List Int) (e:Int):Option (zH×Int×Bool) :=(cM d e).bind λa =>cond (a.1==2) ((fP a.2.1).bind λb =>(cond (!a.2.2.2) (some true) (some (!b.2))).bind λf =>(cond f (some true) ((bu (a.1,b.1,[],[])).bind λg =>some (!g))).bind λh =>cond h (some ((0,0,[],[]),0,false)) (some ((a.1,b.1,[],[]),a.2.2.1,true))) (cond (a.1==4) ((cond (!a.2.2.2) (some true) (some (!true))).bind λi =>(cond i (some true) ((bu (a.1,0,xU a.2.1,[])).bind λj =>some (!j))).bind λk =>cond k (some ((0,0,[],[]),0,false)) (some ((a.1,0,xU a.2.1,[]),a.2.2.1,true))) (cond (a.1==6) ((ch a.2.1).bind λc =>(cond (!a.2.2.2) (some true) (some (!c.2))).bind λl =>(cond l (some true) ((bu (a.1,0,[],c.1)).bind λm =>some (!m))).bind λn =>cond n (some ((0,0,[],[]),0,false)) (some ((a.1,0,[],c.1),a.2.2.1,true))) (let o:=(a.2.1.length:Int)==0; (cond (!a.2.2.2) (some true) (some (!o))).bind λp =>(cond p (some true) ((bu (a.1,0,[],[])).bind λq =>some (!q))).bind λr =>cond r (some ((0,0,[],[]),0,false)) (some ((a.1,0,[],[]),a.2.2.1,true)))))
def oS:FL:=(381,⟨[.val false yh false,.val false wI false],[.val true AN (some true),.val false wI (some true),.val false xo (some true)],λa=>ii a.1 a.2⟩)::oR
theorem vb:Gd oS:=wM va 381 Tryz.f381 [] Tryz.func381
def ij (b:List Int):Option (wF×Bool) :=(bL (b,0,false) 6).bind λc =>(ch c.2).bind λd =>(ii b c.1.2.1).bind λa =>(cond c.1.2.2 (some true) (some (!d.2))).bind λe =>(cond e (some true) (some (!a.2.2))).bind λf =>(cond f (some true) (some (a.2.1 != (b.length:Int)))).bind λg =>cond g (some (([],0,0,[],[]),false)) (some ((d.1,a.1.1,a.1.2.1,a.1.2.2.1,a.1.2.2.2),true))
def oT:FL:=(365,⟨[.val false yh false],[.val true wV (some true),.val false xo (some true)],λa=>ij a⟩)::oS
theorem vc:Gd oT:=wM vb 365 Tryz.f365 [] Tryz.func365
def ar (e:List Int) (f:Int) (g:Bool) (h:Int) (i:Int) (j:Int) (k:Int) (b:List Int) (c:Int) (l:Bool) (d:List wF):Option ((List Int×Int×Bool×Int×Int×Int×Int×List Int×Int×Bool×List wF)⊕(List Int×Int×Bool×Int×Int×Int×Int×List Int×Int×Bool×List wF)) :=(cond (!g) (some (decide (c<(b.length:Int)))) (some false)).bind λn =>(cond n (some (decide ((d.length:Int)<=10))) (some false)).bind λo =>cond o ((bL (b,c,l) 48).bind λa =>(ij a.2).bind λm =>(cond a.1.2.2 (some true) (some (!m.2))).bind λp =>(app d [m.1]).bind λq =>some (.inl (e,f,p,h,i,j,k,a.1.1,a.1.2.1,a.1.2.2,q))) (some (.inr (e,f,g,h,i,j,k,b,c,l,d)))
def il (e:List Int):Option (xg×Bool) :=(cM e 0).bind λc =>(cN (c.2.1,0,false)).bind λf =>(cN f.1).bind λg =>(cN g.1).bind λh =>(bL h.1 48).bind λd =>(loop (λb=>ar b.1 b.2.1 b.2.2.1 b.2.2.2.1 b.2.2.2.2.1 b.2.2.2.2.2.1 b.2.2.2.2.2.2.1 b.2.2.2.2.2.2.2.1 b.2.2.2.2.2.2.2.2.1 b.2.2.2.2.2.2.2.2.2.1 b.2.2.2.2.2.2.2.2.2.2) (d.1.1,d.1.2.1,d.1.2.2,c.1,f.2,g.2,h.2,d.2,0,false,[])).bind λa =>(cond (!c.2.2.2) (some true) (some (c.2.2.1 != (e.length:Int)))).bind λi =>(cond i (some true) (some a.2.2.1)).bind λj =>(cond j (some true) (some (a.2.1 != (c.2.1.length:Int)))).bind λk =>(cond k (some true) (some (a.2.2.2.2.2.2.2.2.1 != (a.2.2.2.2.2.2.2.1.length:Int)))).bind λl =>(cond l (some true) ((bK (a.2.2.2.1,a.2.2.2.2.1,a.2.2.2.2.2.1,a.2.2.2.2.2.2.1,a.2.2.2.2.2.2.2.2.2.2)).bind λm =>some (!m))).bind λn =>cond n (some ((0,0,0,0,[]),false)) (some ((a.2.2.2.1,a.2.2.2.2.1,a.2.2.2.2.2.1,a.2.2.2.2.2.2.1,a.2.2.2.2.2.2.2.2.2.2),true))
def oU:FL:=(333,⟨[.val false yh false],[.val true yW (some true),.val false xo (some true)],λa=>il a⟩)::oT
theorem vd:Gd oU:=wM vc 333 Tryz.f333 [(0,⟨⟨us 44 10 (us 56 4 (us 73 2 [])),[(527360,.box [.dat (.sl (.one (.int .u8))),dI,dB]),(789504,.box [dI,dI,dI,dI,.own 1000000000]),(1839104,.box [.dat (.sl (.one (.int .u8))),dI,dB]),(1000000000,.root wV true)]⟩,
 ⟨[],[(527360,.box [.dat (.sl (.one (.int .u8))),dI,dB]),(789504,.box [dI,dI,dI,dI,.own 1000000300]),(1839104,.box [.dat (.sl (.one (.int .u8))),dI,dB]),(1000000300,.root wV true)]⟩,none⟩)] Tryz.func333
def fQ (f:List UInt8) (c:List Int):Option (xg×Int) :=(cM c 0).bind λa =>(cN (a.2.1,0,false)).bind λd =>(bL d.1 4).bind λb =>(cond (!a.2.2.2) (some true) (some (a.1 != 48))).bind λg =>(cond g (some true) (some (a.2.2.1 != (c.length:Int)))).bind λh =>(cond h (some true) (some b.1.2.2)).bind λi =>cond i (some ((0,0,0,0,[]),1)) (cond (d.2 != 1) (some ((0,0,0,0,[]),2)) (cond (!((xU b.2)==f)) (some ((0,0,0,0,[]),3)) ((cut a.2.1 b.1.2.1 (a.2.1.length:Int)).bind λj =>(il j).bind λe =>cond (!e.2) (some ((0,0,0,0,[]),1)) (some (e.1,0)))))
def oV:FL:=(272,⟨[.val false Ty false,.val false yh false],[.val true yW (some true),.val false wI (some true)],λa=>fQ a.1 a.2⟩)::oU
theorem ve:Gd oV:=wM vd 272 Tryz.f272 [] Tryz.func272
def fR (c:wW) (h:Int):Option wW :=(ix c.2.2.2.2.2.2.2.2.2.2.2.2.1.length h).bind λf =>(c.2.2.2.2.2.2.2.2.2.2.2.2.1[f]?).bind λa =>(af (c.1,c.2.1,c.2.2.1,c.2.2.2.1,c.2.2.2.2.1,c.2.2.2.2.2.1,c.2.2.2.2.2.2.1,c.2.2.2.2.2.2.2.1,c.2.2.2.2.2.2.2.2.1,c.2.2.2.2.2.2.2.2.2.1,c.2.2.2.2.2.2.2.2.2.2.1)).bind λb =>(ix (c.2.2.2.2.2.2.2.2.2.2.2.2.1.set f (a.1,a.2.1,1,a.2.2.2.1,a.2.2.2.2.1,a.2.2.2.2.2.1,a.2.2.2.2.2.2.1,a.2.2.2.2.2.2.2.1,a.2.2.2.2.2.2.2.2.1,a.2.2.2.2.2.2.2.2.2.1,a.2.2.2.2.2.2.2.2.2.2.1,a.2.2.2.2.2.2.2.2.2.2.2.1,a.2.2.2.2.2.2.2.2.2.2.2.2.1,a.2.2.2.2.2.2.2.2.2.2.2.2.2.1,a.2.2.2.2.2.2.2.2.2.2.2.2.2.2.1,a.2.2.2.2.2.2.2.2.2.2.2.2.2.2.2.1,a.2.2.2.2.2.2.2.2.2.2.2.2.2.2.2.2.1,a.2.2.2.2.2.2.2.2.2.2.2.2.2.2.2.2.2.1,a.2.2.2.2.2.2.2.2.2.2.2.2.2.2.2.2.2.2.1,a.2.2.2.2.2.2.2.2.2.2.2.2.2.2.2.2.2.2.2.1,a.2.2.2.2.2.2.2.2.2.2.2.2.2.2.2.2.2.2.2.2)).length h).bind λg =>((c.2.2.2.2.2.2.2.2.2.2.2.2.1.set f (a.1,a.2.1,1,a.2.2.2.1,a.2.2.2.2.1,a.2.2.2.2.2.1,a.2.2.2.2.2.2.1,a.2.2.2.2.2.2.2.1,a.2.2.2.2.2.2.2.2.1,a.2.2.2.2.2.2.2.2.2.1,a.2.2.2.2.2.2.2.2.2.2.1,a.2.2.2.2.2.2.2.2.2.2.2.1,a.2.2.2.2.2.2.2.2.2.2.2.2.1,a.2.2.2.2.2.2.2.2.2.2.2.2.2.1,a.2.2.2.2.2.2.2.2.2.2.2.2.2.2.1,a.2.2.2.2.2.2.2.2.2.2.2.2.2.2.2.1,a.2.2.2.2.2.2.2.2.2.2.2.2.2.2.2.2.1,a.2.2.2.2.2.2.2.2.2.2.2.2.2.2.2.2.2.1,a.2.2.2.2.2.2.2.2.2.2.2.2.2.2.2.2.2.2.1,a.2.2.2.2.2.2.2.2.2.2.2.2.2.2.2.2.2.2.2.1,a.2.2.2.2.2.2.2.2.2.2.2.2.2.2.2.2.2.2.2.2))[g]?).bind λd =>(ix ((c.2.2.2.2.2.2.2.2.2.2.2.2.1.set f (a.1,a.2.1,1,a.2.2.2.1,a.2.2.2.2.1,a.2.2.2.2.2.1,a.2.2.2.2.2.2.1,a.2.2.2.2.2.2.2.1,a.2.2.2.2.2.2.2.2.1,a.2.2.2.2.2.2.2.2.2.1,a.2.2.2.2.2.2.2.2.2.2.1,a.2.2.2.2.2.2.2.2.2.2.2.1,a.2.2.2.2.2.2.2.2.2.2.2.2.1,a.2.2.2.2.2.2.2.2.2.2.2.2.2.1,a.2.2.2.2.2.2.2.2.2.2.2.2.2.2.1,a.2.2.2.2.2.2.2.2.2.2.2.2.2.2.2.1,a.2.2.2.2.2.2.2.2.2.2.2.2.2.2.2.2.1,a.2.2.2.2.2.2.2.2.2.2.2.2.2.2.2.2.2.1,a.2.2.2.2.2.2.2.2.2.2.2.2.2.2.2.2.2.2.1,a.2.2.2.2.2.2.2.2.2.2.2.2.2.2.2.2.2.2.2.1,a.2.2.2.2.2.2.2.2.2.2.2.2.2.2.2.2.2.2.2.2)).set g (d.1,d.2.1,d.2.2.1,d.2.2.2.1,d.2.2.2.2.1,d.2.2.2.2.2.1,d.2.2.2.2.2.2.1,d.2.2.2.2.2.2.2.1,b.1,b.2.1,b.2.2.1,b.2.2.2.1,b.2.2.2.2.1,b.2.2.2.2.2.1,b.2.2.2.2.2.2.1,b.2.2.2.2.2.2.2.1,b.2.2.2.2.2.2.2.2.1,b.2.2.2.2.2.2.2.2.2.1,b.2.2.2.2.2.2.2.2.2.2,d.2.2.2.2.2.2.2.2.2.2.2.2.2.2.2.2.2.2.2.1,d.2.2.2.2.2.2.2.2.2.2.2.2.2.2.2.2.2.2.2.2)).length h).bind λi =>(((c.2.2.2.2.2.2.2.2.2.2.2.2.1.set f (a.1,a.2.1,1,a.2.2.2.1,a.2.2.2.2.1,a.2.2.2.2.2.1,a.2.2.2.2.2.2.1,a.2.2.2.2.2.2.2.1,a.2.2.2.2.2.2.2.2.1,a.2.2.2.2.2.2.2.2.2.1,a.2.2.2.2.2.2.2.2.2.2.1,a.2.2.2.2.2.2.2.2.2.2.2.1,a.2.2.2.2.2.2.2.2.2.2.2.2.1,a.2.2.2.2.2.2.2.2.2.2.2.2.2.1,a.2.2.2.2.2.2.2.2.2.2.2.2.2.2.1,a.2.2.2.2.2.2.2.2.2.2.2.2.2.2.2.1,a.2.2.2.2.2.2.2.2.2.2.2.2.2.2.2.2.1,a.2.2.2.2.2.2.2.2.2.2.2.2.2.2.2.2.2.1,a.2.2.2.2.2.2.2.2.2.2.2.2.2.2.2.2.2.2.1,a.2.2.2.2.2.2.2.2.2.2.2.2.2.2.2.2.2.2.2.1,a.2.2.2.2.2.2.2.2.2.2.2.2.2.2.2.2.2.2.2.2)).set g (d.1,d.2.1,d.2.2.1,d.2.2.2.1,d.2.2.2.2.1,d.2.2.2.2.2.1,d.2.2.2.2.2.2.1,d.2.2.2.2.2.2.2.1,b.1,b.2.1,b.2.2.1,b.2.2.2.1,b.2.2.2.2.1,b.2.2.2.2.2.1,b.2.2.2.2.2.2.1,b.2.2.2.2.2.2.2.1,b.2.2.2.2.2.2.2.2.1,b.2.2.2.2.2.2.2.2.2.1,b.2.2.2.2.2.2.2.2.2.2,d.2.2.2.2.2.2.2.2.2.2.2.2.2.2.2.2.2.2.2.1,d.2.2.2.2.2.2.2.2.2.2.2.2.2.2.2.2.2.2.2.2))[i]?).bind λe =>some (c.1,c.2.1,c.2.2.1,c.2.2.2.1,c.2.2.2.2.1,c.2.2.2.2.2.1,c.2.2.2.2.2.2.1,c.2.2.2.2.2.2.2.1,c.2.2.2.2.2.2.2.2.1,c.2.2.2.2.2.2.2.2.2.1,c.2.2.2.2.2.2.2.2.2.2.1,c.2.2.2.2.2.2.2.2.2.2.2.1,((c.2.2.2.2.2.2.2.2.2.2.2.2.1.set f (a.1,a.2.1,1,a.2.2.2.1,a.2.2.2.2.1,a.2.2.2.2.2.1,a.2.2.2.2.2.2.1,a.2.2.2.2.2.2.2.1,a.2.2.2.2.2.2.2.2.1,a.2.2.2.2.2.2.2.2.2.1,a.2.2.2.2.2.2.2.2.2.2.1,a.2.2.2.2.2.2.2.2.2.2.2.1,a.2.2.2.2.2.2.2.2.2.2.2.2.1,a.2.2.2.2.2.2.2.2.2.2.2.2.2.1,a.2.2.2.2.2.2.2.2.2.2.2.2.2.2.1,a.2.2.2.2.2.2.2.2.2.2.2.2.2.2.2.1,a.2.2.2.2.2.2.2.2.2.2.2.2.2.2.2.2.1,a.2.2.2.2.2.2.2.2.2.2.2.2.2.2.2.2.2.1,a.2.2.2.2.2.2.2.2.2.2.2.2.2.2.2.2.2.2.1,a.2.2.2.2.2.2.2.2.2.2.2.2.2.2.2.2.2.2.2.1,a.2.2.2.2.2.2.2.2.2.2.2.2.2.2.2.2.2.2.2.2)).set g (d.1,d.2.1,d.2.2.1,d.2.2.2.1,d.2.2.2.2.1,d.2.2.2.2.2.1,d.2.2.2.2.2.2.1,d.2.2.2.2.2.2.2.1,b.1,b.2.1,b.2.2.1,b.2.2.2.1,b.2.2.2.2.1,b.2.2.2.2.2.1,b.2.2.2.2.2.2.1,b.2.2.2.2.2.2.2.1,b.2.2.2.2.2.2.2.2.1,b.2.2.2.2.2.2.2.2.2.1,b.2.2.2.2.2.2.2.2.2.2,d.2.2.2.2.2.2.2.2.2.2.2.2.2.2.2.2.2.2.2.1,d.2.2.2.2.2.2.2.2.2.2.2.2.2.2.2.2.2.2.2.2)).set i (e.1,e.2.1,e.2.2.1,e.2.2.2.1,e.2.2.2.2.1,e.2.2.2.2.2.1,e.2.2.2.2.2.2.1,e.2.2.2.2.2.2.2.1,e.2.2.2.2.2.2.2.2.1,e.2.2.2.2.2.2.2.2.2.1,e.2.2.2.2.2.2.2.2.2.2.1,e.2.2.2.2.2.2.2.2.2.2.2.1,e.2.2.2.2.2.2.2.2.2.2.2.2.1,e.2.2.2.2.2.2.2.2.2.2.2.2.2.1,e.2.2.2.2.2.2.2.2.2.2.2.2.2.2.1,e.2.2.2.2.2.2.2.2.2.2.2.2.2.2.2.1,e.2.2.2.2.2.2.2.2.2.2.2.2.2.2.2.2.1,e.2.2.2.2.2.2.2.2.2.2.2.2.2.2.2.2.2.1,e.2.2.2.2.2.2.2.2.2.2.2.2.2.2.2.2.2.2.1,0,e.2.2.2.2.2.2.2.2.2.2.2.2.2.2.2.2.2.2.2.2),c.2.2.2.2.2.2.2.2.2.2.2.2.2.1,c.2.2.2.2.2.2.2.2.2.2.2.2.2.2)
def oW:FL:=(273,⟨[.ptr xv (some false),.val false wI false],[],λa=>fR a.1 a.2⟩)::oV
theorem vf:Gd oW:=wM ve 273 Tryz.f273 [] Tryz.func273
def e9 (a:wW) (b:Int):Option wW :=(yC a.2.2.2.2.2.2.2.2.2.2.2.2.1.length 0 b).bind λc =>(app ([]:List xl) ((a.2.2.2.2.2.2.2.2.2.2.2.2.1.take c.2).drop c.1)).bind λe =>(yC a.2.2.2.2.2.2.2.2.2.2.2.2.1.length (wE (b+1)) (a.2.2.2.2.2.2.2.2.2.2.2.2.1.length:Int)).bind λd =>(app e ((a.2.2.2.2.2.2.2.2.2.2.2.2.1.take d.2).drop d.1)).bind λf =>some (a.1,a.2.1,a.2.2.1,a.2.2.2.1,a.2.2.2.2.1,a.2.2.2.2.2.1,a.2.2.2.2.2.2.1,a.2.2.2.2.2.2.2.1,a.2.2.2.2.2.2.2.2.1,a.2.2.2.2.2.2.2.2.2.1,a.2.2.2.2.2.2.2.2.2.2.1,a.2.2.2.2.2.2.2.2.2.2.2.1,f,a.2.2.2.2.2.2.2.2.2.2.2.2.2.1,a.2.2.2.2.2.2.2.2.2.2.2.2.2.2)
def oX:FL:=(274,⟨[.ptr xv (some false),.val false wI false],[],λa=>e9 a.1 a.2⟩)::oW
theorem vg:Gd oX:=wM vf 274 Tryz.f274 [] Tryz.func274
def ea (a:wW) (d:Int):Option wW :=(ix a.2.2.2.2.2.2.2.2.2.2.2.2.1.length d).bind λf =>(a.2.2.2.2.2.2.2.2.2.2.2.2.1[f]?).bind λg =>(fQ a.2.2.2.2.2.2.2.2.2.2.2.1 g.2.1).bind λc =>(cond (c.2==0) (some (c.1.1 != 162)) (some false)).bind λh =>cond h ((ix a.2.2.2.2.2.2.2.2.2.2.2.2.1.length d).bind λe =>(a.2.2.2.2.2.2.2.2.2.2.2.2.1[e]?).bind λb =>(fR (a.1,a.2.1,a.2.2.1,a.2.2.2.1,a.2.2.2.2.1,a.2.2.2.2.2.1,a.2.2.2.2.2.2.1,a.2.2.2.2.2.2.2.1,a.2.2.2.2.2.2.2.2.1,a.2.2.2.2.2.2.2.2.2.1,a.2.2.2.2.2.2.2.2.2.2.1,a.2.2.2.2.2.2.2.2.2.2.2.1,a.2.2.2.2.2.2.2.2.2.2.2.2.1.set e (b.1,b.2.1,b.2.2.1,c.1.1,c.1.2.1,c.1.2.2.1,c.1.2.2.2.1,c.1.2.2.2.2,b.2.2.2.2.2.2.2.2.1,b.2.2.2.2.2.2.2.2.2.1,b.2.2.2.2.2.2.2.2.2.2.1,b.2.2.2.2.2.2.2.2.2.2.2.1,b.2.2.2.2.2.2.2.2.2.2.2.2.1,b.2.2.2.2.2.2.2.2.2.2.2.2.2.1,b.2.2.2.2.2.2.2.2.2.2.2.2.2.2.1,b.2.2.2.2.2.2.2.2.2.2.2.2.2.2.2.1,b.2.2.2.2.2.2.2.2.2.2.2.2.2.2.2.2.1,b.2.2.2.2.2.2.2.2.2.2.2.2.2.2.2.2.2.1,b.2.2.2.2.2.2.2.2.2.2.2.2.2.2.2.2.2.2.1,b.2.2.2.2.2.2.2.2.2.2.2.2.2.2.2.2.2.2.2.1,b.2.2.2.2.2.2.2.2.2.2.2.2.2.2.2.2.2.2.2.2),a.2.2.2.2.2.2.2.2.2.2.2.2.2.1,a.2.2.2.2.2.2.2.2.2.2.2.2.2.2) d).bind λi =>some i) (cond (c.2==3) ((aE a.2.2.2.2.2.2.2.2.1).bind λj =>(e9 (a.1,a.2.1,a.2.2.1,a.2.2.2.1,a.2.2.2.2.1,a.2.2.2.2.2.1,a.2.2.2.2.2.2.1,a.2.2.2.2.2.2.2.1,j,a.2.2.2.2.2.2.2.2.2.1,a.2.2.2.2.2.2.2.2.2.2.1,a.2.2.2.2.2.2.2.2.2.2.2.1,a.2.2.2.2.2.2.2.2.2.2.2.2.1,a.2.2.2.2.2.2.2.2.2.2.2.2.2.1,a.2.2.2.2.2.2.2.2.2.2.2.2.2.2) d).bind λk =>some k) ((aE a.2.2.2.2.2.2.2.1).bind λl =>(e9 (a.1,a.2.1,a.2.2.1,a.2.2.2.1,a.2.2.2.2.1,a.2.2.2.2.2.1,a.2.2.2.2.2.2.1,l,a.2.2.2.2.2.2.2.2.1,a.2.2.2.2.2.2.2.2.2.1,a.2.2.2.2.2.2.2.2.2.2.1,a.2.2.2.2.2.2.2.2.2.2.2.1,a.2.2.2.2.2.2.2.2.2.2.2.2.1,a.2.2.2.2.2.2.2.2.2.2.2.2.2.1,a.2.2.2.2.2.2.2.2.2.2.2.2.2.2) d).bind λm =>some m))
def oY:FL:=(180,⟨[.ptr xv (some false),.val false wI false],[],λa=>ea a.1 a.2⟩)::oX
theorem vh:Gd oY:=wM vg 180 Tryz.f180 [] Tryz.func180
def ed (b:wW) (c:Int) (a:xg):Option (wW×List xZ) :=(ix b.2.2.2.2.2.2.2.2.2.2.2.2.1.length c).bind λd =>(b.2.2.2.2.2.2.2.2.2.2.2.2.1[d]?).bind λe =>(e9 b c).bind λf =>some (f,[(e.1,a.1,a.2.1,a.2.2.1,a.2.2.2.1,a.2.2.2.2)])
def oZ:FL:=(183,⟨[.ptr xv (some false),.val false wI false,.val true yW false],[.val false (.one (.sl Ac)) (some false)],λa=>ed a.1 a.2.1 a.2.2⟩)::oY
theorem vi:Gd oZ:=wM vh 183 Tryz.f183 [] Tryz.func183
def az (e:List Int) (b:Int) (a:List Int):Option (List Int) :=(app ([]:List Int) e).bind λc =>(ac b 0 255).bind λf =>(cond (!f) (some true) (some (decide ((a.length:Int)>250)))).bind λg =>cond g (some c) ((app c [IntKind.u8.wrap (b)]).bind λd =>cond (decide ((a.length:Int)>127)) ((app d ([129]:List Int)).bind λh =>(app h [IntKind.u8.wrap ((a.length:Int))]).bind λi =>(app i a).bind λj =>some j) ((app d [IntKind.u8.wrap ((a.length:Int))]).bind λk =>(app k a).bind λl =>some l))
def p5:FL:=(62,⟨[.val false yh false,.val false wI false,.val false yh false],[.val false yh (some true)],λa=>az a.1 a.2.1 a.2.2⟩)::oZ
theorem vj:Gd p5:=wM vi 62 Tryz.f62 [] Tryz.func62
def cO (b:List Int) (a:Int) (c:List Int):Option ((Int×List Int)⊕(List Int)) :=cond (decide (a<(b.length:Int))) ((at? b a).bind λd =>(dZ d).bind λe =>(app c e).bind λf =>some (.inl (wE (a+1),f))) (some (.inr c))
def fS (a:List Int):Option (List Int) :=(bJ a).bind λc =>cond (!c) (some ([]:List Int)) ((loop (λb=>cO a b.1 b.2) (0,([]:List Int))).bind λd =>some d)
def p6:FL:=(309,⟨[.val false yU false],[.val false yh (some true)],λa=>fS a⟩)::p5
theorem vk:Gd p6:=wM vj 309 Tryz.f309 [(0,⟨⟨[(3,false,[.own 1000000000]),(4,false,[dI])],[(1000000000,.root (.one (.int .u8)) true)]⟩,
 ⟨[(3,false,[.own 1000000300])],[(1000000300,.root (.one (.int .u8)) true)]⟩,none⟩)] Tryz.func309
def ip (b:List Int) (a:zH):Option (List Int) :=(bu a).bind λc =>cond (!c) ((app ([]:List Int) b).bind λd =>some d) (cond (a.1==2) ((bv a.2.1).bind λe =>(az b a.1 e).bind λf =>some f) (cond (a.1==4) ((az b a.1 (Bc a.2.2.1)).bind λg =>some g) (cond (a.1==6) ((fS a.2.2.2).bind λh =>(az b a.1 h).bind λi =>some i) ((az b a.1 ([]:List Int)).bind λj =>some j))))
def p7:FL:=(308,⟨[.val false yh false,.val true AN false],[.val false yh (some true)],λa=>ip a.1 a.2⟩)::p6
theorem vl:Gd p7:=wM vk 308 Tryz.f308 [] Tryz.func308
def cP (b:List wF) (a:Int) (c:List Int):Option ((Int×List Int)⊕(List Int)) :=cond (decide (a<(b.length:Int))) ((at? b a).bind λd =>(fS d.1).bind λe =>(az ([]:List Int) 6 e).bind λf =>(at? b a).bind λg =>(ip f g.2).bind λh =>(az c 48 h).bind λi =>some (.inl (wE (a+1),i))) (some (.inr c))
def iq (b:List wF):Option (List Int) :=(loop (λa=>cP b a.1 a.2) (0,([]:List Int))).bind λc =>some c
def p8:FL:=(223,⟨[.val false (.one (.sl wV)) false],[.val false yh (some true)],λa=>iq a⟩)::p7
theorem vm:Gd p8:=wM vl 223 Tryz.f223 [(0,⟨⟨[(3,false,[.own 1000000000]),(4,false,[dI])],[(1000000000,.root (.one (.int .u8)) true)]⟩,
 ⟨[(3,false,[.own 1000000300])],[(1000000300,.root (.one (.int .u8)) true)]⟩,none⟩)] Tryz.func223
def jH (a:xg):Option ((List Int)×Bool) :=(iq a.2.2.2.2).bind λb =>cond (decide ((b.length:Int)>250)) (some (([]:List Int),false)) ((bv a.2.1).bind λd =>(az ([]:List Int) 2 d).bind λe =>(bv a.2.2.1).bind λf =>(az e 2 f).bind λg =>(bv a.2.2.2.1).bind λh =>(az g 2 h).bind λi =>(az i 48 b).bind λc =>let j:=decide ((c.length:Int)<=250); some (c,j))
def p9:FL:=(138,⟨[.val true yW false],[.val false yh (some true),.val false xo (some true)],λa=>jH a⟩)::p8
theorem vn:Gd p9:=wM vm 138 Tryz.f138 [] Tryz.func138
def ir (a:xg):Option (List Int) :=(bK a).bind λc =>cond (!c) (some ([]:List Int)) ((jH a).bind λb =>cond (!b.2) (some ([]:List Int)) ((az ([]:List Int) a.1 b.1).bind λd =>some d))
def pa:FL:=(65,⟨[.val true yW false],[.val false yh (some true)],λa=>ir a⟩)::p9
theorem vp:Gd pa:=wM vn 65 Tryz.f65 [] Tryz.func65
def ee (a:xg):Option Bool :=(ir a).bind λb =>(ac (b.length:Int) 1 120).bind λc =>some c
def pb:FL:=(335,⟨[.val true yW false],[.val false xo (some true)],λa=>ee a⟩)::pa
theorem vq:Gd pb:=wM vp 335 Tryz.f335 [] Tryz.func335
def ci (g:Bool) (b:Int) (c:Int) (d:Int) (e:Int) (a:List wF):Option ((Int×Int×Int×Int×List wF)⊕(Int×Int×Int×Int×List wF)) :=(cond g ((ee (b,c,d,e,a)).bind λh =>some (!h)) (some false)).bind λi =>(cond i (some (decide ((a.length:Int)>0))) (some false)).bind λj =>cond j ((yC a.length 0 (wE ((a.length:Int)-1))).bind λf =>some (.inl (b,c,d,e,(a.take f.2).drop f.1))) (some (.inr (b,c,d,e,a)))
def cQ (c:xg) (d:Bool):Option xg :=(loop (λa=>ci d a.1 a.2.1 a.2.2.1 a.2.2.2.1 a.2.2.2.2) c).bind λb =>(ee b).bind λe =>cond e (some b) (some (162,b.2.1,7,0,[]))
def pc:FL:=(276,⟨[.val true yW true,.val false xo false],[.val true yW (some true)],λa=>cQ a.1 a.2⟩)::pb
theorem vr:Gd pc:=wM vq 276 Tryz.f276 [(0,⟨⟨us 7 3 (us 12 4 []),[(1024,.box [dI,dI,dI,dI,.own 1000000000]),(1000000000,.root wV true)]⟩,
 ⟨[],[(1024,.box [dI,dI,dI,dI,.own 1000000300]),(1000000300,.root wV true)]⟩,none⟩)] Tryz.func276
def iu (a:Bv) (b:Bv):Option Bool :=cond (a.1 != b.1) (some (decide (a.1<b.1))) (cond (a.2.1 != b.2.1) (some (decide (a.2.1<b.2.1))) (cond (a.2.2.2.1 != b.2.2.2.1) (let c:=decide (a.2.2.2.1<b.2.2.2.1); some c) (let d:=decide (a.2.2.2.2<b.2.2.2.2); some d)))
def pf:FL:=(345,⟨[.val true B0 false,.val true B0 false],[.val false xo (some true)],λa=>iu a.1 a.2⟩)::pc
theorem vu:Gd pf:=wM vr 345 Tryz.f345 [] Tryz.func345
def jI (a:Bv) (b:Int):Option (Bv×Bool) :=(de a).bind λc =>(cond (!c) (some true) ((ac b 1 1000).bind λd =>some (!d))).bind λe =>cond e (some (a,false)) ((de (a.1,wE (a.2.1+b),wE (a.2.2.1+1),a.2.2.2.1,a.2.2.2.2)).bind λf =>cond (!f) (some (a,false)) (some ((a.1,wE (a.2.1+b),wE (a.2.2.1+1),a.2.2.2.1,a.2.2.2.2),true)))
def pj:FL:=(371,⟨[.val true B0 false,.val false wI false],[.val true B0 (some true),.val false xo (some true)],λa=>jI a.1 a.2⟩)::pf
theorem vv:Gd pj:=wM vu 371 Tryz.f371 [] Tryz.func371
def jJ (o:Int) (c:List Pt) (d:Int) (b:Int) (j:Int) (k:Int) (l:Int) (m:Int) (n:Int) (e:Int) (f:Int) (g:Int) (h:Int) (i:Int):Option ((Int×Int×Int×Int×Int×Int×Int×Int×Int×Int×Int×Int)⊕(Int×Int×Int×Int×Int×Int×Int×Int×Int×Int×Int)) :=cond (decide (b<(c.length:Int))) ((at? c b).bind λp =>(cond (!p.1) (some true) ((at? c b).bind λq =>some (!q.2.2.1))).bind λr =>cond r (some (.inl (d,wE (b+1),j,k,l,m,n,e,f,g,h,i))) ((at? c b).bind λs =>(at? c b).bind λt =>(jI s.2.2.2 t.2.1).bind λa =>(cond a.2 (some (decide (a.1.1<o))) (some false)).bind λu =>(cond u ((cond (decide (d<0)) (some true) ((iu a.1 (e,f,g,h,i)).bind λv =>some v)).bind λw =>some w) (some false)).bind λx =>cond x (some (.inl (b,wE (b+1),a.1.1,a.1.2.1,a.1.2.2.1,o,0,a.1.1,a.1.2.1,a.1.2.2.1,a.1.2.2.2.1,a.1.2.2.2.2))) (some (.inl (d,wE (b+1),j,k,l,m,n,e,f,g,h,i))))) (some (.inr (d,j,k,l,m,n,e,f,g,h,i)))
def fT (c:Int) (d:List Pt):Option (Bv×Int) :=(loop (λa=>jJ c d a.1 a.2.1 a.2.2.1 a.2.2.2.1 a.2.2.2.2.1 a.2.2.2.2.2.1 a.2.2.2.2.2.2.1 a.2.2.2.2.2.2.2.1 a.2.2.2.2.2.2.2.2.1 a.2.2.2.2.2.2.2.2.2.1 a.2.2.2.2.2.2.2.2.2.2.1 a.2.2.2.2.2.2.2.2.2.2.2) ((-1),0,c,0,0,c,0,0,0,0,0,0)).bind λb =>some ((b.2.1,b.2.2.1,b.2.2.2.1,b.2.2.2.2.1,b.2.2.2.2.2.1),b.1)
def pk:FL:=(344,⟨[.val false wI false,.val false (.one (.sl z0)) false],[.val true B0 (some true),.val false wI (some true)],λa=>fT a.1 a.2⟩)::pj
theorem vw:Gd pk:=wM vv 344 Tryz.f344 [(0,⟨⟨(8,false,[dI])::(9,false,[dI])::us 29 6 (us 52 4 (us 58 7 [])),[(266240,.box [dI,dI,dI,dI,dI]),(526336,.box [dI,dI,dI,dI,dI])]⟩,
 ⟨[(8,false,[dI])],[(266240,.box [dI,dI,dI,dI,dI]),(526336,.box [dI,dI,dI,dI,dI])]⟩,none⟩)] Tryz.func344
def iv (b:Int) (c:List Pt) (d:Int):Option Bv :=(fT b c).bind λa =>some (a.1.1,a.1.2.1,a.1.2.2.1,a.1.2.2.2.1,d)
def pm:FL:=(346,⟨[.val false wI false,.val false (.one (.sl z0)) false,.val false wI false],[.val true B0 (some true)],λa=>iv a.1 a.2.1 a.2.2⟩)::pk
theorem vz:Gd pm:=wM vw 346 Tryz.f346 [] Tryz.func346
def fU (c:Int) (a:List Pt) (b:Int):Option Int :=(ac b 0 (wE ((a.length:Int)-1))).bind λd =>(cond (!d) (some true) ((at? a b).bind λe =>some (!e.1))).bind λf =>cond f (some 4) ((fT c a).bind λg =>cond (g.2==b) (some 1) ((at? a b).bind λh =>(cond (!h.2.2.1) (some true) ((iv c a b).bind λi =>(at? a b).bind λj =>(iu i j.2.2.2).bind λk =>some k)).bind λl =>cond l (some 2) (some 3)))
def po:FL:=(289,⟨[.val false wI false,.val false (.one (.sl z0)) false,.val false wI false],[.val false wI (some true)],λa=>fU a.1 a.2.1 a.2.2⟩)::pm
theorem vA:Gd po:=wM vz 289 Tryz.f289 [] Tryz.func289
def fV (d:Int) (c:List Pt) (b:Int) (a:Int):Option ((Int×Int)⊕Int) :=(cond (decide (a<(c.length:Int))) (some (decide (a<6))) (some false)).bind λe =>cond e ((fU d c a).bind λf =>cond (decide (f<=2)) ((shl .i64 1 (IntKind.u64.wrap (a))).bind λg =>some (.inl (E0 .i64 b g,wE (a+1)))) (some (.inl (b,wE (a+1))))) (some (.inr b))
def fW (b:Int) (c:List Pt):Option Int :=(loop (λa=>fV b c a.1 a.2) (0,0)).bind λd =>some d
def pp:FL:=(198,⟨[.val false wI false,.val false (.one (.sl z0)) false],[.val false wI (some true)],λa=>fW a.1 a.2⟩)::po
theorem vB:Gd pp:=wM vA 198 Tryz.f198 [(0,⟨⟨[(5,false,[dI]),(6,false,[dI]),(12,false,[.undef]),(13,false,[.undef])],[]⟩,
 ⟨[(5,false,[dI])],[]⟩,none⟩)] Tryz.func198
def aQ (b:Int) (a:Int):Option Bool :=(ac a 0 7).bind λc =>(cond c ((shr .i64 b (IntKind.u64.wrap (a))).bind λd =>some ((zc .i64 d 1)==1)) (some false)).bind λe =>some e
def pq:FL:=(200,⟨[.val false wI false,.val false wI false],[.val false xo (some true)],λa=>aQ a.1 a.2⟩)::pp
theorem vC:Gd pq:=wM vB 200 Tryz.f200 [] Tryz.func200
def ef (b:List wJ) (d:Int) (a:Int) (c:List wJ):Option ((Int×List wJ)⊕(List wJ)) :=cond (decide (a<(b.length:Int))) ((at? b a).bind λe =>(cond e.2.2.2.2 (some true) ((at? b a).bind λf =>some (f.2.2.1 != d))).bind λg =>cond g ((at? b a).bind λh =>(app c [h]).bind λi =>some (.inl (wE (a+1),i))) (some (.inl (wE (a+1),c)))) (some (.inr c))
def iw (b:List wJ) (c:Int):Option (List wJ) :=(loop (λa=>ef b c a.1 a.2) (0,([]:List wJ))).bind λd =>some d
def pr:FL:=(304,⟨[.val false (.one (.sl xa)) false,.val false wI false],[.val false (.one (.sl xa)) (some true)],λa=>iw a.1 a.2⟩)::pq
theorem vD:Gd pr:=wM vC 304 Tryz.f304 [(0,⟨⟨(5,false,[.own 1000000000])::(6,false,[dI])::us 20 7 [],[(1000000000,.root xa true)]⟩,
 ⟨[(5,false,[.own 1000000300])],[(1000000300,.root xa true)]⟩,none⟩)] Tryz.func304
def iy (j:wD) (k:Int) (a:Int) (b:Int) (c:List UInt8) (d:Int) (e:Int) (f:Int) (g:Int) (h:Int) (i:List wJ):Option ((Int×Int×List UInt8×Int×Int×Int×Int×Int×List wJ)⊕(Int×List UInt8×Int×Int×Int×Int×Int×List wJ)) :=cond (decide (a<(j.2.2.1.length:Int))) ((aQ k a).bind λl =>cond (!l) ((iw i a).bind λm =>some (.inl (wE (a+1),b,c,d,e,f,g,h,m))) (some (.inl (wE (a+1),b,c,d,e,f,g,h,i)))) (some (.inr (b,c,d,e,f,g,h,i)))
def ba (a:wD):Option wD :=(aE a.2.2.2.2.2.2.2.2.2.2).bind λd =>(fW a.1 a.2.2.1).bind λe =>(loop (λb=>iy a e b.1 b.2.1 b.2.2.1 b.2.2.2.1 b.2.2.2.2.1 b.2.2.2.2.2.1 b.2.2.2.2.2.2.1 b.2.2.2.2.2.2.2.1 b.2.2.2.2.2.2.2.2) (0,a.1,a.2.1,a.2.2.2.2.2.2.1,a.2.2.2.2.2.2.2.1,a.2.2.2.2.2.2.2.2.1,a.2.2.2.2.2.2.2.2.2.1,d,a.2.2.2.1)).bind λc =>some (c.1,c.2.1,a.2.2.1,c.2.2.2.2.2.2.2,a.2.2.2.2.1,a.2.2.2.2.2.1,c.2.2.1,c.2.2.2.1,c.2.2.2.2.1,c.2.2.2.2.2.1,c.2.2.2.2.2.2.1)
def pu:FL:=(216,⟨[.val true wR true],[.val true wR (some true)],λa=>ba a⟩)::pr
theorem vE:Gd pu:=wM vD 216 Tryz.f216 [(0,⟨⟨[(4,false,[dI])],[(1024,.box [dI,dS,.same 3,.own 1000000000,.same 5,.same 6,dI,dI,dI,dI,dI]),(1000000000,.root xa true)]⟩,
 ⟨[],[(1024,.box [dI,dS,.same 3,.own 1000000300,.same 5,.same 6,dI,dI,dI,dI,dI]),(1000000300,.root xa true)]⟩,none⟩)] Tryz.func216
def vF (b:List Int) (c:List Int) (a:Int):Option (Int⊕(Unit⊕Bool)) :=cond (decide (a<(b.length:Int))) ((at? b a).bind λd =>(at? c a).bind λe =>cond (d != e) (some (.inr (.inr false))) (some (.inl (wE (a+1))))) (some (.inr (.inl ())))
def cR (a:List Int) (b:List Int):Option Bool :=cond ((a.length:Int) != (b.length:Int)) (some false) ((loop (λc=>vF a b c) 0).bind (Sum.elim (λe =>some true) (λd=>some d)))
def pv:FL:=(366,⟨[.val false yU false,.val false yU false],[.val false xo (some true)],λa=>cR a.1 a.2⟩)::pu
theorem vG:Gd pv:=wM vE 366 Tryz.f366 [(0,⟨⟨[(5,false,[dI])],[]⟩,
 ⟨[],[]⟩,some ⟨[(4,false,[dB])],[]⟩⟩)] Tryz.func366
def jK (b:List Int) (a:List Int):Option Bool :=(cond (decide ((b.length:Int)>(a.length:Int))) ((cut b 0 (a.length:Int)).bind λc =>(cR c a).bind λd =>some d) (some false)).bind λe =>some e
def pw:FL:=(395,⟨[.val false yU false,.val false yU false],[.val false xo (some true)],λa=>jK a.1 a.2⟩)::pv
theorem vH:Gd pw:=wM vG 395 Tryz.f395 [] Tryz.func395
def fX (a:List Int):Option ((List Int)×Bool) :=(jK a ([1,3,1]:List Int)).bind λb =>cond (!b) (some (([]:List Int),false)) ((cut a 3 (a.length:Int)).bind λc =>some (c,true))
def pz:FL:=(391,⟨[.val false yU false],[.val false yU none,.val false xo (some true)],λa=>fX a⟩)::pw
theorem vI:Gd pz:=wM vH 391 Tryz.f391 [] Tryz.func391
def iz (b:wD) (d:List Int):Option Bool :=(fX d).bind λa =>cond (!a.2) (some false) (cond ((a.1.length:Int)==2) ((at? a.1 0).bind λe =>(cond (e==1) ((at? a.1 1).bind λf =>some (f==1)) (some false)).bind λg =>some g) (cond ((a.1.length:Int) != 3) (some false) ((at? a.1 0).bind λc =>cond (c==2) ((at? a.1 1).bind λh =>(cond (h==2) (some true) ((at? a.1 1).bind λi =>some (i==4))).bind λj =>(cond j ((at? a.1 2).bind λk =>(ac k 1 (b.2.2.1.length:Int)).bind λl =>some l) (some false)).bind λm =>some m) (cond (c==3) ((at? a.1 1).bind λn =>(cond (n==1) ((at? a.1 2).bind λo =>(ac o 1 99).bind λp =>some p) (some false)).bind λq =>(cond q (some true) ((at? a.1 1).bind λr =>(cond (r==2) (some true) ((at? a.1 1).bind λs =>some (s==3))).bind λt =>(cond t ((at? a.1 2).bind λu =>(aP (b.2.2.2.2.1,b.2.2.2.2.2.1) u).bind λv =>some (decide (v>=0))) (some false)).bind λw =>some w)).bind λx =>some x) (some false)))))
def pA:FL:=(382,⟨[.val true wR false,.val false yU false],[.val false xo (some true)],λa=>iz a.1 a.2⟩)::pz
theorem vJ:Gd pA:=wM vI 382 Tryz.f382 [] Tryz.func382
def cS (b:List wJ) (c:Int) (d:Int) (a:Int):Option (Int⊕(Unit⊕Int)) :=cond (decide (a<(b.length:Int))) ((at? b a).bind λe =>(cond (e.1==c) ((at? b a).bind λf =>some (f.2.1==d)) (some false)).bind λg =>cond g (some (.inr (.inr a))) (some (.inl (wE (a+1))))) (some (.inr (.inl ())))
def eg (a:List wJ) (b:Int) (c:Int):Option Int :=(loop (λd=>cS a b c d) 0).bind (Sum.elim (λf =>some (-1)) (λe=>some e))
def pB:FL:=(291,⟨[.val false (.one (.sl xa)) false,.val false wI false,.val false wI false],[.val false wI (some true)],λa=>eg a.1 a.2.1 a.2.2⟩)::pA
theorem vK:Gd pB:=wM vJ 291 Tryz.f291 [(0,⟨⟨(7,false,[dI])::us 22 7 [],[]⟩,
 ⟨[],[]⟩,some ⟨[(6,false,[dI])],[]⟩⟩)] Tryz.func291
def iA (b:wD) (c:List Int):Option Bool :=(fX c).bind λa =>cond (!a.2) (some false) (cond ((a.1.length:Int)==2) ((at? a.1 0).bind λd =>(cond (d==1) ((at? a.1 1).bind λe =>(ac e 2 5).bind λf =>some f) (some false)).bind λg =>some g) (cond ((a.1.length:Int)==3) ((at? a.1 0).bind λh =>(cond (h==2) ((at? a.1 1).bind λi =>(cond (i==1) (some true) ((at? a.1 1).bind λj =>some (j==3))).bind λk =>some k) (some false)).bind λl =>(cond l ((at? a.1 2).bind λm =>(ac m 1 (b.2.2.1.length:Int)).bind λn =>some n) (some false)).bind λo =>some o) (cond ((a.1.length:Int)==4) ((at? a.1 0).bind λp =>(cond (p==4) ((at? a.1 1).bind λq =>some (q==1)) (some false)).bind λr =>(cond r ((at? a.1 2).bind λs =>(at? a.1 3).bind λt =>(eg b.2.2.2.1 s t).bind λu =>some (decide (u>=0))) (some false)).bind λv =>some v) (some false))))
def pC:FL:=(383,⟨[.val true wR false,.val false yU false],[.val false xo (some true)],λa=>iA a.1 a.2⟩)::pB
theorem vL:Gd pC:=wM vK 383 Tryz.f383 [] Tryz.func383
def jL (a:wD) (g:Int) (d:Int) (c:Int):Option (wD×Int) :=cond (g==2) ((ac c 1 1000).bind λh =>cond (!h) (some (a,2)) ((ix a.2.2.1.length d).bind λe =>(a.2.2.1[e]?).bind λb =>some ((a.1,a.2.1,a.2.2.1.set e (b.1,c,b.2.2.1,b.2.2.2.1,b.2.2.2.2.1,b.2.2.2.2.2.1,b.2.2.2.2.2.2.1,b.2.2.2.2.2.2.2),a.2.2.2.1,a.2.2.2.2.1,a.2.2.2.2.2.1,a.2.2.2.2.2.2.1,a.2.2.2.2.2.2.2.1,a.2.2.2.2.2.2.2.2.1,a.2.2.2.2.2.2.2.2.2.1,a.2.2.2.2.2.2.2.2.2.2),0))) ((ix a.2.2.2.2.2.1.length d).bind λf =>(a.2.2.2.2.2.1[f]?).bind λi =>some ((a.1,a.2.1,a.2.2.1,a.2.2.2.1,a.2.2.2.2.1,a.2.2.2.2.2.1.set f c,a.2.2.2.2.2.2.1,a.2.2.2.2.2.2.2.1,a.2.2.2.2.2.2.2.2.1,a.2.2.2.2.2.2.2.2.2.1,a.2.2.2.2.2.2.2.2.2.2),0))
def pD:FL:=(384,⟨[.val true wR true,.val false wI false,.val false wI false,.val false wI false],[.val true wR (some true),.val false wI (some true)],λa=>jL a.1 a.2.1 a.2.2.1 a.2.2.2⟩)::pC
theorem vM:Gd pD:=wM vL 384 Tryz.f384 [] Tryz.func384
def iB (b:xO) (c:wY) (d:Bool) (a:Int) (e:List wY):Option ((Bool×Int×List wY)⊕(Bool×List wY)) :=cond (decide (a<(b.1.length:Int))) ((cond (!d) ((at? b.1 a).bind λg =>some (decide (g.1>=c.1))) (some false)).bind λh =>cond h ((app e [c]).bind λf =>(at? b.1 a).bind λi =>cond (i.1 != c.1) ((at? b.1 a).bind λj =>(app f [j]).bind λk =>some (.inl (true,wE (a+1),k))) (some (.inl (true,wE (a+1),f)))) ((at? b.1 a).bind λl =>cond (l.1 != c.1) ((at? b.1 a).bind λm =>(app e [m]).bind λn =>some (.inl (d,wE (a+1),n))) (some (.inl (d,wE (a+1),e))))) (some (.inr (d,e)))
def cU (c:xO) (d:wY):Option xO :=(app ([]:List Int) c.2).bind λe =>(loop (λa=>iB c d a.1 a.2.1 a.2.2) (false,0,[])).bind λb =>cond (!b.1) ((app b.2 [d]).bind λf =>some (f,e)) (some (b.2,e))
def pE:FL:=(350,⟨[.val true yQ false,.val true xV false],[.val true yQ (some true)],λa=>cU a.1 a.2⟩)::pD
theorem vN:Gd pE:=wM vM 350 Tryz.f350 [(0,⟨⟨(6,false,[dB])::(7,false,[dI])::us 23 9 [],[(268288,.box [.own 1000000000,.same 266240]),(1000000000,.root xV true)]⟩,
 ⟨[(6,false,[dB])],[(268288,.box [.own 1000000300,.same 266240]),(1000000300,.root xV true)]⟩,none⟩)] Tryz.func350
def jM (a:wD) (c:Int) (d:Int):Option (wD×Int) :=(aP (a.2.2.2.2.1,a.2.2.2.2.2.1) c).bind λb =>(cond (d==4) (some (decide (b<0))) (some false)).bind λh =>(cond h (some (decide ((a.2.2.2.2.1.length:Int)<6))) (some false)).bind λi =>cond i ((cU (a.2.2.2.2.1,a.2.2.2.2.2.1) (c,0,0)).bind λe =>some ((a.1,a.2.1,a.2.2.1,a.2.2.2.1,e.1,e.2,a.2.2.2.2.2.2.1,a.2.2.2.2.2.2.2.1,a.2.2.2.2.2.2.2.2.1,a.2.2.2.2.2.2.2.2.2.1,a.2.2.2.2.2.2.2.2.2.2),0)) ((cond (d==6) (some (decide (b>=0))) (some false)).bind λj =>cond j ((yC a.2.2.2.2.1.length 0 b).bind λf =>(app ([]:List wY) ((a.2.2.2.2.1.take f.2).drop f.1)).bind λk =>(yC a.2.2.2.2.1.length (wE (b+1)) (a.2.2.2.2.1.length:Int)).bind λg =>(app k ((a.2.2.2.2.1.take g.2).drop g.1)).bind λl =>some ((a.1,a.2.1,a.2.2.1,a.2.2.2.1,l,a.2.2.2.2.2.1,a.2.2.2.2.2.2.1,a.2.2.2.2.2.2.2.1,a.2.2.2.2.2.2.2.2.1,a.2.2.2.2.2.2.2.2.2.1,a.2.2.2.2.2.2.2.2.2.2),0)) (some (a,2)))
def pF:FL:=(392,⟨[.val true wR true,.val false wI false,.val false wI false],[.val true wR (some true),.val false wI (some true)],λa=>jM a.1 a.2.1 a.2.2⟩)::pE
theorem vO:Gd pF:=wM vN 392 Tryz.f392 [] Tryz.func392
def iC (a:wD) (d:Int) (e:Int) (b:Int):Option (wD×Int) :=cond (d==1) ((jM a e b).bind λh =>some h) ((shl .i64 1 (IntKind.u64.wrap ((a.2.2.1.length:Int)))).bind λi =>(ac b 0 (wE (i-1))).bind λj =>cond (!j) (some (a,2)) ((aP (a.2.2.2.2.1,a.2.2.2.2.2.1) e).bind λk =>(ix a.2.2.2.2.1.length k).bind λl =>(a.2.2.2.2.1[l]?).bind λc =>cond (d==2) ((cU (a.2.2.2.2.1,a.2.2.2.2.2.1) (c.1,b,c.2.2)).bind λf =>some ((a.1,a.2.1,a.2.2.1,a.2.2.2.1,f.1,f.2,a.2.2.2.2.2.2.1,a.2.2.2.2.2.2.2.1,a.2.2.2.2.2.2.2.2.1,a.2.2.2.2.2.2.2.2.2.1,a.2.2.2.2.2.2.2.2.2.2),0)) ((cU (a.2.2.2.2.1,a.2.2.2.2.2.1) (c.1,c.2.1,b)).bind λg =>some ((a.1,a.2.1,a.2.2.1,a.2.2.2.1,g.1,g.2,a.2.2.2.2.2.2.1,a.2.2.2.2.2.2.2.1,a.2.2.2.2.2.2.2.2.1,a.2.2.2.2.2.2.2.2.2.1,a.2.2.2.2.2.2.2.2.2.2),0))))
def pG:FL:=(385,⟨[.val true wR true,.val false wI false,.val false wI false,.val false wI false],[.val true wR (some true),.val false wI (some true)],λa=>iC a.1 a.2.1 a.2.2.1 a.2.2.2⟩)::pF
theorem vP:Gd pG:=wM vO 385 Tryz.f385 [] Tryz.func385
def fY (d:wD) (b:wF):Option (wD×Int) :=(af d).bind λa =>(iz d b.1).bind λe =>cond (!e) ((iA d b.1).bind λf =>cond f (some (a,4)) (some (a,3))) ((cut b.1 3 (b.1.length:Int)).bind λc =>(at? c 0).bind λg =>cond (g==1) (cond (b.2.1 != 4) (some (a,1)) (let h:=decide ((b.2.2.2.1.length:Int)>10); cond h (some (a,2)) (some ((a.1,b.2.2.2.1,a.2.2.1,a.2.2.2.1,a.2.2.2.2.1,a.2.2.2.2.2.1,a.2.2.2.2.2.2.1,a.2.2.2.2.2.2.2.1,a.2.2.2.2.2.2.2.2.1,a.2.2.2.2.2.2.2.2.2.1,a.2.2.2.2.2.2.2.2.2.2),0)))) (cond (b.2.1 != 2) (some (a,1)) ((at? c 0).bind λi =>cond (i==2) ((at? c 1).bind λj =>(at? c 2).bind λk =>(jL a j (wE (k-1)) b.2.2.1).bind λl =>some l) ((at? c 1).bind λm =>(at? c 2).bind λn =>(iC a m n b.2.2.1).bind λo =>some o))))
def pH:FL:=(367,⟨[.val true wR false,.val true wV false],[.val true wR (some true),.val false wI (some true)],λa=>fY a.1 a.2⟩)::pG
theorem vQ:Gd pH:=wM vP 367 Tryz.f367 [] Tryz.func367
def fZ (l:wD) (d:List wF) (b:Int) (c:Int) (e:Int) (f:List UInt8) (g:Int) (h:Int) (i:Int) (j:Int) (k:Int):Option ((Int×Int×List UInt8×Int×Int×Int×Int×Int)⊕((Int×List UInt8×Int×Int×Int×Int×Int)⊕(Int×Int×Int×List UInt8×Int×Int×Int×Int×Int×List Pt×List wJ×List wY×List Int))) :=cond (decide (c<b)) ((at? d c).bind λm =>(at? d b).bind λn =>(cR m.1 n.1).bind λo =>cond o ((af l).bind λa =>some (.inr (.inr (5,wE (b+1),a.1,a.2.1,a.2.2.2.2.2.2.1,a.2.2.2.2.2.2.2.1,a.2.2.2.2.2.2.2.2.1,a.2.2.2.2.2.2.2.2.2.1,a.2.2.2.2.2.2.2.2.2.2,a.2.2.1,a.2.2.2.1,a.2.2.2.2.1,a.2.2.2.2.2.1)))) (some (.inl (wE (c+1),e,f,g,h,i,j,k)))) (some (.inr (.inl (e,f,g,h,i,j,k))))
def iD (g:wD) (f:List wF) (e:Int) (h:Int) (i:List UInt8) (j:Int) (k:Int) (l:Int) (m:Int) (n:Int) (o:Int) (p:List UInt8) (q:Int) (r:Int) (s:Int) (t:Int) (u:Int) (v:List Pt) (w:List wJ) (x:List wY) (y:List Int) (z:List Pt) (A:List wJ) (B:List wY) (C:List Int):Option ((Int×Int×List UInt8×Int×Int×Int×Int×Int×Int×List UInt8×Int×Int×Int×Int×Int×List Pt×List wJ×List wY×List Int×List Pt×List wJ×List wY×List Int)⊕((Int×List UInt8×Int×Int×Int×Int×Int×Int×List UInt8×Int×Int×Int×Int×Int×List Pt×List wJ×List wY×List Int×List Pt×List wJ×List wY×List Int)⊕(Int×Int×Int×List UInt8×Int×Int×Int×Int×Int×List Pt×List wJ×List wY×List Int))) :=cond (decide (e<(f.length:Int))) ((loop (λc=>fZ g f e c.1 c.2.1 c.2.2.1 c.2.2.2.1 c.2.2.2.2.1 c.2.2.2.2.2.1 c.2.2.2.2.2.2.1 c.2.2.2.2.2.2.2) (0,h,i,j,k,l,m,n)).bind (Sum.elim (λd =>(at? f e).bind λD =>(fY (o,p,z,A,B,C,q,r,s,t,u) D).bind λa =>cond (a.2 != 0) ((af g).bind λb =>some (.inr (.inr (a.2,wE (e+1),b.1,b.2.1,b.2.2.2.2.2.2.1,b.2.2.2.2.2.2.2.1,b.2.2.2.2.2.2.2.2.1,b.2.2.2.2.2.2.2.2.2.1,b.2.2.2.2.2.2.2.2.2.2,b.2.2.1,b.2.2.2.1,b.2.2.2.2.1,b.2.2.2.2.2.1)))) (some (.inl (wE (e+1),d.1,d.2.1,d.2.2.1,d.2.2.2.1,d.2.2.2.2.1,d.2.2.2.2.2.1,d.2.2.2.2.2.2,a.1.1,a.1.2.1,a.1.2.2.2.2.2.2.1,a.1.2.2.2.2.2.2.2.1,a.1.2.2.2.2.2.2.2.2.1,a.1.2.2.2.2.2.2.2.2.2.1,a.1.2.2.2.2.2.2.2.2.2.2,v,w,x,y,a.1.2.2.1,a.1.2.2.2.1,a.1.2.2.2.2.1,a.1.2.2.2.2.2.1)))) (λE=>some (.inr (.inr E))))) (some (.inr (.inl (h,i,j,k,l,m,n,o,p,q,r,s,t,u,v,w,x,y,z,A,B,C))))
def iE (e:wD) (f:List wF):Option (wD×Int×Int) :=(af e).bind λd =>(aR e).bind λg =>(cond (!g) (some (decide ((f.length:Int)>0))) (some false)).bind λh =>cond h (some (d,3,1)) ((loop (λb=>iD e f b.1 b.2.1 b.2.2.1 b.2.2.2.1 b.2.2.2.2.1 b.2.2.2.2.2.1 b.2.2.2.2.2.2.1 b.2.2.2.2.2.2.2.1 b.2.2.2.2.2.2.2.2.1 b.2.2.2.2.2.2.2.2.2.1 b.2.2.2.2.2.2.2.2.2.2.1 b.2.2.2.2.2.2.2.2.2.2.2.1 b.2.2.2.2.2.2.2.2.2.2.2.2.1 b.2.2.2.2.2.2.2.2.2.2.2.2.2.1 b.2.2.2.2.2.2.2.2.2.2.2.2.2.2.1 b.2.2.2.2.2.2.2.2.2.2.2.2.2.2.2.1 b.2.2.2.2.2.2.2.2.2.2.2.2.2.2.2.2.1 b.2.2.2.2.2.2.2.2.2.2.2.2.2.2.2.2.2.1 b.2.2.2.2.2.2.2.2.2.2.2.2.2.2.2.2.2.2.1 b.2.2.2.2.2.2.2.2.2.2.2.2.2.2.2.2.2.2.2.1 b.2.2.2.2.2.2.2.2.2.2.2.2.2.2.2.2.2.2.2.2.1 b.2.2.2.2.2.2.2.2.2.2.2.2.2.2.2.2.2.2.2.2.2.1 b.2.2.2.2.2.2.2.2.2.2.2.2.2.2.2.2.2.2.2.2.2.2) (0,0,[],0,0,0,0,0,d.1,d.2.1,d.2.2.2.2.2.2.1,d.2.2.2.2.2.2.2.1,d.2.2.2.2.2.2.2.2.1,d.2.2.2.2.2.2.2.2.2.1,d.2.2.2.2.2.2.2.2.2.2,[],[],[],[],d.2.2.1,d.2.2.2.1,d.2.2.2.2.1,d.2.2.2.2.2.1)).bind (Sum.elim (λa =>cond ((f.length:Int)==0) (some ((a.2.2.2.2.2.2.2.1,a.2.2.2.2.2.2.2.2.1,a.2.2.2.2.2.2.2.2.2.2.2.2.2.2.2.2.2.2.1,a.2.2.2.2.2.2.2.2.2.2.2.2.2.2.2.2.2.2.2.1,a.2.2.2.2.2.2.2.2.2.2.2.2.2.2.2.2.2.2.2.2.1,a.2.2.2.2.2.2.2.2.2.2.2.2.2.2.2.2.2.2.2.2.2,a.2.2.2.2.2.2.2.2.2.1,a.2.2.2.2.2.2.2.2.2.2.1,a.2.2.2.2.2.2.2.2.2.2.2.1,a.2.2.2.2.2.2.2.2.2.2.2.2.1,a.2.2.2.2.2.2.2.2.2.2.2.2.2.1),0,0)) ((dW a.2.2.2.2.2.2.2.2.2.2.2.2.2.2.2.2.2.2.2.2 (a.2.2.2.2.2.2.2.2.2.2.2.2.2.2.2.2.2.2.1.length:Int)).bind λi =>cond (!i) ((af e).bind λj =>some (j,5,(f.length:Int))) ((ba (a.2.2.2.2.2.2.2.1,a.2.2.2.2.2.2.2.2.1,a.2.2.2.2.2.2.2.2.2.2.2.2.2.2.2.2.2.2.1,a.2.2.2.2.2.2.2.2.2.2.2.2.2.2.2.2.2.2.2.1,a.2.2.2.2.2.2.2.2.2.2.2.2.2.2.2.2.2.2.2.2.1,a.2.2.2.2.2.2.2.2.2.2.2.2.2.2.2.2.2.2.2.2.2,a.2.2.2.2.2.2.2.2.2.1,a.2.2.2.2.2.2.2.2.2.2.1,a.2.2.2.2.2.2.2.2.2.2.2.1,a.2.2.2.2.2.2.2.2.2.2.2.2.1,a.2.2.2.2.2.2.2.2.2.2.2.2.2.1)).bind λk =>some (k,0,0)))) (λc=>some ((c.2.2.1,c.2.2.2.1,c.2.2.2.2.2.2.2.2.2.1,c.2.2.2.2.2.2.2.2.2.2.1,c.2.2.2.2.2.2.2.2.2.2.2.1,c.2.2.2.2.2.2.2.2.2.2.2.2,c.2.2.2.2.1,c.2.2.2.2.2.1,c.2.2.2.2.2.2.1,c.2.2.2.2.2.2.2.1,c.2.2.2.2.2.2.2.2.1),c.1,c.2.1))))
def pI:FL:=(334,⟨[.val true wR false,.val false (.one (.sl wV)) false],[.val true wR (some true),.val false wI (some true),.val false wI (some true)],λa=>iE a.1 a.2⟩)::pH
theorem vR:Gd pI:=wM vQ 334 Tryz.f334 [(0,⟨⟨[(8,false,[dI])],[(2048,.box [dI,dS,.own 1000000000,.own 1000000001,.own 1000000002,.own 1000000003,dI,dI,dI,dI,dI]),(265216,.box [dI,dS,.own 1000000004,.own 1000000005,.own 1000000006,.own 1000000007,dI,dI,dI,dI,dI]),(1000000000,.root z0 true),(1000000001,.root xa true),(1000000002,.root xV true),(1000000003,.root wI true),(1000000004,.root z0 true),(1000000005,.root xa true),(1000000006,.root xV true),(1000000007,.root wI true)]⟩,
 ⟨[],[(2048,.box [dI,dS,.own 1000000300,.own 1000000301,.own 1000000302,.own 1000000303,dI,dI,dI,dI,dI]),(265216,.box [dI,dS,.own 1000000304,.own 1000000305,.own 1000000306,.own 1000000307,dI,dI,dI,dI,dI]),(1000000300,.root z0 true),(1000000301,.root xa true),(1000000302,.root xV true),(1000000303,.root wI true),(1000000304,.root z0 true),(1000000305,.root xa true),(1000000306,.root xV true),(1000000307,.root wI true)]⟩,some ⟨[(5,false,[dI]),(6,false,[dI])],[(2048,.box [dI,dS,.own 1000000600,.own 1000000601,.own 1000000602,.own 1000000603,dI,dI,dI,dI,dI]),(1000000600,.root z0 true),(1000000601,.root xa true),(1000000602,.root xV true),(1000000603,.root wI true)]⟩⟩),
 (2,⟨⟨[(9,false,[dI])],[(2048,.box [dI,dS,.same 1000000000,.same 1000000001,.same 1000000002,.same 1000000003,dI,dI,dI,dI,dI])]⟩,
 ⟨[],[(2048,.box [dI,dS,.same 1000000000,.same 1000000001,.same 1000000002,.same 1000000003,dI,dI,dI,dI,dI])]⟩,some ⟨[(5,false,[dI]),(6,false,[dI])],[(2048,.box [dI,dS,.own 1000002600,.own 1000002601,.own 1000002602,.own 1000002603,dI,dI,dI,dI,dI]),(1000002600,.root z0 true),(1000002601,.root xa true),(1000002602,.root xV true),(1000002603,.root wI true)]⟩⟩)] Tryz.func334
def ga (d:wD) (b:xg):Option (wD×xg) :=(cL b.2.2.2.2).bind λc =>(iE d b.2.2.2.2).bind λa =>(ee (162,b.2.1,a.2.1,a.2.2,c)).bind λe =>(cond (!e) (some true) (some (a.2.1 != 0))).bind λf =>cond f ((af d).bind λg =>(cQ (162,b.2.1,a.2.1,a.2.2,c) false).bind λh =>some (g,h)) (some (a.1,(162,b.2.1,a.2.1,a.2.2,c)))
def pJ:FL:=(275,⟨[.val true wR false,.val true yW false],[.val true wR (some true),.val true yW (some true)],λa=>ga a.1 a.2⟩)::pI
theorem vS:Gd pJ:=wM vR 275 Tryz.f275 [] Tryz.func275
def iF (a:wW) (e:Int):Option (wW×List xZ) :=(ix a.2.2.2.2.2.2.2.2.2.2.2.2.1.length e).bind λg =>(a.2.2.2.2.2.2.2.2.2.2.2.2.1[g]?).bind λd =>cond (a.2.2.2.2.2.2.2.2.2.2.1==d.2.2.2.2.2.2.2.2.2.2.2.2.2.2.2.2.2.2.1) ((ga (a.1,a.2.1,a.2.2.1,a.2.2.2.1,a.2.2.2.2.1,a.2.2.2.2.2.1,a.2.2.2.2.2.2.1,a.2.2.2.2.2.2.2.1,a.2.2.2.2.2.2.2.2.1,a.2.2.2.2.2.2.2.2.2.1,a.2.2.2.2.2.2.2.2.2.2.1) (d.2.2.2.1,d.2.2.2.2.1,d.2.2.2.2.2.1,d.2.2.2.2.2.2.1,d.2.2.2.2.2.2.2.1)).bind λc =>(ed (c.1.1,c.1.2.1,c.1.2.2.1,c.1.2.2.2.1,c.1.2.2.2.2.1,c.1.2.2.2.2.2.1,c.1.2.2.2.2.2.2.1,c.1.2.2.2.2.2.2.2.1,c.1.2.2.2.2.2.2.2.2.1,c.1.2.2.2.2.2.2.2.2.2.1,c.1.2.2.2.2.2.2.2.2.2.2,a.2.2.2.2.2.2.2.2.2.2.2.1,a.2.2.2.2.2.2.2.2.2.2.2.2.1,a.2.2.2.2.2.2.2.2.2.2.2.2.2.1,a.2.2.2.2.2.2.2.2.2.2.2.2.2.2) e c.2).bind λh =>some h) (cond (decide (d.2.2.2.2.2.2.2.2.2.2.2.2.2.2.2.2.2.2.2.2>=3)) ((cL d.2.2.2.2.2.2.2.1).bind λi =>(cQ (162,d.2.2.2.2.1,6,1,i) false).bind λj =>(ed a e j).bind λk =>some k) ((ix a.2.2.2.2.2.2.2.2.2.2.2.2.1.length e).bind λf =>(a.2.2.2.2.2.2.2.2.2.2.2.2.1[f]?).bind λb =>(fR (a.1,a.2.1,a.2.2.1,a.2.2.2.1,a.2.2.2.2.1,a.2.2.2.2.2.1,a.2.2.2.2.2.2.1,a.2.2.2.2.2.2.2.1,a.2.2.2.2.2.2.2.2.1,a.2.2.2.2.2.2.2.2.2.1,a.2.2.2.2.2.2.2.2.2.2.1,a.2.2.2.2.2.2.2.2.2.2.2.1,a.2.2.2.2.2.2.2.2.2.2.2.2.1.set f (b.1,b.2.1,b.2.2.1,b.2.2.2.1,b.2.2.2.2.1,b.2.2.2.2.2.1,b.2.2.2.2.2.2.1,b.2.2.2.2.2.2.2.1,b.2.2.2.2.2.2.2.2.1,b.2.2.2.2.2.2.2.2.2.1,b.2.2.2.2.2.2.2.2.2.2.1,b.2.2.2.2.2.2.2.2.2.2.2.1,b.2.2.2.2.2.2.2.2.2.2.2.2.1,b.2.2.2.2.2.2.2.2.2.2.2.2.2.1,b.2.2.2.2.2.2.2.2.2.2.2.2.2.2.1,b.2.2.2.2.2.2.2.2.2.2.2.2.2.2.2.1,b.2.2.2.2.2.2.2.2.2.2.2.2.2.2.2.2.1,b.2.2.2.2.2.2.2.2.2.2.2.2.2.2.2.2.2.1,b.2.2.2.2.2.2.2.2.2.2.2.2.2.2.2.2.2.2.1,b.2.2.2.2.2.2.2.2.2.2.2.2.2.2.2.2.2.2.2.1,wE (d.2.2.2.2.2.2.2.2.2.2.2.2.2.2.2.2.2.2.2.2+1)),a.2.2.2.2.2.2.2.2.2.2.2.2.2.1,a.2.2.2.2.2.2.2.2.2.2.2.2.2.2) e).bind λl =>some (l,([]:List xZ))))
def pK:FL:=(181,⟨[.ptr xv (some false),.val false wI false],[.val false (.one (.sl Ac)) (some false)],λa=>iF a.1 a.2⟩)::pJ
theorem vT:Gd pK:=wM vS 181 Tryz.f181 [] Tryz.func181
def jN (b:wD) (a:xg):Option Bool :=(aR b).bind λc =>(cond c ((bK a).bind λd =>some d) (some false)).bind λe =>(cond e (some (a.1 != 162)) (some false)).bind λf =>some f
def pL:FL:=(277,⟨[.val true wR false,.val true yW false],[.val false xo (some true)],λa=>jN a.1 a.2⟩)::pK
theorem vU:Gd pL:=wM vT 277 Tryz.f277 [] Tryz.func277
def cV (a:List Int):Option (List Int) :=(app ([1,3,1]:List Int) a).bind λb =>some b
def pM:FL:=(307,⟨[.val false yU false],[.val false yU (some true)],λa=>cV a⟩)::pL
theorem vV:Gd pM:=wM vU 307 Tryz.f307 [] Tryz.func307
def jO (a:Int):Option zH :=some (2,a,[],[])
def pN:FL:=(219,⟨[.val false wI false],[.val true AN (some true)],λa=>jO a⟩)::pM
theorem vW:Gd pN:=wM vV 219 Tryz.f219 [] Tryz.func219
def aj (b:List wF) (c:List Int) (d:Int):Option (List wF) :=(cV c).bind λe =>(jO d).bind λa =>(app b [(e,a.1,a.2.1,a.2.2.1,a.2.2.2)]).bind λf =>some f
def pO:FL:=(351,⟨[.val false (.one (.sl wV)) true,.val false yU false,.val false wI false],[.val false (.one (.sl wV)) (some true)],λa=>aj a.1 a.2.1 a.2.2⟩)::pN
theorem vX:Gd pO:=wM vW 351 Tryz.f351 [] Tryz.func351
def iG (a:wD) (c:Int) (b:Int):Option Int :=cond (c==1) ((at? a.2.2.1 b).bind λd =>cond d.1 (some 1) (some 0)) (cond (c==2) ((at? a.2.2.1 b).bind λe =>some e.2.1) (cond (c==3) ((fU a.1 a.2.2.1 b).bind λf =>some f) ((at? a.2.2.2.2.2.1 b).bind λg =>some g)))
def pP:FL:=(352,⟨[.val true wR false,.val false wI false,.val false wI false],[.val false wI (some true)],λa=>iG a.1 a.2.1 a.2.2⟩)::pO
theorem vY:Gd pP:=wM vX 352 Tryz.f352 [] Tryz.func352
def jQ (a:wY) (b:Int):Option Int :=cond (b==1) (some 1) (cond (b==2) (some a.2.1) (some a.2.2))
def pQ:FL:=(353,⟨[.val true xV false,.val false wI false],[.val false wI (some true)],λa=>jQ a.1 a.2⟩)::pP
theorem vZ:Gd pQ:=wM vY 353 Tryz.f353 [] Tryz.func353
def jR (b:wD) (c:Int) (a:Int) (d:List wF):Option ((Int×List wF)⊕(List wF)) :=cond (decide (a<(b.2.2.1.length:Int))) ((iG b c a).bind λe =>(aj d [2,c,wE (a+1)] e).bind λf =>some (.inl (wE (a+1),f))) (some (.inr d))
def jS (d:wD) (a:Int) (b:List wF):Option ((Int×List wF)⊕(List wF)) :=cond (decide (a<=4)) ((loop (λc=>jR d a c.1 c.2) (0,b)).bind λe =>some (.inl (wE (a+1),e))) (some (.inr b))
def jT (b:wD) (c:Int) (a:Int) (d:List wF):Option ((Int×List wF)⊕(List wF)) :=cond (decide (a<(b.2.2.2.2.1.length:Int))) ((at? b.2.2.2.2.1 a).bind λe =>(at? b.2.2.2.2.1 a).bind λf =>(jQ f c).bind λg =>(aj d [3,c,e.1] g).bind λh =>some (.inl (wE (a+1),h))) (some (.inr d))
def gb (d:wD) (a:Int) (b:List wF):Option ((Int×List wF)⊕(List wF)) :=cond (decide (a<=3)) ((loop (λc=>jT d a c.1 c.2) (0,b)).bind λe =>some (.inl (wE (a+1),e))) (some (.inr b))
def jU (b:wD) (a:Int) (c:List wF):Option ((Int×List wF)⊕(List wF)) :=cond (decide (a<(b.2.2.2.1.length:Int))) ((at? b.2.2.2.1 a).bind λd =>(at? b.2.2.2.1 a).bind λe =>(at? b.2.2.2.1 a).bind λf =>(aj c [4,1,d.1,e.2.1] (wE (f.2.2.1+1))).bind λg =>some (.inl (wE (a+1),g))) (some (.inr c))
def eh (a:wD):Option (List wF) :=(aR a).bind λc =>cond (!c) (some ([]:List wF)) ((cV ([1,1]:List Int)).bind λd =>(aj ([(d,4,0,a.2.1,[])]) ([1,2]:List Int) a.2.2.2.2.2.2.1).bind λe =>(aj e ([1,3]:List Int) a.2.2.2.2.2.2.2.1).bind λf =>(aj f ([1,4]:List Int) a.2.2.2.2.2.2.2.2.1).bind λg =>(aj g ([1,5]:List Int) a.2.2.2.2.2.2.2.2.2.1).bind λh =>(loop (λb=>jS a b.1 b.2) (1,h)).bind λi =>(loop (λb=>gb a b.1 b.2) (1,i)).bind λj =>(loop (λb=>jU a b.1 b.2) (0,j)).bind λk =>some k)
def pR:FL:=(306,⟨[.val true wR false],[.val false (.one (.sl wV)) (some true)],λa=>eh a⟩)::pQ
theorem w4:Gd pR:=wM vZ 306 Tryz.f306 [(0,⟨⟨[(3,false,[.own 1000000000]),(4,false,[dI])],[(1000000000,.root wV true)]⟩,
 ⟨[(3,false,[.own 1000000300])],[(1000000300,.root wV true)]⟩,none⟩),
 (2,⟨⟨[(3,false,[.own 1000002000]),(5,false,[dI])],[(1000002000,.root wV true)]⟩,
 ⟨[(3,false,[.own 1000002300])],[(1000002300,.root wV true)]⟩,none⟩),
 (4,⟨⟨[(3,false,[.own 1000004000]),(6,false,[dI])],[(1000004000,.root wV true)]⟩,
 ⟨[(3,false,[.own 1000004300])],[(1000004300,.root wV true)]⟩,none⟩),
 (6,⟨⟨[(3,false,[.own 1000006000]),(7,false,[dI])],[(1000006000,.root wV true)]⟩,
 ⟨[(3,false,[.own 1000006300])],[(1000006300,.root wV true)]⟩,none⟩),
 (8,⟨⟨[(3,false,[.own 1000008000]),(8,false,[dI])],[(1000008000,.root wV true)]⟩,
 ⟨[(3,false,[.own 1000008300])],[(1000008300,.root wV true)]⟩,none⟩)] Tryz.func306
def w5 (b:List Int) (c:List Int) (a:Int):Option (Int⊕(Unit⊕Bool)) :=(cond (decide (a<(b.length:Int))) (some (decide (a<(c.length:Int)))) (some false)).bind λd =>cond d ((at? b a).bind λe =>(at? c a).bind λf =>cond (e != f) ((at? b a).bind λg =>(at? c a).bind λh =>some (.inr (.inr (decide (g<h))))) (some (.inl (wE (a+1))))) (some (.inr (.inl ())))
def jV (a:List Int) (b:List Int):Option Bool :=(loop (λc=>w5 a b c) 0).bind (Sum.elim (λf =>let d:=decide ((a.length:Int)<(b.length:Int)); some d) (λe=>some e))
def pS:FL:=(386,⟨[.val false yU false,.val false yU false],[.val false xo (some true)],λa=>jV a.1 a.2⟩)::pR
theorem w6:Gd pS:=wM w4 386 Tryz.f386 [(0,⟨⟨(5,false,[dI])::us 11 4 [],[]⟩,
 ⟨[],[]⟩,some ⟨[(4,false,[dB])],[]⟩⟩)] Tryz.func386
def jW (h:List Int) (a:List wF) (b:Int) (c:Int) (d:Int) (e:List UInt8) (f:List Int) (g:List Int):Option ((Int×Int×Int×List UInt8×List Int×List Int)⊕((Int×Int×List UInt8×List Int×List Int)⊕(List Int×Int×Int×List UInt8×List Int))) :=cond (decide (b<(a.length:Int))) ((ix a.length b).bind λi =>(a[i]?).bind λj =>(jV h j.1).bind λk =>cond k ((ix a.length b).bind λl =>(a[l]?).bind λm =>some (.inr (.inr m))) (some (.inl (wE (b+1),c,d,e,f,g)))) (some (.inr (.inl (c,d,e,f,g))))
def iH (c:wD) (b:List Int):Option wF :=(eh c).bind λd =>(loop (λa=>jW b d a.1 a.2.1 a.2.2.1 a.2.2.2.1 a.2.2.2.2.1 a.2.2.2.2.2) (0,0,0,[],[],[])).bind (Sum.elim (λg =>(app ([]:List Int) b).bind λe =>some (e,130,0,[],[])) (λf=>some f))
def pT:FL:=(368,⟨[.val true wR false,.val false yU false],[.val true wV none],λa=>iH a.1 a.2⟩)::pS
theorem w7:Gd pT:=wM w6 368 Tryz.f368 [(0,⟨⟨[(6,false,[dI])],[(2048,.box [.own 1000000000,dI,dI,dS,.own 1000000001]),(1000000000,.root wI true),(1000000001,.root wI true)]⟩,
 ⟨[],[(2048,.box [.own 1000000300,dI,dI,dS,.own 1000000301]),(1000000300,.root wI true),(1000000301,.root wI true)]⟩,some ⟨[],[(2048,.box [.dat (.sl wI),dI,dI,dS,.dat (.sl wI)])]⟩⟩)] Tryz.func368
def gd (d:wD) (b:List wF) (a:Int) (c:List wF):Option ((Int×List wF)⊕(List wF)) :=cond (decide (a<(b.length:Int))) ((at? b a).bind λe =>cond (e.2.1==130) ((at? b a).bind λf =>(app c [f]).bind λg =>some (.inl (wE (a+1),g))) ((at? b a).bind λh =>(iH d h.1).bind λi =>(app c [i]).bind λj =>some (.inl (wE (a+1),j)))) (some (.inr c))
def bx (b:wD) (c:List wF):Option (List wF) :=(loop (λa=>gd b c a.1 a.2) (0,([]:List wF))).bind λd =>some d
def pU:FL:=(336,⟨[.val true wR false,.val false (.one (.sl wV)) false],[.val false (.one (.sl wV)) (some false)],λa=>bx a.1 a.2⟩)::pT
theorem w9:Gd pU:=wM w7 336 Tryz.f336 [(0,⟨⟨[(5,false,[.own 1000000000]),(6,false,[dI])],[(1000000000,.root wV false)]⟩,
 ⟨[(5,false,[.own 1000000300])],[(1000000300,.root wV false)]⟩,none⟩)] Tryz.func336
def ge (b:List wF) (a:Int) (c:List wF):Option ((Int×List wF)⊕(List wF)) :=cond (decide (a<(b.length:Int))) ((at? b a).bind λd =>(app c ([(d.1,5,0,[],[])])).bind λe =>some (.inl (wE (a+1),e))) (some (.inr c))
def cW (b:List wF):Option (List wF) :=(loop (λa=>ge b a.1 a.2) (0,([]:List wF))).bind λc =>some c
def pV:FL:=(337,⟨[.val false (.one (.sl wV)) false],[.val false (.one (.sl wV)) (some false)],λa=>cW a⟩)::pU
theorem wa:Gd pV:=wM w9 337 Tryz.f337 [(0,⟨⟨[(3,false,[.own 1000000000]),(4,false,[dI])],[(1000000000,.root wV false)]⟩,
 ⟨[(3,false,[.own 1000000300])],[(1000000300,.root wV false)]⟩,none⟩)] Tryz.func337
def bM (e:wD) (f:xg) (b:List wF) (c:Int) (a:List wF):Option ((List wF×Int×List wF)⊕(List wF)) :=(cond (decide (c<f.2.2.2.1)) (some (decide ((b.length:Int)>0))) (some false)).bind λg =>(cond g (some (decide ((a.length:Int)<10))) (some false)).bind λh =>cond h ((bx e b).bind λd =>(app a d).bind λi =>some (.inl (d,wE (c+1),i))) (some (.inr a))
def wb (e:wD) (f:xg) (b:List wF) (c:Int) (a:List wF):Option ((List wF×Int×List wF)⊕(List wF)) :=(cond (decide (c<f.2.2.2.1)) (some (decide ((b.length:Int)>0))) (some false)).bind λg =>(cond g (some (decide ((a.length:Int)<10))) (some false)).bind λh =>cond h ((bx e b).bind λd =>(app a d).bind λi =>some (.inl (d,wE (c+1),i))) (some (.inr a))
def iI (c:wD) (a:xg):Option (List wF) :=cond (decide (a.2.2.1>(a.2.2.2.2.length:Int))) (let h:=(a.2.2.2.2.length:Int); (cW a.2.2.2.2).bind λd =>(yC d.length 0 h).bind λi =>(bx c ((d.take i.2).drop i.1)).bind λm =>(cut d h (d.length:Int)).bind λn =>(loop (λb=>bM c a b.1 b.2.1 b.2.2) (n,0,m)).bind λe =>cond (decide ((e.length:Int)>10)) ((yC e.length 0 10).bind λj =>some ((e.take j.2).drop j.1)) (some e)) ((cW a.2.2.2.2).bind λf =>(yC f.length 0 a.2.2.1).bind λk =>(bx c ((f.take k.2).drop k.1)).bind λo =>(cut f a.2.2.1 (f.length:Int)).bind λp =>(loop (λb=>wb c a b.1 b.2.1 b.2.2) (p,0,o)).bind λg =>cond (decide ((g.length:Int)>10)) ((yC g.length 0 10).bind λl =>some ((g.take l.2).drop l.1)) (some g))
def pW:FL:=(338,⟨[.val true wR false,.val true yW false],[.val false (.one (.sl wV)) (some false)],λa=>iI a.1 a.2⟩)::pV
theorem wd:Gd pW:=wM wa 338 Tryz.f338 [(0,⟨⟨(7,false,[.own 1000000000])::(8,false,[.dat (.sl wV)])::(9,false,[dI])::us 36 3 (us 41 3 []),[(1000000000,.root wV false)]⟩,
 ⟨[(7,false,[.own 1000000300])],[(1000000300,.root wV false)]⟩,none⟩)] Tryz.func338
def jX (g:List Int) (a:List wF) (b:Int) (c:Int) (d:Int) (e:List UInt8) (f:List Int):Option ((Int×Int×Int×List UInt8×List Int)⊕((Int×Int×List UInt8×List Int)⊕(Int×Int×List UInt8×List Int))) :=cond (decide (b<(a.length:Int))) ((ix a.length b).bind λh =>(a[h]?).bind λi =>(cR i.1 g).bind λj =>cond j ((ix a.length b).bind λk =>(a[k]?).bind λl =>some (.inr (.inr l.2))) (some (.inl (wE (b+1),c,d,e,f)))) (some (.inr (.inl (c,d,e,f))))
def iJ (b:wD) (c:List Int):Option zH :=(eh b).bind λd =>(loop (λa=>jX c d a.1 a.2.1 a.2.2.1 a.2.2.2.1 a.2.2.2.2) (0,0,0,[],[])).bind (Sum.elim (λf =>some (128,0,[],[])) (λe=>some e))
def pX:FL:=(339,⟨[.val true wR false,.val false yU false],[.val true AN none],λa=>iJ a.1 a.2⟩)::pW
theorem we:Gd pX:=wM wd 339 Tryz.f339 [(0,⟨⟨[(6,false,[dI])],[(2048,.box [dI,dI,dS,.own 1000000000]),(1000000000,.root wI true)]⟩,
 ⟨[],[(2048,.box [dI,dI,dS,.own 1000000300]),(1000000300,.root wI true)]⟩,some ⟨[],[(2048,.box [dI,dI,dS,.dat (.sl wI)])]⟩⟩)] Tryz.func339
def ei (e:wD) (c:xg) (a:Int) (d:List wF):Option ((Int×List wF)⊕(List wF)) :=cond (decide (a<(c.2.2.2.2.length:Int))) ((at? c.2.2.2.2 a).bind λf =>(app ([]:List Int) f.1).bind λg =>(at? c.2.2.2.2 a).bind λh =>(iJ e h.1).bind λb =>(app d [(g,b.1,b.2.1,b.2.2.1,b.2.2.2)]).bind λi =>some (.inl (wE (a+1),i))) (some (.inr d))
def iK (b:wD) (a:xg):Option (List wF) :=cond (a.1==161) ((cW a.2.2.2.2).bind λd =>(bx b d).bind λe =>some e) (cond (a.1==165) ((iI b a).bind λf =>some f) ((loop (λc=>ei b a c.1 c.2) (0,([]:List wF))).bind λg =>some g))
def pY:FL:=(278,⟨[.val true wR false,.val true yW false],[.val false (.one (.sl wV)) (some false)],λa=>iK a.1 a.2⟩)::pX
theorem wg:Gd pY:=wM we 278 Tryz.f278 [(1,⟨⟨[(5,false,[.own 1000001000]),(6,false,[dI])],[(1000001000,.root wV false)]⟩,
 ⟨[(5,false,[.own 1000001300])],[(1000001300,.root wV false)]⟩,none⟩)] Tryz.func278
def iL (b:wD) (a:xg):Option (wD×xg×Bool) :=(jN b a).bind λd =>cond (!d) ((af b).bind λe =>some (e,(0,0,0,0,[]),false)) (cond (a.1==163) ((ga b a).bind λc =>some (c.1,c.2,true)) ((iK b a).bind λf =>(cL f).bind λg =>(af b).bind λh =>(cQ (162,a.2.1,0,0,g) (a.1==165)).bind λi =>some (h,i,true)))
def pZ:FL:=(182,⟨[.val true wR false,.val true yW false],[.val true wR (some true),.val true yW (some true),.val false xo (some true)],λa=>iL a.1 a.2⟩)::pY
theorem wh:Gd pZ:=wM wg 182 Tryz.f182 [] Tryz.func182
def iM (a:wW) (e:Int):Option (wW×List xZ) :=(ix a.2.2.2.2.2.2.2.2.2.2.2.2.1.length e).bind λh =>(a.2.2.2.2.2.2.2.2.2.2.2.2.1[h]?).bind λb =>cond (b.2.2.1==0) ((ea a e).bind λi =>some (i,([]:List xZ))) ((cond (b.2.2.1==1) (some (decide (b.2.2.2.2.2.2.2.2.2.2.2.2.2.2.2.2.2.2.2.1<(b.2.2.2.2.2.2.2.1.length:Int)))) (some false)).bind λj =>cond j ((ix a.2.2.2.2.2.2.2.2.2.2.2.2.1.length e).bind λf =>(a.2.2.2.2.2.2.2.2.2.2.2.2.1[f]?).bind λc =>some ((a.1,a.2.1,a.2.2.1,a.2.2.2.1,a.2.2.2.2.1,a.2.2.2.2.2.1,a.2.2.2.2.2.2.1,a.2.2.2.2.2.2.2.1,a.2.2.2.2.2.2.2.2.1,a.2.2.2.2.2.2.2.2.2.1,a.2.2.2.2.2.2.2.2.2.2.1,a.2.2.2.2.2.2.2.2.2.2.2.1,a.2.2.2.2.2.2.2.2.2.2.2.2.1.set f (c.1,c.2.1,c.2.2.1,c.2.2.2.1,c.2.2.2.2.1,c.2.2.2.2.2.1,c.2.2.2.2.2.2.1,c.2.2.2.2.2.2.2.1,c.2.2.2.2.2.2.2.2.1,c.2.2.2.2.2.2.2.2.2.1,c.2.2.2.2.2.2.2.2.2.2.1,c.2.2.2.2.2.2.2.2.2.2.2.1,c.2.2.2.2.2.2.2.2.2.2.2.2.1,c.2.2.2.2.2.2.2.2.2.2.2.2.2.1,c.2.2.2.2.2.2.2.2.2.2.2.2.2.2.1,c.2.2.2.2.2.2.2.2.2.2.2.2.2.2.2.1,c.2.2.2.2.2.2.2.2.2.2.2.2.2.2.2.2.1,c.2.2.2.2.2.2.2.2.2.2.2.2.2.2.2.2.2.1,c.2.2.2.2.2.2.2.2.2.2.2.2.2.2.2.2.2.2.1,wE (b.2.2.2.2.2.2.2.2.2.2.2.2.2.2.2.2.2.2.2.1+1),c.2.2.2.2.2.2.2.2.2.2.2.2.2.2.2.2.2.2.2.2),a.2.2.2.2.2.2.2.2.2.2.2.2.2.1,a.2.2.2.2.2.2.2.2.2.2.2.2.2.2),([]:List xZ))) (cond (b.2.2.1==1) ((ix a.2.2.2.2.2.2.2.2.2.2.2.2.1.length e).bind λg =>(a.2.2.2.2.2.2.2.2.2.2.2.2.1[g]?).bind λd =>some ((a.1,a.2.1,a.2.2.1,a.2.2.2.1,a.2.2.2.2.1,a.2.2.2.2.2.1,a.2.2.2.2.2.2.1,a.2.2.2.2.2.2.2.1,a.2.2.2.2.2.2.2.2.1,a.2.2.2.2.2.2.2.2.2.1,a.2.2.2.2.2.2.2.2.2.2.1,a.2.2.2.2.2.2.2.2.2.2.2.1,a.2.2.2.2.2.2.2.2.2.2.2.2.1.set g (d.1,d.2.1,2,d.2.2.2.1,d.2.2.2.2.1,d.2.2.2.2.2.1,d.2.2.2.2.2.2.1,d.2.2.2.2.2.2.2.1,d.2.2.2.2.2.2.2.2.1,d.2.2.2.2.2.2.2.2.2.1,d.2.2.2.2.2.2.2.2.2.2.1,d.2.2.2.2.2.2.2.2.2.2.2.1,d.2.2.2.2.2.2.2.2.2.2.2.2.1,d.2.2.2.2.2.2.2.2.2.2.2.2.2.1,d.2.2.2.2.2.2.2.2.2.2.2.2.2.2.1,d.2.2.2.2.2.2.2.2.2.2.2.2.2.2.2.1,d.2.2.2.2.2.2.2.2.2.2.2.2.2.2.2.2.1,d.2.2.2.2.2.2.2.2.2.2.2.2.2.2.2.2.2.1,d.2.2.2.2.2.2.2.2.2.2.2.2.2.2.2.2.2.2.1,d.2.2.2.2.2.2.2.2.2.2.2.2.2.2.2.2.2.2.2.1,d.2.2.2.2.2.2.2.2.2.2.2.2.2.2.2.2.2.2.2.2),a.2.2.2.2.2.2.2.2.2.2.2.2.2.1,a.2.2.2.2.2.2.2.2.2.2.2.2.2.2),([]:List xZ))) (cond (b.2.2.2.1==163) ((iF a e).bind λk =>some k) ((iL (b.2.2.2.2.2.2.2.2.1,b.2.2.2.2.2.2.2.2.2.1,b.2.2.2.2.2.2.2.2.2.2.1,b.2.2.2.2.2.2.2.2.2.2.2.1,b.2.2.2.2.2.2.2.2.2.2.2.2.1,b.2.2.2.2.2.2.2.2.2.2.2.2.2.1,b.2.2.2.2.2.2.2.2.2.2.2.2.2.2.1,b.2.2.2.2.2.2.2.2.2.2.2.2.2.2.2.1,b.2.2.2.2.2.2.2.2.2.2.2.2.2.2.2.2.1,b.2.2.2.2.2.2.2.2.2.2.2.2.2.2.2.2.2.1,b.2.2.2.2.2.2.2.2.2.2.2.2.2.2.2.2.2.2.1) (b.2.2.2.1,b.2.2.2.2.1,b.2.2.2.2.2.1,b.2.2.2.2.2.2.1,b.2.2.2.2.2.2.2.1)).bind λl =>(ed a e l.2.1).bind λm =>some m))))
def q8:FL:=(108,⟨[.ptr xv (some false),.val false wI false],[.val false (.one (.sl Ac)) (some false)],λa=>iM a.1 a.2⟩)::pZ
theorem wi:Gd q8:=wM wh 108 Tryz.f108 [] Tryz.func108
def dj (a:wW) (b:Int):Option (wW×List xZ) :=(dg a).bind λc =>(ck a).bind λd =>(cond (!d) (some true) ((ac b 0 (wE ((a.2.2.2.2.2.2.2.2.2.2.2.2.1.length:Int)-1))).bind λe =>some (!e))).bind λf =>cond f (some (c,([]:List xZ))) ((iM c b).bind λg =>some g)
def q9:FL:=(30,⟨[.val true xv false,.val false wI false],[.val true xv (some false),.val false (.one (.sl Ac)) (some false)],λa=>dj a.1 a.2⟩)::q8
theorem wj:Gd q9:=wM wi 30 Tryz.f30 [] Tryz.func30
def dh (b:wW) (c:List Int):Option wW :=(dg b).bind λa =>(ck b).bind λd =>(cond (!d) (some true) (some (decide ((b.2.2.2.2.2.2.2.2.2.2.2.2.1.length:Int)>=6)))).bind λe =>(cond e (some true) (some (decide (b.2.2.2.2.2.2.2.2.2.2.2.2.2.2>=1000000)))).bind λf =>cond f ((ck b).bind λg =>cond g ((aE b.2.2.2.2.2.2.2.2.2.2.2.2.2.1).bind λh =>some (a.1,a.2.1,a.2.2.1,a.2.2.2.1,a.2.2.2.2.1,a.2.2.2.2.2.1,a.2.2.2.2.2.2.1,a.2.2.2.2.2.2.2.1,a.2.2.2.2.2.2.2.2.1,a.2.2.2.2.2.2.2.2.2.1,a.2.2.2.2.2.2.2.2.2.2.1,a.2.2.2.2.2.2.2.2.2.2.2.1,a.2.2.2.2.2.2.2.2.2.2.2.2.1,h,a.2.2.2.2.2.2.2.2.2.2.2.2.2.2)) (some a)) ((app ([]:List Int) c).bind λi =>(app a.2.2.2.2.2.2.2.2.2.2.2.2.1 ([(wE (b.2.2.2.2.2.2.2.2.2.2.2.2.2.2+1),i,0,0,0,0,0,[],0,[],[],[],[],[],0,0,0,0,0,0,0)])).bind λj =>some (a.1,a.2.1,a.2.2.1,a.2.2.2.1,a.2.2.2.2.1,a.2.2.2.2.2.1,a.2.2.2.2.2.2.1,a.2.2.2.2.2.2.2.1,a.2.2.2.2.2.2.2.2.1,a.2.2.2.2.2.2.2.2.2.1,a.2.2.2.2.2.2.2.2.2.2.1,a.2.2.2.2.2.2.2.2.2.2.2.1,j,a.2.2.2.2.2.2.2.2.2.2.2.2.2.1,wE (b.2.2.2.2.2.2.2.2.2.2.2.2.2.2+1)))
def qc:FL:=(120,⟨[.val true xv false,.val false yh false],[.val true xv (some true)],λa=>dh a.1 a.2⟩)::q9
theorem wk:Gd qc:=wM wj 120 Tryz.f120 [] Tryz.func120
def dc (a:wD) (b:Int):Option Bool :=(aR a).bind λc =>(cond c ((ac b 0 (wE ((a.2.2.1.length:Int)-1))).bind λd =>some d) (some false)).bind λe =>some e
def qd:FL:=(196,⟨[.val true wR false,.val false wI false],[.val false xo (some true)],λa=>dc a.1 a.2⟩)::qc
theorem wl:Gd qd:=wM wk 196 Tryz.f196 [] Tryz.func196
def jY (a:yE):Option Bool :=(ac a.1 0 9999).bind λb =>(cond b ((ac a.2.1 1 9999).bind λc =>some c) (some false)).bind λd =>(cond d ((ac a.2.2.1 0 99).bind λe =>some e) (some false)).bind λf =>(cond f (some (decide ((a.2.2.2.length:Int)<=20))) (some false)).bind λg =>some g
def qe:FL:=(197,⟨[.val true zw false],[.val false xo (some true)],λa=>jY a⟩)::qd
theorem wm:Gd qe:=wM wl 197 Tryz.f197 [] Tryz.func197
def iN (a:xO) (b:Int) (c:Int):Option (Int×Bool) :=(ac b 0 (wE ((a.2.length:Int)-1))).bind λg =>cond (!g) (some (0,false)) (cond (c==0) ((at? a.2 b).bind λd =>(aP a d).bind λe =>(cond (decide (e<0)) (some true) ((at? a.1 e).bind λh =>(aQ h.2.1 b).bind λi =>some (!i))).bind λj =>cond j (some (0,false)) (some (d,true))) ((aP a c).bind λf =>(cond (decide (f<0)) (some true) ((at? a.1 f).bind λk =>(aQ k.2.1 b).bind λl =>some (!l))).bind λm =>cond m (some (0,false)) (some (c,true))))
def qf:FL:=(199,⟨[.val true yQ false,.val false wI false,.val false wI false],[.val false wI (some true),.val false xo (some true)],λa=>iN a.1 a.2.1 a.2.2⟩)::qe
theorem wo:Gd qf:=wM wm 199 Tryz.f199 [] Tryz.func199
def cX (b:List wJ) (c:wJ) (d:Bool) (a:Int) (e:List wJ):Option ((Bool×Int×List wJ)⊕(Bool×List wJ)) :=cond (decide (a<(b.length:Int))) ((cond (!d) ((at? b a).bind λg =>(ce g c.1 c.2.1).bind λh =>some (!h)) (some false)).bind λi =>cond i ((app e [c]).bind λf =>(at? b a).bind λj =>(cond (j.1 != c.1) (some true) ((at? b a).bind λk =>some (k.2.1 != c.2.1))).bind λl =>cond l ((at? b a).bind λm =>(app f [m]).bind λn =>some (.inl (true,wE (a+1),n))) (some (.inl (true,wE (a+1),f)))) ((at? b a).bind λo =>(cond (o.1 != c.1) (some true) ((at? b a).bind λp =>some (p.2.1 != c.2.1))).bind λq =>cond q ((at? b a).bind λr =>(app e [r]).bind λs =>some (.inl (d,wE (a+1),s))) (some (.inl (d,wE (a+1),e))))) (some (.inr (d,e)))
def iO (d:List wJ) (c:wJ):Option (List wJ) :=(loop (λa=>cX d c a.1 a.2.1 a.2.2) (false,0,([]:List wJ))).bind λb =>cond (!b.1) ((app b.2 [c]).bind λe =>some e) (some b.2)
def qg:FL:=(293,⟨[.val false (.one (.sl xa)) false,.val true xa false],[.val false (.one (.sl xa)) (some true)],λa=>iO a.1 a.2⟩)::qf
theorem wq:Gd qg:=wM wo 293 Tryz.f293 [(0,⟨⟨(5,false,[.own 1000000000])::(6,false,[dB])::(7,false,[dI])::us 18 10 (us 42 8 []),[(1000000000,.root xa true)]⟩,
 ⟨[(5,false,[.own 1000000300]),(6,false,[dB])],[(1000000300,.root xa true)]⟩,none⟩)] Tryz.func293
def iP (a:List wJ) (b:Int) (c:Int) (e:Int):Option (List wJ) :=(eg a b c).bind λd =>(fN a).bind λf =>(cond (!f) (some true) ((fM (b,c,e,0,false)).bind λg =>some (!g))).bind λh =>(cond h (some true) ((cond (decide (d>=0)) ((at? a d).bind λi =>some i.2.2.2.2) (some false)).bind λj =>some j)).bind λk =>(cond k (some true) ((cond (decide (d<0)) (some (decide ((a.length:Int)>=12))) (some false)).bind λl =>some l)).bind λm =>cond m ((fH a).bind λn =>some n) ((iO a (b,c,e,0,false)).bind λo =>some o)
def qh:FL:=(201,⟨[.val false (.one (.sl xa)) false,.val false wI false,.val false wI false,.val false wI false],[.val false (.one (.sl xa)) (some true)],λa=>iP a.1 a.2.1 a.2.2.1 a.2.2.2⟩)::qg
theorem wu:Gd qh:=wM wq 201 Tryz.f201 [] Tryz.func201
def jZ (a:xO) (c:Int):Option Int :=(aP a c).bind λb =>cond (decide (b<0)) (some 0) ((at? a.1 b).bind λd =>some d.2.1)
def qi:FL:=(202,⟨[.val true yQ false,.val false wI false],[.val false wI (some true)],λa=>jZ a.1 a.2⟩)::qh
theorem wv:Gd qi:=wM wu 202 Tryz.f202 [] Tryz.func202
def iQ (a:List wJ) (c:Int) (d:Int):Option Int :=(eg a c d).bind λb =>cond (decide (b<0)) (some (-1)) ((at? a b).bind λe =>some e.2.2.1)
def qj:FL:=(203,⟨[.val false (.one (.sl xa)) false,.val false wI false,.val false wI false],[.val false wI (some true)],λa=>iQ a.1 a.2.1 a.2.2⟩)::qi
theorem wx:Gd qj:=wM wv 203 Tryz.f203 [] Tryz.func203
def kc (a:yE):Option yE :=(app ([]:List Int) a.2.2.2).bind λb =>some (a.1,a.2.1,a.2.2.1,b)
def qk:FL:=(347,⟨[.val true zw false],[.val true zw (some true)],λa=>kc a⟩)::qj
theorem wy:Gd qk:=wM wx 347 Tryz.f347 [] Tryz.func347
def iR (b:yE) (c:Int):Option yE :=(kc b).bind λa =>some (a.1,a.2.1,c,a.2.2.2)
def qm:FL:=(294,⟨[.val true zw false,.val false wI false],[.val true zw (some true)],λa=>iR a.1 a.2⟩)::qk
theorem wz:Gd qm:=wM wy 294 Tryz.f294 [] Tryz.func294
def iS (a:xO) (b:Int) (d:Int):Option Int :=(aP a b).bind λc =>(cond (decide (c<0)) (some true) ((at? a.1 c).bind λe =>(aQ e.2.2 d).bind λf =>some f)).bind λg =>cond g (some 0) (some b)
def qn:FL:=(295,⟨[.val true yQ false,.val false wI false,.val false wI false],[.val false wI (some true)],λa=>iS a.1 a.2.1 a.2.2⟩)::qm
theorem wA:Gd qn:=wM wz 295 Tryz.f295 [] Tryz.func295
def ej (c:wD) (e:Int) (f:Int) (g:yE) (a:Int) (d:List xm):Option ((Int×List xm)⊕(List xm)) :=cond (decide (a<(c.2.2.1.length:Int))) ((aQ f a).bind λh =>cond h ((iS (c.2.2.2.2.1,c.2.2.2.2.2.1) e a).bind λi =>(iR g i).bind λb =>(app d [(a,b.1,b.2.1,b.2.2.1,b.2.2.2)]).bind λj =>some (.inl (wE (a+1),j))) (some (.inl (wE (a+1),d)))) (some (.inr d))
def cY (b:wD) (c:Int) (d:Int) (e:yE):Option (List xm) :=(loop (λa=>ej b c d e a.1 a.2) (0,([]:List xm))).bind λf =>some f
def kf:FL:=(204,⟨[.val true wR false,.val false wI false,.val false wI false,.val true zw false],[.val false (.one (.sl B1)) (some true)],λa=>cY a.1 a.2.1 a.2.2.1 a.2.2.2⟩)::qn
theorem qp:Gd kf:=wM wA 204 Tryz.f204 [(0,⟨⟨[(9,false,[.own 1000000000]),(10,false,[dI])],[(1000000000,.root B1 true)]⟩,
 ⟨[(9,false,[.own 1000000300])],[(1000000300,.root B1 true)]⟩,none⟩)] Tryz.func204
def cZ (b:wD) (e:Int) (c:yE):Option (wD×List xm) :=(af b).bind λa =>(dc b e).bind λk =>(cond (!k) (some true) ((jY c).bind λl =>some (!l))).bind λm =>cond m (some (a,([]:List xm))) ((fW b.1 b.2.2.1).bind λi =>(iN (b.2.2.2.2.1,b.2.2.2.2.2.1) e c.2.2.1).bind λd =>(aQ i e).bind λn =>(cond (!n) (some true) (some (!d.2))).bind λo =>cond o ((aE b.2.2.2.2.2.2.2.2.2.1).bind λp =>some ((a.1,a.2.1,a.2.2.1,a.2.2.2.1,a.2.2.2.2.1,a.2.2.2.2.2.1,a.2.2.2.2.2.2.1,a.2.2.2.2.2.2.2.1,a.2.2.2.2.2.2.2.2.1,p,a.2.2.2.2.2.2.2.2.2.2),([]:List xm))) ((iP b.2.2.2.1 d.1 c.2.1 e).bind λf =>(aE b.2.2.2.2.2.2.2.2.2.2).bind λg =>(jZ (b.2.2.2.2.1,b.2.2.2.2.2.1) d.1).bind λq =>(shl .i64 1 (IntKind.u64.wrap (e))).bind λr =>let h:=Dd .i64 (zc .i64 i q) r; cond (c.1 != 0) ((iQ f d.1 c.1).bind λj =>cond (decide (j>=0)) ((shl .i64 1 (IntKind.u64.wrap (j))).bind λs =>(cY b d.1 (zc .i64 h s) c).bind λt =>some ((a.1,a.2.1,a.2.2.1,f,a.2.2.2.2.1,a.2.2.2.2.2.1,a.2.2.2.2.2.2.1,a.2.2.2.2.2.2.2.1,a.2.2.2.2.2.2.2.2.1,a.2.2.2.2.2.2.2.2.2.1,g),t)) ((cY b d.1 h c).bind λu =>some ((a.1,a.2.1,a.2.2.1,f,a.2.2.2.2.1,a.2.2.2.2.2.1,a.2.2.2.2.2.2.1,a.2.2.2.2.2.2.2.1,a.2.2.2.2.2.2.2.2.1,a.2.2.2.2.2.2.2.2.2.1,g),u))) ((cY b d.1 h c).bind λv =>some ((a.1,a.2.1,a.2.2.1,f,a.2.2.2.2.1,a.2.2.2.2.2.1,a.2.2.2.2.2.2.1,a.2.2.2.2.2.2.2.1,a.2.2.2.2.2.2.2.2.1,a.2.2.2.2.2.2.2.2.2.1,g),v))))
end
end Go.V.W
