/- The law FnExactPlayActs: part of the proof that for every input it returns true. No condition. -/
import Derived.Test.YthcdcolihokdmaaGreatV4
import Derived.Test.YthcdcolihokdmaaGreatProg
import Derived.Test.YthcdcolihokdmaaGreatChecked
import Derived.KernelRfl
set_option linter.unusedVariables false
set_option linter.unusedSimpArgs false
namespace Go.V.W
open Go.Proofs
noncomputable section
def us:Nat->Nat->List (Nat×Bool×List yO)->List (Nat×Bool×List yO)|_,0,l=>l|a,n+1,l=>(a,false,[.undef])::us (a+1) n l
@[reducible] def xb:Cs:=.one (.int .i64)
@[reducible] def xM:Cs:=.one .bool
@[reducible] def yF:Cs:=.one (.sl (.one (.int .u8)))
@[reducible] def zm:Cs:=.one (.sl (.one (.int .i64)))
@[reducible] def TZ:Cs:=.one .str
@[reducible] def dI:yO:=.dat (.int .i64)
@[reducible] def dB:yO:=.dat .bool
@[reducible] def dS:yO:=.dat .str
@[reducible] def Bo:Cs:=.cons (.int .i64) (.cons (.int .i64) (.cons (.int .i64) (.cons (.int .i64) xb)))
@[reducible] def zd:Cs:=.cons .bool (.cons (.int .i64) (.cons .bool (.cons (.int .i64) (.cons (.int .i64) (.cons (.int .i64) (.cons (.int .i64) xb))))))
@[reducible] def xv:Cs:=.cons (.int .i64) (.cons (.int .i64) (.cons (.int .i64) (.cons (.int .i64) xM)))
@[reducible] def yi:Cs:=.cons (.int .i64) (.cons (.int .i64) xb)
@[reducible] def zi:Cs:=.cons (.sl yi) zm
@[reducible] def xl:Cs:=.cons (.int .i64) (.cons .str (.cons (.sl zd) (.cons (.sl xv) (.cons (.sl yi) (.cons (.sl xb) (.cons (.int .i64) (.cons (.int .i64) (.cons (.int .i64) (.cons (.int .i64) xb)))))))))
@[reducible] def Bb:Cs:=.cons (.int .i64) (.cons (.int .i64) (.cons .str zm))
@[reducible] def xp:Cs:=.cons (.sl xb) (.cons (.int .i64) (.cons (.int .i64) (.cons .str zm)))
@[reducible] def zo:Cs:=.cons (.int .i64) (.cons (.int .i64) (.cons (.int .i64) (.cons (.int .i64) (.one (.sl xp)))))
@[reducible] def z6:Cs:=.cons (.int .i64) (.cons (.sl (.one (.int .u8))) (.cons (.int .i64) (.cons (.int .i64) (.cons (.int .i64) (.cons (.int .i64) (.cons (.int .i64) (.cons (.sl xp) (.cons (.int .i64) (.cons .str (.cons (.sl zd) (.cons (.sl xv) (.cons (.sl yi) (.cons (.sl xb) (.cons (.int .i64) (.cons (.int .i64) (.cons (.int .i64) (.cons (.int .i64) (.cons (.int .i64) (.cons (.int .i64) xb)))))))))))))))))))
@[reducible] def xL:Cs:=.cons (.int .i64) (.cons .str (.cons (.sl zd) (.cons (.sl xv) (.cons (.sl yi) (.cons (.sl xb) (.cons (.int .i64) (.cons (.int .i64) (.cons (.int .i64) (.cons (.int .i64) (.cons (.int .i64) (.cons .str (.cons (.sl z6) (.cons (.int .i64) xb)))))))))))))
@[reducible] def zK:Cs:=.cons (.int .i64) (.cons (.int .i64) (.cons (.int .i64) (.cons (.int .i64) (.cons (.int .i64) (.one (.sl xp))))))
@[reducible] def Am:Cs:=.cons (.int .i64) (.cons (.int .i64) (.cons (.int .i64) yF))
@[reducible] def An:Cs:=.cons (.int .i64) (.cons (.int .i64) (.cons (.int .i64) (.cons (.int .i64) yF)))
@[reducible] def zg:Cs:=.cons (.int .i64) (.cons (.int .i64) (.cons .bool (.cons (.sl (.one (.int .u8))) (.cons (.int .i64) (.cons (.int .i64) (.cons (.int .i64) (.cons (.sl (.one (.int .u8))) (.cons (.int .i64) (.cons (.int .i64) (.cons (.int .i64) (.cons (.int .i64) xb)))))))))))
@[reducible] def BL:Cs:=.cons (.sl (.one (.int .u8))) (.cons (.int .i64) xM)
abbrev BR:Type:=Int×Int×Int×Int×Int
abbrev Pt:Type:=Bool×Int×Bool×Int×Int×Int×Int×Int
abbrev xa:Type:=Int×Int×Int×Int×Bool
abbrev xq:Type:=Int×Int×Int
abbrev yl:Type:=List xq×List Int
abbrev wY:Type:=Int×List UInt8×List Pt×List xa×List xq×List Int×Int×Int×Int×Int×Int
abbrev A6:Type:=Int×Int×List UInt8×List Int
abbrev x7:Type:=List Int×Int×Int×List UInt8×List Int
abbrev xE:Type:=Int×Int×Int×Int×List x7
abbrev xH:Type:=Int×List Int×Int×Int×Int×Int×Int×List x7×Int×List UInt8×List Pt×List xa×List xq×List Int×Int×Int×Int×Int×Int×Int×Int
abbrev xk:Type:=Int×List UInt8×List Pt×List xa×List xq×List Int×Int×Int×Int×Int×Int×List UInt8×List xH×Int×Int
abbrev xX:Type:=Int×Int×Int×Int×Int×List x7
abbrev zc:Type:=Int×Int×Int×List Int
abbrev xC:Type:=Int×Int×Int×Int×List Int
abbrev Act:Type:=Int×Int×Bool×List Int×Int×Int×Int×List Int×Int×Int×Int×Int×Int
abbrev zC:Type:=List Int×Int×Bool
def tis:List (Nat×xD):=[(2,⟨false,.one (.int .i64),[],0⟩),(3,⟨false,.one (.int .i64),[],0⟩),(4,⟨false,.one .bool,[],0⟩),(5,⟨false,.one (.int .u8),[],0⟩),(6,⟨false,.one (.int .u8),[],0⟩),(9,⟨false,.one .str,[],0⟩),(10,⟨false,.one .str,[],0⟩),(11,⟨false,.one .str,[],0⟩),(12,⟨false,.one (.int .u64),[],0⟩),(21,⟨false,.one (.int .i32),[],0⟩),(22,⟨false,.one (.sl (.one (.int .u8))),[],5⟩),(24,⟨false,.one (.sl zd),[],239⟩),(25,⟨false,.one (.sl xv),[],320⟩),(26,⟨false,.one (.sl yi),[],322⟩),(27,⟨false,.one (.sl xb),[],3⟩),(28,⟨true,zi,[(26,0),(27,1)],0⟩),(29,⟨true,zi,[(26,0),(27,1)],0⟩),(30,⟨true,xl,[(3,0),(9,1),(24,2),(25,3),(29,4),(3,6),(3,7),(3,8),(3,9),(3,10)],0⟩),(31,⟨true,xl,[(3,0),(9,1),(24,2),(25,3),(29,4),(3,6),(3,7),(3,8),(3,9),(3,10)],0⟩),(32,⟨false,.one (.sl z6),[],148⟩),(33,⟨true,xL,[(31,0),(9,11),(32,12),(3,13),(3,14)],0⟩),(34,⟨true,xL,[(31,0),(9,11),(32,12),(3,13),(3,14)],0⟩),(39,⟨false,.one (.sl xp),[],209⟩),(40,⟨true,zo,[(3,0),(3,1),(3,2),(3,3),(39,4)],0⟩),(41,⟨true,zo,[(3,0),(3,1),(3,2),(3,3),(39,4)],0⟩),(44,⟨false,.one (.sl zK),[],49⟩),(48,⟨true,zK,[(3,0),(41,1)],0⟩),(49,⟨true,zK,[(3,0),(41,1)],0⟩),(50,⟨false,.one (.sl xl),[],83⟩),(51,⟨false,.one (.sl (.cons (.int .i64) (.cons (.int .i64) (.cons (.int .i64) xb)))),[],232⟩),(52,⟨false,.one (.sl (.cons (.int .i64) (.cons .bool (.cons (.int .i64) (.cons (.int .i64) (.cons (.int .i64) (.cons (.int .i64) xb))))))),[],237⟩),(53,⟨true,.cons (.sl xl) (.cons (.sl (.cons (.int .i64) (.cons (.int .i64) (.cons (.int .i64) xb)))) (.one (.sl (.cons (.int .i64) (.cons .bool (.cons (.int .i64) (.cons (.int .i64) (.cons (.int .i64) (.cons (.int .i64) xb))))))))),[(50,0),(51,1),(52,2)],0⟩),(54,⟨true,.cons (.sl xl) (.cons (.sl (.cons (.int .i64) (.cons (.int .i64) (.cons (.int .i64) xb)))) (.one (.sl (.cons (.int .i64) (.cons .bool (.cons (.int .i64) (.cons (.int .i64) (.cons (.int .i64) (.cons (.int .i64) xb))))))))),[(50,0),(51,1),(52,2)],0⟩),(55,⟨true,Am,[(3,0),(3,1),(3,2),(22,3)],0⟩),(56,⟨true,Am,[(3,0),(3,1),(3,2),(22,3)],0⟩),(59,⟨false,.one (.sl xl),[],31⟩),(60,⟨false,.one (.sl (.cons (.int .i64) (.cons (.int .i64) (.cons (.int .i64) xb)))),[],230⟩),(61,⟨false,.one (.sl (.cons (.int .i64) (.cons .bool (.cons (.int .i64) (.cons (.int .i64) (.cons (.int .i64) (.cons (.int .i64) xb))))))),[],234⟩),(62,⟨true,.cons (.sl xl) (.cons (.sl (.cons (.int .i64) (.cons (.int .i64) (.cons (.int .i64) xb)))) (.one (.sl (.cons (.int .i64) (.cons .bool (.cons (.int .i64) (.cons (.int .i64) (.cons (.int .i64) (.cons (.int .i64) xb))))))))),[(59,0),(60,1),(61,2)],0⟩),(63,⟨true,.cons (.sl xl) (.cons (.sl (.cons (.int .i64) (.cons (.int .i64) (.cons (.int .i64) xb)))) (.one (.sl (.cons (.int .i64) (.cons .bool (.cons (.int .i64) (.cons (.int .i64) (.cons (.int .i64) (.cons (.int .i64) xb))))))))),[(59,0),(60,1),(61,2)],0⟩),(64,⟨false,.one (.sl (.cons (.int .i64) (.cons (.int .i64) (.cons (.int .i64) (.cons (.int .i64) (.cons (.int .i64) yF)))))),[],169⟩),(68,⟨true,Am,[(3,0),(3,1),(3,2),(22,3)],0⟩),(77,⟨false,.one (.sl zd),[],332⟩),(78,⟨false,.one (.sl xv),[],334⟩),(79,⟨false,.one (.sl yi),[],372⟩),(80,⟨true,zi,[(79,0),(27,1)],0⟩),(81,⟨true,zi,[(79,0),(27,1)],0⟩),(82,⟨true,xl,[(3,0),(9,1),(77,2),(78,3),(81,4),(3,6),(3,7),(3,8),(3,9),(3,10)],0⟩),(83,⟨true,xl,[(3,0),(9,1),(77,2),(78,3),(81,4),(3,6),(3,7),(3,8),(3,9),(3,10)],0⟩),(84,⟨false,.one (.sl z6),[],263⟩),(85,⟨true,xL,[(83,0),(9,11),(84,12),(3,13),(3,14)],0⟩),(86,⟨true,xL,[(83,0),(9,11),(84,12),(3,13),(3,14)],0⟩),(94,⟨true,Bo,[(3,0),(3,1),(3,2),(3,3),(3,4)],0⟩),(95,⟨true,Bo,[(3,0),(3,1),(3,2),(3,3),(3,4)],0⟩),(96,⟨true,zg,[(3,0),(3,1),(4,2),(22,3),(56,4),(95,8)],0⟩),(97,⟨true,zg,[(3,0),(3,1),(4,2),(22,3),(56,4),(95,8)],0⟩),(99,⟨false,.one (.sl An),[],194⟩),(102,⟨true,Bo,[(3,0),(3,1),(3,2),(3,3),(3,4)],0⟩),(103,⟨true,zg,[(3,0),(3,1),(4,2),(22,3),(68,4),(102,8)],0⟩),(104,⟨true,zg,[(3,0),(3,1),(4,2),(22,3),(68,4),(102,8)],0⟩),(111,⟨false,.one (.sl zg),[],97⟩),(114,⟨false,.one (.sl zg),[],104⟩),(125,⟨false,.one (.sl TZ),[],9⟩),(137,⟨true,BL,[(22,0),(3,1),(4,2)],0⟩),(138,⟨true,BL,[(22,0),(3,1),(4,2)],0⟩),(147,⟨true,z6,[(3,0),(22,1),(3,2),(41,3),(31,8),(3,19),(3,20)],0⟩),(148,⟨true,z6,[(3,0),(22,1),(3,2),(41,3),(31,8),(3,19),(3,20)],0⟩),(154,⟨false,.one (.sl (.cons (.int .i64) (.cons (.int .i64) (.cons (.int .i64) (.cons (.int .i64) (.cons (.int .i64) yF)))))),[],227⟩),(155,⟨true,.cons (.sl xl) (.cons (.sl (.cons (.int .i64) (.cons (.int .i64) (.cons (.int .i64) xb)))) (.cons (.sl (.cons (.int .i64) (.cons .bool (.cons (.int .i64) (.cons (.int .i64) (.cons (.int .i64) (.cons (.int .i64) xb))))))) (.cons (.sl (.cons (.int .i64) (.cons (.int .i64) (.cons (.int .i64) (.cons (.int .i64) (.cons (.int .i64) yF)))))) (.cons (.sl (.cons (.int .i64) (.cons (.int .i64) (.cons (.int .i64) (.cons (.int .i64) (.cons (.int .i64) yF)))))) (.cons (.sl xb) xb))))),[(63,0),(154,3),(64,4),(27,5),(3,6)],0⟩),(156,⟨true,.cons (.sl xl) (.cons (.sl (.cons (.int .i64) (.cons (.int .i64) (.cons (.int .i64) xb)))) (.cons (.sl (.cons (.int .i64) (.cons .bool (.cons (.int .i64) (.cons (.int .i64) (.cons (.int .i64) (.cons (.int .i64) xb))))))) (.cons (.sl (.cons (.int .i64) (.cons (.int .i64) (.cons (.int .i64) (.cons (.int .i64) (.cons (.int .i64) yF)))))) (.cons (.sl (.cons (.int .i64) (.cons (.int .i64) (.cons (.int .i64) (.cons (.int .i64) (.cons (.int .i64) yF)))))) (.cons (.sl xb) xb))))),[(63,0),(154,3),(64,4),(27,5),(3,6)],0⟩),(168,⟨true,.cons (.int .i64) (.cons (.int .i64) (.cons (.int .i64) (.cons (.int .i64) (.cons (.int .i64) yF)))),[(3,0),(3,1),(68,2)],0⟩),(169,⟨true,.cons (.int .i64) (.cons (.int .i64) (.cons (.int .i64) (.cons (.int .i64) (.cons (.int .i64) yF)))),[(3,0),(3,1),(68,2)],0⟩),(193,⟨true,An,[(3,0),(68,1)],0⟩),(194,⟨true,An,[(3,0),(68,1)],0⟩),(196,⟨true,.cons (.sl (.one (.int .u8))) (.cons (.int .i64) xb),[(22,0),(3,1),(3,2)],0⟩),(197,⟨true,.cons (.sl (.one (.int .u8))) (.cons (.int .i64) xb),[(22,0),(3,1),(3,2)],0⟩),(205,⟨true,Bb,[(3,0),(3,1),(9,2),(27,3)],0⟩),(206,⟨true,Bb,[(3,0),(3,1),(9,2),(27,3)],0⟩),(208,⟨true,xp,[(27,0),(206,1)],0⟩),(209,⟨true,xp,[(27,0),(206,1)],0⟩),(210,⟨false,.one (.int .u64),[],0⟩),(226,⟨true,.cons (.int .i64) (.cons (.int .i64) (.cons (.int .i64) (.cons (.int .i64) (.cons (.int .i64) yF)))),[(3,0),(3,1),(68,2)],0⟩),(227,⟨true,.cons (.int .i64) (.cons (.int .i64) (.cons (.int .i64) (.cons (.int .i64) (.cons (.int .i64) yF)))),[(3,0),(3,1),(68,2)],0⟩),(229,⟨true,.cons (.int .i64) (.cons (.int .i64) (.cons (.int .i64) xb)),[(3,0),(3,1),(3,2),(3,3)],0⟩),(230,⟨true,.cons (.int .i64) (.cons (.int .i64) (.cons (.int .i64) xb)),[(3,0),(3,1),(3,2),(3,3)],0⟩),(232,⟨true,.cons (.int .i64) (.cons (.int .i64) (.cons (.int .i64) xb)),[(3,0),(3,1),(3,2),(3,3)],0⟩),(233,⟨true,.cons (.int .i64) (.cons .bool (.cons (.int .i64) (.cons (.int .i64) (.cons (.int .i64) (.cons (.int .i64) xb))))),[(3,0),(4,1),(102,2)],0⟩),(234,⟨true,.cons (.int .i64) (.cons .bool (.cons (.int .i64) (.cons (.int .i64) (.cons (.int .i64) (.cons (.int .i64) xb))))),[(3,0),(4,1),(102,2)],0⟩),(236,⟨true,.cons (.int .i64) (.cons .bool (.cons (.int .i64) (.cons (.int .i64) (.cons (.int .i64) (.cons (.int .i64) xb))))),[(3,0),(4,1),(95,2)],0⟩),(237,⟨true,.cons (.int .i64) (.cons .bool (.cons (.int .i64) (.cons (.int .i64) (.cons (.int .i64) (.cons (.int .i64) xb))))),[(3,0),(4,1),(95,2)],0⟩),(238,⟨true,zd,[(4,0),(3,1),(4,2),(102,3)],0⟩),(239,⟨true,zd,[(4,0),(3,1),(4,2),(102,3)],0⟩),(243,⟨true,.cons (.int .i64) (.cons (.int .i64) (.cons (.int .i64) (.cons (.int .i64) (.cons (.int .i64) yF)))),[(3,0),(3,1),(68,2)],0⟩),(244,⟨true,.cons (.int .i64) (.cons (.int .i64) (.cons (.int .i64) (.cons (.int .i64) (.cons (.int .i64) yF)))),[(3,0),(3,1),(68,2)],0⟩),(245,⟨false,.one (.sl (.cons (.int .i64) (.cons (.int .i64) (.cons (.int .i64) (.cons (.int .i64) (.cons (.int .i64) yF)))))),[],244⟩),(259,⟨false,.one (.sl xp),[],392⟩),(260,⟨true,zo,[(3,0),(3,1),(3,2),(3,3),(259,4)],0⟩),(261,⟨true,zo,[(3,0),(3,1),(3,2),(3,3),(259,4)],0⟩),(262,⟨true,z6,[(3,0),(22,1),(3,2),(261,3),(83,8),(3,19),(3,20)],0⟩),(263,⟨true,z6,[(3,0),(22,1),(3,2),(261,3),(83,8),(3,19),(3,20)],0⟩),(301,⟨false,.one (.int .i8),[],0⟩),(319,⟨true,xv,[(3,0),(3,1),(3,2),(3,3),(4,4)],0⟩),(320,⟨true,xv,[(3,0),(3,1),(3,2),(3,3),(4,4)],0⟩),(321,⟨true,yi,[(3,0),(3,1),(3,2)],0⟩),(322,⟨true,yi,[(3,0),(3,1),(3,2)],0⟩),(331,⟨true,zd,[(4,0),(3,1),(4,2),(95,3)],0⟩),(332,⟨true,zd,[(4,0),(3,1),(4,2),(95,3)],0⟩),(334,⟨true,xv,[(3,0),(3,1),(3,2),(3,3),(4,4)],0⟩),(366,⟨true,BL,[(22,0),(3,1),(4,2)],0⟩),(367,⟨true,BL,[(22,0),(3,1),(4,2)],0⟩),(372,⟨true,yi,[(3,0),(3,1),(3,2)],0⟩),(387,⟨false,.one (.sl zm),[],27⟩),(390,⟨true,Bb,[(3,0),(3,1),(9,2),(27,3)],0⟩),(391,⟨true,xp,[(27,0),(390,1)],0⟩),(392,⟨true,xp,[(27,0),(390,1)],0⟩),(417,⟨false,.one (.int .u32),[],0⟩),(418,⟨false,.one (.int .u8),[],0⟩),(419,⟨false,.one (.int .u8),[],0⟩),(422,⟨false,.one (.int .i32),[],0⟩),(423,⟨false,.one (.int .i32),[],0⟩)]
theorem tisT:zG Tryz.prog tis:=zG.of_all (by kernel_rfl)
theorem YE:ND Tryz.prog tis:=ND.of_all (by kernel_rfl)
theorem tisD:Deep Tryz.prog tis:=Deep.of_all (by kernel_rfl)
theorem Cd:Tryz.prog.follows .mixedOrders=true:=by kernel_rfl
def yL (fn:Func):Code:=match fn.body with|some c=>c|none=>.skip
theorem sV:zS Tryz.prog ⟨tis,[],[],false⟩:=⟨tisT,YE,(λf F h=>by cases h),(λf M h=>by cases h),(λh=>by cases h)⟩
theorem Ze {l : List (FuncId×Fn)} (g : zS Tryz.prog ⟨tis, l, [], false⟩) (n : FuncId) (f : Func) (ann : List (Nat×xi)) (F : Fn) (h1 : Tryz.prog.funcs[n]?=some f) (h2 : (f.name == "runtime.NumGoroutine")=false := by kernel_rfl) (h3 : f.body=some (yL f) := by kernel_rfl) (h4 : Jh ⟨tis, l, [], false⟩ ann f (yL f) F.ps F.rs=F.den := by kernel_rfl) : EU Tryz.prog n F := by
 have h:=O1 (ann:=ann) (ps:=F.ps) (rs:=F.rs) g Cd h1 h2 h3;rw[h4]at h;exact h
abbrev FL:=List (FuncId×Fn)
def Gd (a:FL):Prop:=zS Tryz.prog ⟨tis,a,[],false⟩
theorem xf {l : List (FuncId×Fn)} (g : Gd l) (n : FuncId) (f : Func) (ann : List (Nat×xi)) {F : Fn} (h1 : Tryz.prog.funcs[n]?=some f) (h2 : (f.name == "runtime.NumGoroutine")=false := by kernel_rfl) (h3 : f.body=some (yL f) := by kernel_rfl) (h4 : Jh ⟨tis, l, [], false⟩ ann f (yL f) F.ps F.rs=F.den := by kernel_rfl) : Gd ((n, F)::l) := zS.cons g (Ze g n f ann F h1 h2 h3 h4)
def jk (b:List Pt) (c:Int):Option Int :=let a:=wZ (c-(b.length:Int)); cond (decide (a<0)) (some (-1)) (some a)
def mU:FL:=(172,⟨[.val false (.one (.sl zd)) false,.val false xb false],[.val false xb (some true)],λa=>jk a.1 a.2⟩)::[]
theorem sW:Gd mU:=xf sV 172 Tryz.f172 [] Tryz.func172
def jl (b:List xa) (c:Int):Option Int :=let a:=wZ (c-(b.length:Int)); cond (decide (a<0)) (some (-1)) (some a)
def mV:FL:=(173,⟨[.val false (.one (.sl xv)) false,.val false xb false],[.val false xb (some true)],λa=>jl a.1 a.2⟩)::mU
theorem sX:Gd mV:=xf sW 173 Tryz.f173 [] Tryz.func173
def jm (b:List xq) (c:Int):Option Int :=let a:=wZ (c-(b.length:Int)); cond (decide (a<0)) (some (-1)) (some a)
def mW:FL:=(261,⟨[.val false (.one (.sl yi)) false,.val false xb false],[.val false xb (some true)],λa=>jm a.1 a.2⟩)::mV
theorem sY:Gd mW:=xf sX 261 Tryz.f261 [] Tryz.func261
def fj (b:List Int) (c:Int):Option Int :=let a:=wZ (c-(b.length:Int)); cond (decide (a<0)) (some (-1)) (some a)
def mX:FL:=(262,⟨[.val false zm false,.val false xb false],[.val false xb (some true)],λa=>fj a.1 a.2⟩)::mW
theorem sZ:Gd mX:=xf sY 262 Tryz.f262 [] Tryz.func262
def jn (a:yl) (d:Int):Option Int :=(jm a.1 d).bind λb =>cond (decide (b<0)) (some (-1)) ((fj a.2 b).bind λc =>cond (decide (c<0)) (some (-1)) (some c))
def mY:FL:=(174,⟨[.val true zi false,.val false xb false],[.val false xb (some true)],λa=>jn a.1 a.2⟩)::mX
theorem ta:Gd mY:=xf sZ 174 Tryz.f174 [] Tryz.func174
def gU (a:wY) (f:Int):Option Int :=let b:=wZ (f-(a.2.1.length:Int)); cond (decide (b<0)) (some (-1)) ((jk a.2.2.1 b).bind λc =>cond (decide (c<0)) (some (-1)) ((jl a.2.2.2.1 c).bind λd =>cond (decide (d<0)) (some (-1)) ((jn (a.2.2.2.2.1,a.2.2.2.2.2.1) d).bind λe =>cond (decide (e<0)) (some (-1)) (some e))))
def mZ:FL:=(103,⟨[.val true xl false,.val false xb false],[.val false xb (some true)],λa=>gU a.1 a.2⟩)::mY
theorem tb:Gd mZ:=xf ta 103 Tryz.f103 [] Tryz.func103
def fk (b:List Int) (c:Int):Option Int :=let a:=wZ (c-(b.length:Int)); cond (decide (a<0)) (some (-1)) (some a)
def n7:FL:=(81,⟨[.val false yF false,.val false xb false],[.val false xb (some true)],λa=>fk a.1 a.2⟩)::mZ
theorem td:Gd n7:=xf tb 81 Tryz.f81 [] Tryz.func81
def jo (a:A6) (d:Int):Option Int :=let b:=wZ (d-(a.2.2.1.length:Int)); cond (decide (b<0)) (some (-1)) ((fj a.2.2.2 b).bind λc =>cond (decide (c<0)) (some (-1)) (some c))
def n8:FL:=(379,⟨[.val true Bb false,.val false xb false],[.val false xb (some true)],λa=>jo a.1 a.2⟩)::n7
theorem te:Gd n8:=xf td 379 Tryz.f379 [] Tryz.func379
def gV (a:x7) (d:Int):Option Int :=(fj a.1 d).bind λb =>cond (decide (b<0)) (some (-1)) ((jo a.2 b).bind λc =>cond (decide (c<0)) (some (-1)) (some c))
def n9:FL:=(363,⟨[.val true xp false,.val false xb false],[.val false xb (some true)],λa=>gV a.1 a.2⟩)::n8
theorem tg:Gd n9:=xf te 363 Tryz.f363 [] Tryz.func363
def na (b:List x7) (c:Int) (a:Int):Option ((Int×Int)⊕(Int⊕Int)) :=cond (decide (a<(b.length:Int))) ((at? b a).bind λe =>(gV e c).bind λd =>cond (decide (d<0)) (some (.inr (.inr (-1)))) (some (.inl (d,wZ (a+1))))) (some (.inr (.inl c)))
def jp (a:List x7) (d:Int):Option Int :=let b:=wZ (d-(a.length:Int)); cond (decide (b<0)) (some (-1)) ((loop (λc=>na a c.1 c.2) (b,0)).bind (Sum.elim (λe =>some e) (λf=>some f)))
def nb:FL:=(328,⟨[.val false (.one (.sl xp)) false,.val false xb false],[.val false xb (some true)],λa=>jp a.1 a.2⟩)::n9
theorem tj:Gd nb:=xf tg 328 Tryz.f328 [(0,⟨⟨[(1,false,[dI]),(5,false,[dI])],[]⟩,
 ⟨[(1,false,[dI])],[]⟩,some ⟨[(4,false,[dI])],[]⟩⟩)] Tryz.func328
def jq (b:xE) (c:Int):Option Int :=(jp b.2.2.2.2 c).bind λa =>cond (decide (a<0)) (some (-1)) (some a)
def nc:FL:=(263,⟨[.val true zo false,.val false xb false],[.val false xb (some true)],λa=>jq a.1 a.2⟩)::nb
theorem tk:Gd nc:=xf tj 263 Tryz.f263 [] Tryz.func263
def gW (a:xH) (e:Int):Option Int :=(fk a.2.1 e).bind λb =>cond (decide (b<0)) (some (-1)) ((jq (a.2.2.2.1,a.2.2.2.2.1,a.2.2.2.2.2.1,a.2.2.2.2.2.2.1,a.2.2.2.2.2.2.2.1) b).bind λc =>cond (decide (c<0)) (some (-1)) ((gU (a.2.2.2.2.2.2.2.2.1,a.2.2.2.2.2.2.2.2.2.1,a.2.2.2.2.2.2.2.2.2.2.1,a.2.2.2.2.2.2.2.2.2.2.2.1,a.2.2.2.2.2.2.2.2.2.2.2.2.1,a.2.2.2.2.2.2.2.2.2.2.2.2.2.1,a.2.2.2.2.2.2.2.2.2.2.2.2.2.2.1,a.2.2.2.2.2.2.2.2.2.2.2.2.2.2.2.1,a.2.2.2.2.2.2.2.2.2.2.2.2.2.2.2.2.1,a.2.2.2.2.2.2.2.2.2.2.2.2.2.2.2.2.2.1,a.2.2.2.2.2.2.2.2.2.2.2.2.2.2.2.2.2.2.1) c).bind λd =>cond (decide (d<0)) (some (-1)) (some d)))
def nd:FL:=(175,⟨[.val true z6 false,.val false xb false],[.val false xb (some true)],λa=>gW a.1 a.2⟩)::nc
theorem tn:Gd nd:=xf tk 175 Tryz.f175 [] Tryz.func175
def ne (b:List xH) (c:Int) (a:Int):Option ((Int×Int)⊕(Int⊕Int)) :=cond (decide (a<(b.length:Int))) ((at? b a).bind λe =>(gW e c).bind λd =>cond (decide (d<0)) (some (.inr (.inr (-1)))) (some (.inl (d,wZ (a+1))))) (some (.inr (.inl c)))
def jr (a:List xH) (d:Int):Option Int :=let b:=wZ (d-(a.length:Int)); cond (decide (b<0)) (some (-1)) ((loop (λc=>ne a c.1 c.2) (b,0)).bind (Sum.elim (λe =>some e) (λf=>some f)))
def ng:FL:=(104,⟨[.val false (.one (.sl z6)) false,.val false xb false],[.val false xb (some true)],λa=>jr a.1 a.2⟩)::nd
theorem to:Gd ng:=xf tn 104 Tryz.f104 [(0,⟨⟨[(1,false,[dI]),(5,false,[dI])],[]⟩,
 ⟨[(1,false,[dI])],[]⟩,some ⟨[(4,false,[dI])],[]⟩⟩)] Tryz.func104
def ji (a:xk) (e:Int):Option Int :=(gU (a.1,a.2.1,a.2.2.1,a.2.2.2.1,a.2.2.2.2.1,a.2.2.2.2.2.1,a.2.2.2.2.2.2.1,a.2.2.2.2.2.2.2.1,a.2.2.2.2.2.2.2.2.1,a.2.2.2.2.2.2.2.2.2.1,a.2.2.2.2.2.2.2.2.2.2.1) e).bind λb =>cond (decide (b<0)) (some (-1)) (let c:=wZ (b-(a.2.2.2.2.2.2.2.2.2.2.2.1.length:Int)); cond (decide (c<0)) (some (-1)) ((jr a.2.2.2.2.2.2.2.2.2.2.2.2.1 c).bind λd =>cond (decide (d<0)) (some (-1)) (some d)))
def nh:FL:=(29,⟨[.val true xL false,.val false xb false],[.val false xb (some true)],λa=>ji a.1 a.2⟩)::ng
theorem tq:Gd nh:=xf to 29 Tryz.f29 [] Tryz.func29
def ja (a:BR):Option BR :=some a
def ni:FL:=(123,⟨[.val true Bo false],[.val true Bo (some true)],λa=>ja a⟩)::nh
theorem tu:Gd ni:=xf tq 123 Tryz.f123 [] Tryz.func123
def js (b:Pt):Option Pt :=(ja b.2.2.2).bind λa =>some (b.1,b.2.1,b.2.2.1,a.1,a.2.1,a.2.2.1,a.2.2.2.1,a.2.2.2.2)
def nj:FL:=(279,⟨[.val true zd false],[.val true zd (some true)],λa=>js a⟩)::ni
theorem tv:Gd nj:=xf tu 279 Tryz.f279 [] Tryz.func279
def tz (c:List Pt) (a:Int) (b:List Pt):Option ((Int×List Pt)⊕(List Pt)) :=cond (decide (a<(c.length:Int))) ((at? c a).bind λe =>(js e).bind λf =>(ix b.length a).bind λd =>(b[d]?).bind λg =>some (.inl (wZ (a+1),b.set d f))) (some (.inr b))
def jt (a:List Pt):Option (List Pt) :=(Cp (a.length:Int)).bind λc =>(loop (λb=>tz a b.1 b.2) (0,List.replicate c ((false,0,false,0,0,0,0,0):Pt))).bind λd =>some d
def nk:FL:=(184,⟨[.val false (.one (.sl zd)) false],[.val false (.one (.sl zd)) (some true)],λa=>jt a⟩)::nj
theorem tA:Gd nk:=xf tv 184 Tryz.f184 [(0,⟨⟨[(4,false,[dI])],[(265216,.keep zd true)]⟩,
 ⟨[],[(265216,.keep zd true)]⟩,none⟩)] Tryz.func184
def ju (a:xa):Option xa :=some a
def nl:FL:=(280,⟨[.val true xv false],[.val true xv (some true)],λa=>ju a⟩)::nk
theorem tB:Gd nl:=xf tA 280 Tryz.f280 [] Tryz.func280
def tC (c:List xa) (a:Int) (b:List xa):Option ((Int×List xa)⊕(List xa)) :=cond (decide (a<(c.length:Int))) ((at? c a).bind λe =>(ju e).bind λf =>(ix b.length a).bind λd =>(b[d]?).bind λg =>some (.inl (wZ (a+1),b.set d f))) (some (.inr b))
def jv (a:List xa):Option (List xa) :=(Cp (a.length:Int)).bind λc =>(loop (λb=>tC a b.1 b.2) (0,List.replicate c ((0,0,0,0,false):xa))).bind λd =>some d
def nn:FL:=(185,⟨[.val false (.one (.sl xv)) false],[.val false (.one (.sl xv)) (some true)],λa=>jv a⟩)::nl
theorem tD:Gd nn:=xf tB 185 Tryz.f185 [(0,⟨⟨[(4,false,[dI])],[(265216,.keep xv true)]⟩,
 ⟨[],[(265216,.keep xv true)]⟩,none⟩)] Tryz.func185
def jw (a:xq):Option xq :=some a
def np:FL:=(340,⟨[.val true yi false],[.val true yi (some true)],λa=>jw a⟩)::nn
theorem tE:Gd np:=xf tD 340 Tryz.f340 [] Tryz.func340
def tF (c:List xq) (a:Int) (b:List xq):Option ((Int×List xq)⊕(List xq)) :=cond (decide (a<(c.length:Int))) ((at? c a).bind λe =>(jw e).bind λf =>(ix b.length a).bind λd =>(b[d]?).bind λg =>some (.inl (wZ (a+1),b.set d f))) (some (.inr b))
def jx (a:List xq):Option (List xq) :=(Cp (a.length:Int)).bind λc =>(loop (λb=>tF a b.1 b.2) (0,List.replicate c ((0,0,0):xq))).bind λd =>some d
def nq:FL:=(281,⟨[.val false (.one (.sl yi)) false],[.val false (.one (.sl yi)) (some true)],λa=>jx a⟩)::np
theorem tG:Gd nq:=xf tE 281 Tryz.f281 [(0,⟨⟨[(4,false,[dI])],[(265216,.keep yi true)]⟩,
 ⟨[],[(265216,.keep yi true)]⟩,none⟩)] Tryz.func281
def tH (c:List Int) (a:Int) (b:List Int):Option ((Int×List Int)⊕(List Int)) :=cond (decide (a<(c.length:Int))) ((at? c a).bind λe =>(ix b.length a).bind λd =>(b[d]?).bind λf =>some (.inl (wZ (a+1),b.set d e))) (some (.inr b))
def fm (a:List Int):Option (List Int) :=(Cp (a.length:Int)).bind λc =>(loop (λb=>tH a b.1 b.2) (0,List.replicate c (0:Int))).bind λd =>some d
def nr:FL:=(282,⟨[.val false zm false],[.val false zm (some true)],λa=>fm a⟩)::nq
theorem tI:Gd nr:=xf tG 282 Tryz.f282 [(0,⟨⟨[(4,false,[dI])],[(265216,.keep xb true)]⟩,
 ⟨[],[(265216,.keep xb true)]⟩,none⟩)] Tryz.func282
def gX (a:yl):Option yl :=(jx a.1).bind λb =>(fm a.2).bind λc =>some (b,c)
def nu:FL:=(186,⟨[.val true zi false],[.val true zi (some true)],λa=>gX a⟩)::nr
theorem tJ:Gd nu:=xf tI 186 Tryz.f186 [] Tryz.func186
def fo (a:wY):Option wY :=(jt a.2.2.1).bind λc =>(jv a.2.2.2.1).bind λd =>(gX (a.2.2.2.2.1,a.2.2.2.2.2.1)).bind λb =>some (a.1,a.2.1,c,d,b.1,b.2,a.2.2.2.2.2.2.1,a.2.2.2.2.2.2.2.1,a.2.2.2.2.2.2.2.2.1,a.2.2.2.2.2.2.2.2.2.1,a.2.2.2.2.2.2.2.2.2.2)
def nv:FL:=(109,⟨[.val true xl false],[.val true xl (some true)],λa=>fo a⟩)::nu
theorem tK:Gd nv:=xf tJ 109 Tryz.f109 [] Tryz.func109
def tL (c:List Int) (a:Int) (b:List Int):Option ((Int×List Int)⊕(List Int)) :=cond (decide (a<(c.length:Int))) ((at? c a).bind λe =>(ix b.length a).bind λd =>(b[d]?).bind λf =>some (.inl (wZ (a+1),b.set d e))) (some (.inr b))
def eo (a:List Int):Option (List Int) :=(Cp (a.length:Int)).bind λc =>(loop (λb=>tL a b.1 b.2) (0,List.replicate c (0:Int))).bind λd =>some d
def nx:FL:=(86,⟨[.val false yF false],[.val false yF (some true)],λa=>eo a⟩)::nv
theorem tM:Gd nx:=xf tK 86 Tryz.f86 [(0,⟨⟨[(4,false,[dI])],[(265216,.keep (.one (.int .u8)) true)]⟩,
 ⟨[],[(265216,.keep (.one (.int .u8)) true)]⟩,none⟩)] Tryz.func86
def gY (a:A6):Option A6 :=(fm a.2.2.2).bind λb =>some (a.1,a.2.1,a.2.2.1,b)
def ny:FL:=(387,⟨[.val true Bb false],[.val true Bb (some true)],λa=>gY a⟩)::nx
theorem tN:Gd ny:=xf tM 387 Tryz.f387 [] Tryz.func387
def fp (b:x7):Option x7 :=(fm b.1).bind λc =>(gY b.2).bind λa =>some (c,a.1,a.2.1,a.2.2.1,a.2.2.2)
def nz:FL:=(369,⟨[.val true xp false],[.val true xp (some true)],λa=>fp a⟩)::ny
theorem tO:Gd nz:=xf tN 369 Tryz.f369 [] Tryz.func369
def tP (c:List x7) (a:Int) (b:List x7):Option ((Int×List x7)⊕(List x7)) :=cond (decide (a<(c.length:Int))) ((at? c a).bind λe =>(fp e).bind λf =>(ix b.length a).bind λd =>(b[d]?).bind λg =>some (.inl (wZ (a+1),b.set d f))) (some (.inr b))
def jy (a:List x7):Option (List x7) :=(Cp (a.length:Int)).bind λc =>(loop (λb=>tP a b.1 b.2) (0,List.replicate c (([],0,0,[],[]):x7))).bind λd =>some d
def nA:FL:=(341,⟨[.val false (.one (.sl xp)) false],[.val false (.one (.sl xp)) (some true)],λa=>jy a⟩)::nz
theorem tQ:Gd nA:=xf tO 341 Tryz.f341 [(0,⟨⟨[(4,false,[dI])],[(265216,.keep xp true)]⟩,
 ⟨[],[(265216,.keep xp true)]⟩,none⟩)] Tryz.func341
def fq (a:xE):Option xE :=(jy a.2.2.2.2).bind λb =>some (a.1,a.2.1,a.2.2.1,a.2.2.2.1,b)
def nB:FL:=(283,⟨[.val true zo false],[.val true zo (some true)],λa=>fq a⟩)::nA
theorem tR:Gd nB:=xf tQ 283 Tryz.f283 [] Tryz.func283
def fr (a:xH):Option xH :=(eo a.2.1).bind λd =>(fq (a.2.2.2.1,a.2.2.2.2.1,a.2.2.2.2.2.1,a.2.2.2.2.2.2.1,a.2.2.2.2.2.2.2.1)).bind λc =>(fo (a.2.2.2.2.2.2.2.2.1,a.2.2.2.2.2.2.2.2.2.1,a.2.2.2.2.2.2.2.2.2.2.1,a.2.2.2.2.2.2.2.2.2.2.2.1,a.2.2.2.2.2.2.2.2.2.2.2.2.1,a.2.2.2.2.2.2.2.2.2.2.2.2.2.1,a.2.2.2.2.2.2.2.2.2.2.2.2.2.2.1,a.2.2.2.2.2.2.2.2.2.2.2.2.2.2.2.1,a.2.2.2.2.2.2.2.2.2.2.2.2.2.2.2.2.1,a.2.2.2.2.2.2.2.2.2.2.2.2.2.2.2.2.2.1,a.2.2.2.2.2.2.2.2.2.2.2.2.2.2.2.2.2.2.1)).bind λb =>some (a.1,d,a.2.2.1,c.1,c.2.1,c.2.2.1,c.2.2.2.1,c.2.2.2.2,b.1,b.2.1,b.2.2.1,b.2.2.2.1,b.2.2.2.2.1,b.2.2.2.2.2.1,b.2.2.2.2.2.2.1,b.2.2.2.2.2.2.2.1,b.2.2.2.2.2.2.2.2.1,b.2.2.2.2.2.2.2.2.2.1,b.2.2.2.2.2.2.2.2.2.2,a.2.2.2.2.2.2.2.2.2.2.2.2.2.2.2.2.2.2.2.1,a.2.2.2.2.2.2.2.2.2.2.2.2.2.2.2.2.2.2.2.2)
def nC:FL:=(187,⟨[.val true z6 false],[.val true z6 (some true)],λa=>fr a⟩)::nB
theorem tS:Gd nC:=xf tR 187 Tryz.f187 [] Tryz.func187
def tT (c:List xH) (a:Int) (b:List xH):Option ((Int×List xH)⊕(List xH)) :=cond (decide (a<(c.length:Int))) ((at? c a).bind λe =>(fr e).bind λf =>(ix b.length a).bind λd =>(b[d]?).bind λg =>some (.inl (wZ (a+1),b.set d f))) (some (.inr b))
def jz (a:List xH):Option (List xH) :=(Cp (a.length:Int)).bind λc =>(loop (λb=>tT a b.1 b.2) (0,List.replicate c ((0,[],0,0,0,0,0,[],0,[],[],[],[],[],0,0,0,0,0,0,0):xH))).bind λd =>some d
def nD:FL:=(110,⟨[.val false (.one (.sl z6)) false],[.val false (.one (.sl z6)) (some true)],λa=>jz a⟩)::nC
theorem tU:Gd nD:=xf tS 110 Tryz.f110 [(0,⟨⟨[(4,false,[dI])],[(265216,.keep z6 true)]⟩,
 ⟨[],[(265216,.keep z6 true)]⟩,none⟩)] Tryz.func110
def cG (a:xk):Option xk :=(fo (a.1,a.2.1,a.2.2.1,a.2.2.2.1,a.2.2.2.2.1,a.2.2.2.2.2.1,a.2.2.2.2.2.2.1,a.2.2.2.2.2.2.2.1,a.2.2.2.2.2.2.2.2.1,a.2.2.2.2.2.2.2.2.2.1,a.2.2.2.2.2.2.2.2.2.2.1)).bind λb =>(jz a.2.2.2.2.2.2.2.2.2.2.2.2.1).bind λc =>some (b.1,b.2.1,b.2.2.1,b.2.2.2.1,b.2.2.2.2.1,b.2.2.2.2.2.1,b.2.2.2.2.2.2.1,b.2.2.2.2.2.2.2.1,b.2.2.2.2.2.2.2.2.1,b.2.2.2.2.2.2.2.2.2.1,b.2.2.2.2.2.2.2.2.2.2,a.2.2.2.2.2.2.2.2.2.2.2.1,c,a.2.2.2.2.2.2.2.2.2.2.2.2.2.1,a.2.2.2.2.2.2.2.2.2.2.2.2.2.2)
def nE:FL:=(31,⟨[.val true xL false],[.val true xL (some true)],λa=>cG a⟩)::nD
theorem tV:Gd nE:=xf tU 31 Tryz.f31 [] Tryz.func31
def eY (a:BR) (b:BR):Option Bool :=cond (a.1 != b.1) (some false) (cond (a.2.1 != b.2.1) (some false) (cond (a.2.2.1 != b.2.2.1) (some false) (cond (a.2.2.2.1 != b.2.2.2.1) (some false) (cond (a.2.2.2.2 != b.2.2.2.2) (some false) (some true)))))
def nF:FL:=(126,⟨[.val true Bo false,.val true Bo false],[.val false xM (some true)],λa=>eY a.1 a.2⟩)::nE
theorem tW:Gd nF:=xf tV 126 Tryz.f126 [] Tryz.func126
def ft (a:Pt) (b:Pt):Option Bool :=cond (!(a.1==b.1)) (some false) (cond (a.2.1 != b.2.1) (some false) (cond (!(a.2.2.1==b.2.2.1)) (some false) ((eY a.2.2.2 b.2.2.2).bind λc =>cond (!c) (some false) (some true))))
def nG:FL:=(284,⟨[.val true zd false,.val true zd false],[.val false xM (some true)],λa=>ft a.1 a.2⟩)::nF
theorem tX:Gd nG:=xf tW 284 Tryz.f284 [] Tryz.func284
def tY (b:List Pt) (c:List Pt) (a:Int):Option (Int⊕(Unit⊕Bool)) :=cond (decide (a<(b.length:Int))) ((at? b a).bind λd =>(at? c a).bind λe =>(ft d e).bind λf =>cond (!f) (some (.inr (.inr false))) (some (.inl (wZ (a+1))))) (some (.inr (.inl ())))
def jA (a:List Pt) (b:List Pt):Option Bool :=cond ((a.length:Int) != (b.length:Int)) (some false) ((loop (λc=>tY a b c) 0).bind (Sum.elim (λe =>some true) (λd=>some d)))
def nH:FL:=(188,⟨[.val false (.one (.sl zd)) false,.val false (.one (.sl zd)) false],[.val false xM (some true)],λa=>jA a.1 a.2⟩)::nG
theorem tZ:Gd nH:=xf tX 188 Tryz.f188 [(0,⟨⟨[(5,false,[dI])],[]⟩,
 ⟨[],[]⟩,some ⟨[(4,false,[dB])],[]⟩⟩)] Tryz.func188
def fu (a:xa) (b:xa):Option Bool :=cond (a.1 != b.1) (some false) (cond (a.2.1 != b.2.1) (some false) (cond (a.2.2.1 != b.2.2.1) (some false) (cond (a.2.2.2.1 != b.2.2.2.1) (some false) (cond (!(a.2.2.2.2==b.2.2.2.2)) (some false) (some true)))))
def nI:FL:=(285,⟨[.val true xv false,.val true xv false],[.val false xM (some true)],λa=>fu a.1 a.2⟩)::nH
theorem u0:Gd nI:=xf tZ 285 Tryz.f285 [] Tryz.func285
def u5 (b:List xa) (c:List xa) (a:Int):Option (Int⊕(Unit⊕Bool)) :=cond (decide (a<(b.length:Int))) ((at? b a).bind λd =>(at? c a).bind λe =>(fu d e).bind λf =>cond (!f) (some (.inr (.inr false))) (some (.inl (wZ (a+1))))) (some (.inr (.inl ())))
def jC (a:List xa) (b:List xa):Option Bool :=cond ((a.length:Int) != (b.length:Int)) (some false) ((loop (λc=>u5 a b c) 0).bind (Sum.elim (λe =>some true) (λd=>some d)))
def nJ:FL:=(189,⟨[.val false (.one (.sl xv)) false,.val false (.one (.sl xv)) false],[.val false xM (some true)],λa=>jC a.1 a.2⟩)::nI
theorem u6:Gd nJ:=xf u0 189 Tryz.f189 [(0,⟨⟨[(5,false,[dI])],[]⟩,
 ⟨[],[]⟩,some ⟨[(4,false,[dB])],[]⟩⟩)] Tryz.func189
def fv (a:xq) (b:xq):Option Bool :=cond (a.1 != b.1) (some false) (cond (a.2.1 != b.2.1) (some false) (cond (a.2.2 != b.2.2) (some false) (some true)))
def nK:FL:=(342,⟨[.val true yi false,.val true yi false],[.val false xM (some true)],λa=>fv a.1 a.2⟩)::nJ
theorem u7:Gd nK:=xf u6 342 Tryz.f342 [] Tryz.func342
def u9 (b:List xq) (c:List xq) (a:Int):Option (Int⊕(Unit⊕Bool)) :=cond (decide (a<(b.length:Int))) ((at? b a).bind λd =>(at? c a).bind λe =>(fv d e).bind λf =>cond (!f) (some (.inr (.inr false))) (some (.inl (wZ (a+1))))) (some (.inr (.inl ())))
def jD (a:List xq) (b:List xq):Option Bool :=cond ((a.length:Int) != (b.length:Int)) (some false) ((loop (λc=>u9 a b c) 0).bind (Sum.elim (λe =>some true) (λd=>some d)))
def nL:FL:=(286,⟨[.val false (.one (.sl yi)) false,.val false (.one (.sl yi)) false],[.val false xM (some true)],λa=>jD a.1 a.2⟩)::nK
theorem ua:Gd nL:=xf u7 286 Tryz.f286 [(0,⟨⟨[(5,false,[dI])],[]⟩,
 ⟨[],[]⟩,some ⟨[(4,false,[dB])],[]⟩⟩)] Tryz.func286
def ub (b:List Int) (c:List Int) (a:Int):Option (Int⊕(Unit⊕Bool)) :=cond (decide (a<(b.length:Int))) ((at? b a).bind λd =>(at? c a).bind λe =>cond (d != e) (some (.inr (.inr false))) (some (.inl (wZ (a+1))))) (some (.inr (.inl ())))
def fw (a:List Int) (b:List Int):Option Bool :=cond ((a.length:Int) != (b.length:Int)) (some false) ((loop (λc=>ub a b c) 0).bind (Sum.elim (λe =>some true) (λd=>some d)))
def nM:FL:=(287,⟨[.val false zm false,.val false zm false],[.val false xM (some true)],λa=>fw a.1 a.2⟩)::nL
theorem uc:Gd nM:=xf ua 287 Tryz.f287 [(0,⟨⟨[(5,false,[dI])],[]⟩,
 ⟨[],[]⟩,some ⟨[(4,false,[dB])],[]⟩⟩)] Tryz.func287
def gZ (a:yl) (b:yl):Option Bool :=(jD a.1 b.1).bind λc =>cond (!c) (some false) ((fw a.2 b.2).bind λd =>cond (!d) (some false) (some true))
def nN:FL:=(190,⟨[.val true zi false,.val true zi false],[.val false xM (some true)],λa=>gZ a.1 a.2⟩)::nM
theorem ud:Gd nN:=xf uc 190 Tryz.f190 [] Tryz.func190
def fx (a:wY) (b:wY):Option Bool :=cond (a.1 != b.1) (some false) (cond (!(a.2.1==b.2.1)) (some false) ((jA a.2.2.1 b.2.2.1).bind λc =>cond (!c) (some false) ((jC a.2.2.2.1 b.2.2.2.1).bind λd =>cond (!d) (some false) ((gZ (a.2.2.2.2.1,a.2.2.2.2.2.1) (b.2.2.2.2.1,b.2.2.2.2.2.1)).bind λe =>cond (!e) (some false) (cond (a.2.2.2.2.2.2.1 != b.2.2.2.2.2.2.1) (some false) (cond (a.2.2.2.2.2.2.2.1 != b.2.2.2.2.2.2.2.1) (some false) (cond (a.2.2.2.2.2.2.2.2.1 != b.2.2.2.2.2.2.2.2.1) (some false) (cond (a.2.2.2.2.2.2.2.2.2.1 != b.2.2.2.2.2.2.2.2.2.1) (some false) (cond (a.2.2.2.2.2.2.2.2.2.2 != b.2.2.2.2.2.2.2.2.2.2) (some false) (some true))))))))))
def nO:FL:=(111,⟨[.val true xl false,.val true xl false],[.val false xM (some true)],λa=>fx a.1 a.2⟩)::nN
theorem ue:Gd nO:=xf ud 111 Tryz.f111 [] Tryz.func111
def uf (b:List Int) (c:List Int) (a:Int):Option (Int⊕(Unit⊕Bool)) :=cond (decide (a<(b.length:Int))) ((at? b a).bind λd =>(at? c a).bind λe =>cond (d != e) (some (.inr (.inr false))) (some (.inl (wZ (a+1))))) (some (.inr (.inl ())))
def eW (a:List Int) (b:List Int):Option Bool :=cond ((a.length:Int) != (b.length:Int)) (some false) ((loop (λc=>uf a b c) 0).bind (Sum.elim (λe =>some true) (λd=>some d)))
def nP:FL:=(94,⟨[.val false yF false,.val false yF false],[.val false xM (some true)],λa=>eW a.1 a.2⟩)::nO
theorem ug:Gd nP:=xf ue 94 Tryz.f94 [(0,⟨⟨[(5,false,[dI])],[]⟩,
 ⟨[],[]⟩,some ⟨[(4,false,[dB])],[]⟩⟩)] Tryz.func94
def hC (a:A6) (b:A6):Option Bool :=cond (a.1 != b.1) (some false) (cond (a.2.1 != b.2.1) (some false) (cond (!(a.2.2.1==b.2.2.1)) (some false) ((fw a.2.2.2 b.2.2.2).bind λc =>cond (!c) (some false) (some true))))
def nQ:FL:=(370,⟨[.val true Bb false,.val true Bb false],[.val false xM (some true)],λa=>hC a.1 a.2⟩)::nP
theorem uh:Gd nQ:=xf ug 370 Tryz.f370 [] Tryz.func370
def fy (a:x7) (b:x7):Option Bool :=(fw a.1 b.1).bind λc =>cond (!c) (some false) ((hC a.2 b.2).bind λd =>cond (!d) (some false) (some true))
def nR:FL:=(343,⟨[.val true xp false,.val true xp false],[.val false xM (some true)],λa=>fy a.1 a.2⟩)::nQ
theorem ui:Gd nR:=xf uh 343 Tryz.f343 [] Tryz.func343
def uj (b:List x7) (c:List x7) (a:Int):Option (Int⊕(Unit⊕Bool)) :=cond (decide (a<(b.length:Int))) ((at? b a).bind λd =>(at? c a).bind λe =>(fy d e).bind λf =>cond (!f) (some (.inr (.inr false))) (some (.inl (wZ (a+1))))) (some (.inr (.inl ())))
def jE (a:List x7) (b:List x7):Option Bool :=cond ((a.length:Int) != (b.length:Int)) (some false) ((loop (λc=>uj a b c) 0).bind (Sum.elim (λe =>some true) (λd=>some d)))
def nS:FL:=(288,⟨[.val false (.one (.sl xp)) false,.val false (.one (.sl xp)) false],[.val false xM (some true)],λa=>jE a.1 a.2⟩)::nR
theorem uk:Gd nS:=xf ui 288 Tryz.f288 [(0,⟨⟨[(5,false,[dI])],[]⟩,
 ⟨[],[]⟩,some ⟨[(4,false,[dB])],[]⟩⟩)] Tryz.func288
def fA (a:xE) (b:xE):Option Bool :=cond (a.1 != b.1) (some false) (cond (a.2.1 != b.2.1) (some false) (cond (a.2.2.1 != b.2.2.1) (some false) (cond (a.2.2.2.1 != b.2.2.2.1) (some false) ((jE a.2.2.2.2 b.2.2.2.2).bind λc =>cond (!c) (some false) (some true)))))
def nT:FL:=(192,⟨[.val true zo false,.val true zo false],[.val false xM (some true)],λa=>fA a.1 a.2⟩)::nS
theorem ul:Gd nT:=xf uk 192 Tryz.f192 [] Tryz.func192
def fB (a:xH) (b:xH):Option Bool :=cond (a.1 != b.1) (some false) ((eW a.2.1 b.2.1).bind λc =>cond (!c) (some false) (cond (a.2.2.1 != b.2.2.1) (some false) ((fA (a.2.2.2.1,a.2.2.2.2.1,a.2.2.2.2.2.1,a.2.2.2.2.2.2.1,a.2.2.2.2.2.2.2.1) (b.2.2.2.1,b.2.2.2.2.1,b.2.2.2.2.2.1,b.2.2.2.2.2.2.1,b.2.2.2.2.2.2.2.1)).bind λd =>cond (!d) (some false) ((fx (a.2.2.2.2.2.2.2.2.1,a.2.2.2.2.2.2.2.2.2.1,a.2.2.2.2.2.2.2.2.2.2.1,a.2.2.2.2.2.2.2.2.2.2.2.1,a.2.2.2.2.2.2.2.2.2.2.2.2.1,a.2.2.2.2.2.2.2.2.2.2.2.2.2.1,a.2.2.2.2.2.2.2.2.2.2.2.2.2.2.1,a.2.2.2.2.2.2.2.2.2.2.2.2.2.2.2.1,a.2.2.2.2.2.2.2.2.2.2.2.2.2.2.2.2.1,a.2.2.2.2.2.2.2.2.2.2.2.2.2.2.2.2.2.1,a.2.2.2.2.2.2.2.2.2.2.2.2.2.2.2.2.2.2.1) (b.2.2.2.2.2.2.2.2.1,b.2.2.2.2.2.2.2.2.2.1,b.2.2.2.2.2.2.2.2.2.2.1,b.2.2.2.2.2.2.2.2.2.2.2.1,b.2.2.2.2.2.2.2.2.2.2.2.2.1,b.2.2.2.2.2.2.2.2.2.2.2.2.2.1,b.2.2.2.2.2.2.2.2.2.2.2.2.2.2.1,b.2.2.2.2.2.2.2.2.2.2.2.2.2.2.2.1,b.2.2.2.2.2.2.2.2.2.2.2.2.2.2.2.2.1,b.2.2.2.2.2.2.2.2.2.2.2.2.2.2.2.2.2.1,b.2.2.2.2.2.2.2.2.2.2.2.2.2.2.2.2.2.2.1)).bind λe =>cond (!e) (some false) (cond (a.2.2.2.2.2.2.2.2.2.2.2.2.2.2.2.2.2.2.2.1 != b.2.2.2.2.2.2.2.2.2.2.2.2.2.2.2.2.2.2.2.1) (some false) (cond (a.2.2.2.2.2.2.2.2.2.2.2.2.2.2.2.2.2.2.2.2 != b.2.2.2.2.2.2.2.2.2.2.2.2.2.2.2.2.2.2.2.2) (some false) (some true)))))))
def nU:FL:=(191,⟨[.val true z6 false,.val true z6 false],[.val false xM (some true)],λa=>fB a.1 a.2⟩)::nT
theorem um:Gd nU:=xf ul 191 Tryz.f191 [] Tryz.func191
def un (b:List xH) (c:List xH) (a:Int):Option (Int⊕(Unit⊕Bool)) :=cond (decide (a<(b.length:Int))) ((at? b a).bind λd =>(at? c a).bind λe =>(fB d e).bind λf =>cond (!f) (some (.inr (.inr false))) (some (.inl (wZ (a+1))))) (some (.inr (.inl ())))
def jF (a:List xH) (b:List xH):Option Bool :=cond ((a.length:Int) != (b.length:Int)) (some false) ((loop (λc=>un a b c) 0).bind (Sum.elim (λe =>some true) (λd=>some d)))
def nV:FL:=(112,⟨[.val false (.one (.sl z6)) false,.val false (.one (.sl z6)) false],[.val false xM (some true)],λa=>jF a.1 a.2⟩)::nU
theorem uo:Gd nV:=xf um 112 Tryz.f112 [(0,⟨⟨[(5,false,[dI])],[]⟩,
 ⟨[],[]⟩,some ⟨[(4,false,[dB])],[]⟩⟩)] Tryz.func112
def cH (a:xk) (b:xk):Option Bool :=(fx (a.1,a.2.1,a.2.2.1,a.2.2.2.1,a.2.2.2.2.1,a.2.2.2.2.2.1,a.2.2.2.2.2.2.1,a.2.2.2.2.2.2.2.1,a.2.2.2.2.2.2.2.2.1,a.2.2.2.2.2.2.2.2.2.1,a.2.2.2.2.2.2.2.2.2.2.1) (b.1,b.2.1,b.2.2.1,b.2.2.2.1,b.2.2.2.2.1,b.2.2.2.2.2.1,b.2.2.2.2.2.2.1,b.2.2.2.2.2.2.2.1,b.2.2.2.2.2.2.2.2.1,b.2.2.2.2.2.2.2.2.2.1,b.2.2.2.2.2.2.2.2.2.2.1)).bind λc =>cond (!c) (some false) (cond (!(a.2.2.2.2.2.2.2.2.2.2.2.1==b.2.2.2.2.2.2.2.2.2.2.2.1)) (some false) ((jF a.2.2.2.2.2.2.2.2.2.2.2.2.1 b.2.2.2.2.2.2.2.2.2.2.2.2.1).bind λd =>cond (!d) (some false) (cond (a.2.2.2.2.2.2.2.2.2.2.2.2.2.1 != b.2.2.2.2.2.2.2.2.2.2.2.2.2.1) (some false) (cond (a.2.2.2.2.2.2.2.2.2.2.2.2.2.2 != b.2.2.2.2.2.2.2.2.2.2.2.2.2.2) (some false) (some true)))))
def nW:FL:=(33,⟨[.val true xL false,.val true xL false],[.val false xM (some true)],λa=>cH a.1 a.2⟩)::nV
theorem uq:Gd nW:=xf uo 33 Tryz.f33 [] Tryz.func33
def fC (a:xX) (b:xX):Option Bool :=cond (a.1 != b.1) (some false) ((fA a.2 b.2).bind λc =>cond (!c) (some false) (some true))
def nX:FL:=(113,⟨[.val true zK false,.val true zK false],[.val false xM (some true)],λa=>fC a.1 a.2⟩)::nW
theorem ur:Gd nX:=xf uq 113 Tryz.f113 [] Tryz.func113
def ut (b:List xX) (c:List xX) (a:Int):Option (Int⊕(Unit⊕Bool)) :=cond (decide (a<(b.length:Int))) ((at? b a).bind λd =>(at? c a).bind λe =>(fC d e).bind λf =>cond (!f) (some (.inr (.inr false))) (some (.inl (wZ (a+1))))) (some (.inr (.inl ())))
def ff (a:List xX) (b:List xX):Option Bool :=cond ((a.length:Int) != (b.length:Int)) (some false) ((loop (λc=>ut a b c) 0).bind (Sum.elim (λe =>some true) (λd=>some d)))
def nY:FL:=(34,⟨[.val false (.one (.sl zK)) false,.val false (.one (.sl zK)) false],[.val false xM (some true)],λa=>ff a.1 a.2⟩)::nX
theorem uu:Gd nY:=xf ur 34 Tryz.f34 [(0,⟨⟨[(5,false,[dI])],[]⟩,
 ⟨[],[]⟩,some ⟨[(4,false,[dB])],[]⟩⟩)] Tryz.func34
def hN (a:Int) (b:List UInt8):Option ((Int×List UInt8)⊕(List UInt8)) :=cond (decide (a>0)) ((Nh (yq [IntKind.u8.wrap (wZ (48+(a.tmod 10)))]) b).bind λc =>some (.inl (wZ (a.tdiv 10),c))) (some (.inr b))
def cE (a:Int):Option (List UInt8) :=cond (decide (a<=0)) (some [109,48]) ((loop (λb=>hN b.1 b.2) (a,[])).bind λc =>(Nh [109] c).bind λd =>some d)
def nZ:FL:=(163,⟨[.val false xb false],[.val false TZ (some true)],λa=>cE a⟩)::nY
theorem uv:Gd nZ:=xf uu 163 Tryz.f163 [(0,⟨⟨[(0,false,[dI]),(3,false,[dS])],[]⟩,
 ⟨[(3,false,[dS])],[]⟩,none⟩)] Tryz.func163
def hU (b:List Pt) (c:Int) (a:Int):Option ((Int×Int)⊕(Int⊕Int)) :=cond (decide (a<(b.length:Int))) ((at? b a).bind λg =>cond (!(g.1==((c.tmod 3)==0))) (some (.inr (.inr (-1)))) ((at? b a).bind λh =>cond (h.2.1 != (wZ (c+1))) (some (.inr (.inr (-1)))) (let d:=wZ ((wZ (c+1))+1); (at? b a).bind λi =>cond (!(i.2.2.1==((d.tmod 3)==0))) (some (.inr (.inr (-1)))) ((at? b a).bind λj =>cond (j.2.2.2.1 != (wZ (d+1))) (some (.inr (.inr (-1)))) (let e:=wZ ((wZ (d+1))+1); (at? b a).bind λk =>cond (k.2.2.2.2.1 != e) (some (.inr (.inr (-1)))) ((at? b a).bind λl =>cond (l.2.2.2.2.2.1 != (wZ (e+1))) (some (.inr (.inr (-1)))) (let f:=wZ ((wZ (e+1))+1); (at? b a).bind λm =>cond (m.2.2.2.2.2.2.1 != f) (some (.inr (.inr (-1)))) ((at? b a).bind λn =>cond (n.2.2.2.2.2.2.2 != (wZ (f+1))) (some (.inr (.inr (-1)))) (let o:=wZ ((wZ (f+1))+1); some (.inl (o,wZ (a+1)))))))))))) (some (.inr (.inl c)))
def fD (b:List Pt) (c:Int):Option Int :=(loop (λa=>hU b a.1 a.2) (c,0)).bind (Sum.elim (λd =>some d) (λe=>some e))
def o4:FL:=(168,⟨[.val false (.one (.sl zd)) false,.val false xb false],[.val false xb (some true)],λa=>fD a.1 a.2⟩)::nZ
theorem uw:Gd o4:=xf uv 168 Tryz.f168 [(0,⟨⟨[(1,false,[dI]),(5,false,[dI])],[]⟩,
 ⟨[(1,false,[dI])],[]⟩,some ⟨[(4,false,[dI])],[]⟩⟩)] Tryz.func168
def hZ (b:List xa) (c:Int) (a:Int):Option ((Int×Int)⊕(Int⊕Int)) :=cond (decide (a<(b.length:Int))) ((at? b a).bind λf =>cond (f.1 != c) (some (.inr (.inr (-1)))) ((at? b a).bind λg =>cond (g.2.1 != (wZ (c+1))) (some (.inr (.inr (-1)))) (let d:=wZ ((wZ (c+1))+1); (at? b a).bind λh =>cond (h.2.2.1 != d) (some (.inr (.inr (-1)))) ((at? b a).bind λi =>cond (i.2.2.2.1 != (wZ (d+1))) (some (.inr (.inr (-1)))) (let e:=wZ ((wZ (d+1))+1); (at? b a).bind λj =>cond (!(j.2.2.2.2==((e.tmod 3)==0))) (some (.inr (.inr (-1)))) (some (.inl (wZ (e+1),wZ (a+1))))))))) (some (.inr (.inl c)))
def fE (b:List xa) (c:Int):Option Int :=(loop (λa=>hZ b a.1 a.2) (c,0)).bind (Sum.elim (λd =>some d) (λe=>some e))
def o5:FL:=(169,⟨[.val false (.one (.sl xv)) false,.val false xb false],[.val false xb (some true)],λa=>fE a.1 a.2⟩)::o4
theorem ux:Gd o5:=xf uw 169 Tryz.f169 [(0,⟨⟨[(1,false,[dI]),(5,false,[dI])],[]⟩,
 ⟨[(1,false,[dI])],[]⟩,some ⟨[(4,false,[dI])],[]⟩⟩)] Tryz.func169
def i0 (b:List xq) (c:Int) (a:Int):Option ((Int×Int)⊕(Int⊕Int)) :=cond (decide (a<(b.length:Int))) ((at? b a).bind λe =>cond (e.1 != c) (some (.inr (.inr (-1)))) ((at? b a).bind λf =>cond (f.2.1 != (wZ (c+1))) (some (.inr (.inr (-1)))) (let d:=wZ ((wZ (c+1))+1); (at? b a).bind λg =>cond (g.2.2 != d) (some (.inr (.inr (-1)))) (some (.inl (wZ (d+1),wZ (a+1))))))) (some (.inr (.inl c)))
def fF (b:List xq) (c:Int):Option Int :=(loop (λa=>i0 b a.1 a.2) (c,0)).bind (Sum.elim (λd =>some d) (λe=>some e))
def o7:FL:=(170,⟨[.val false (.one (.sl yi)) false,.val false xb false],[.val false xb (some true)],λa=>fF a.1 a.2⟩)::o5
theorem uy:Gd o7:=xf ux 170 Tryz.f170 [(0,⟨⟨[(1,false,[dI]),(5,false,[dI])],[]⟩,
 ⟨[(1,false,[dI])],[]⟩,some ⟨[(4,false,[dI])],[]⟩⟩)] Tryz.func170
def ia (c:List Int) (a:Int) (b:Int):Option ((Int×Int)⊕(Int⊕Int)) :=cond (decide (b<(c.length:Int))) ((at? c b).bind λd =>cond (d != a) (some (.inr (.inr (-1)))) (some (.inl (wZ (a+1),wZ (b+1))))) (some (.inr (.inl a)))
def cI (b:List Int) (c:Int):Option Int :=(loop (λa=>ia b a.1 a.2) (c,0)).bind (Sum.elim (λd =>some d) (λe=>some e))
def o8:FL:=(171,⟨[.val false zm false,.val false xb false],[.val false xb (some true)],λa=>cI a.1 a.2⟩)::o7
theorem uz:Gd o8:=xf uy 171 Tryz.f171 [(0,⟨⟨[(1,false,[dI]),(5,false,[dI])],[]⟩,
 ⟨[(1,false,[dI])],[]⟩,some ⟨[(4,false,[dI])],[]⟩⟩)] Tryz.func171
def jG (a:yl) (d:Int):Option Int :=(fF a.1 d).bind λb =>cond (decide (b<0)) (some (-1)) ((cI a.2 b).bind λc =>cond (decide (c<0)) (some (-1)) (some c))
def o9:FL:=(194,⟨[.val true zi false,.val false xb false],[.val false xb (some true)],λa=>jG a.1 a.2⟩)::o8
theorem uA:Gd o9:=xf uz 194 Tryz.f194 [] Tryz.func194
def jH (a:wY) (e:Int):Option Int :=(fD a.2.2.1 e).bind λb =>cond (decide (b<0)) (some (-1)) ((fE a.2.2.2.1 b).bind λc =>cond (decide (c<0)) (some (-1)) ((jG (a.2.2.2.2.1,a.2.2.2.2.2.1) c).bind λd =>cond (decide (d<0)) (some (-1)) (some d)))
def oa:FL:=(117,⟨[.val true xl false,.val false xb false],[.val false xb (some true)],λa=>jH a.1 a.2⟩)::o9
theorem uB:Gd oa:=xf uA 117 Tryz.f117 [] Tryz.func117
def ib (c:List Int) (a:Int) (b:Int):Option ((Int×Int)⊕(Int⊕Int)) :=cond (decide (b<(c.length:Int))) ((at? c b).bind λd =>cond (d != (IntKind.u8.wrap (a))) (some (.inr (.inr (-1)))) (some (.inl (wZ (a+1),wZ (b+1))))) (some (.inr (.inl a)))
def fG (b:List Int) (c:Int):Option Int :=(loop (λa=>ib b a.1 a.2) (c,0)).bind (Sum.elim (λd =>some d) (λe=>some e))
def ob:FL:=(102,⟨[.val false yF false,.val false xb false],[.val false xb (some true)],λa=>fG a.1 a.2⟩)::oa
theorem uC:Gd ob:=xf uB 102 Tryz.f102 [(0,⟨⟨[(1,false,[dI]),(5,false,[dI])],[]⟩,
 ⟨[(1,false,[dI])],[]⟩,some ⟨[(4,false,[dI])],[]⟩⟩)] Tryz.func102
def ic (b:List x7) (d:Int) (a:Int):Option ((Int×Int)⊕(Int⊕Int)) :=cond (decide (a<(b.length:Int))) ((at? b a).bind λg =>(cI g.1 d).bind λc =>cond (decide (c<0)) (some (.inr (.inr (-1)))) ((at? b a).bind λh =>cond (h.2.1 != c) (some (.inr (.inr (-1)))) ((at? b a).bind λi =>cond (i.2.2.1 != (wZ (c+1))) (some (.inr (.inr (-1)))) (let e:=wZ ((wZ (c+1))+1); (at? b a).bind λj =>(cE e).bind λk =>cond (!(j.2.2.2.1==k)) (some (.inr (.inr (-1)))) ((at? b a).bind λl =>(cI l.2.2.2.2 (wZ (e+1))).bind λf =>cond (decide (f<0)) (some (.inr (.inr (-1)))) (some (.inl (f,wZ (a+1))))))))) (some (.inr (.inl d)))
def fH (b:List x7) (c:Int):Option Int :=(loop (λa=>ic b a.1 a.2) (c,0)).bind (Sum.elim (λd =>some d) (λe=>some e))
def oc:FL:=(119,⟨[.val false (.one (.sl xp)) false,.val false xb false],[.val false xb (some true)],λa=>fH a.1 a.2⟩)::ob
theorem uD:Gd oc:=xf uC 119 Tryz.f119 [(0,⟨⟨[(1,false,[dI]),(5,false,[dI])],[]⟩,
 ⟨[(1,false,[dI])],[]⟩,some ⟨[(4,false,[dI])],[]⟩⟩)] Tryz.func119
def ie (b:List xH) (f:Int) (a:Int):Option ((Int×Int)⊕(Int⊕Int)) :=cond (decide (a<(b.length:Int))) ((at? b a).bind λo =>cond (o.1 != f) (some (.inr (.inr (-1)))) ((at? b a).bind λp =>(fG p.2.1 (wZ (f+1))).bind λc =>cond (decide (c<0)) (some (.inr (.inr (-1)))) ((at? b a).bind λq =>cond (q.2.2.1 != c) (some (.inr (.inr (-1)))) ((at? b a).bind λr =>cond (r.2.2.2.1 != (wZ (c+1))) (some (.inr (.inr (-1)))) (let g:=wZ ((wZ (c+1))+1); (at? b a).bind λs =>cond (s.2.2.2.2.1 != g) (some (.inr (.inr (-1)))) ((at? b a).bind λt =>cond (t.2.2.2.2.2.1 != (wZ (g+1))) (some (.inr (.inr (-1)))) (let j:=wZ ((wZ (g+1))+1); (at? b a).bind λu =>cond (u.2.2.2.2.2.2.1 != j) (some (.inr (.inr (-1)))) ((at? b a).bind λv =>(fH v.2.2.2.2.2.2.2.1 (wZ (j+1))).bind λd =>cond (decide (d<0)) (some (.inr (.inr (-1)))) ((at? b a).bind λw =>cond (w.2.2.2.2.2.2.2.2.1 != d) (some (.inr (.inr (-1)))) ((at? b a).bind λx =>(cE (wZ (d+1))).bind λy =>cond (!(x.2.2.2.2.2.2.2.2.2.1==y)) (some (.inr (.inr (-1)))) (let z:=wZ ((wZ (d+1))+1); (at? b a).bind λA =>(fD A.2.2.2.2.2.2.2.2.2.2.1 z).bind λk =>cond (decide (k<0)) (some (.inr (.inr (-1)))) ((at? b a).bind λB =>(fE B.2.2.2.2.2.2.2.2.2.2.2.1 k).bind λl =>cond (decide (l<0)) (some (.inr (.inr (-1)))) ((at? b a).bind λC =>(fF C.2.2.2.2.2.2.2.2.2.2.2.2.1 l).bind λm =>cond (decide (m<0)) (some (.inr (.inr (-1)))) ((at? b a).bind λD =>(cI D.2.2.2.2.2.2.2.2.2.2.2.2.2.1 m).bind λe =>cond (decide (e<0)) (some (.inr (.inr (-1)))) ((at? b a).bind λE =>cond (E.2.2.2.2.2.2.2.2.2.2.2.2.2.2.1 != e) (some (.inr (.inr (-1)))) ((at? b a).bind λF =>cond (F.2.2.2.2.2.2.2.2.2.2.2.2.2.2.2.1 != (wZ (e+1))) (some (.inr (.inr (-1)))) (let h:=wZ ((wZ (e+1))+1); (at? b a).bind λG =>cond (G.2.2.2.2.2.2.2.2.2.2.2.2.2.2.2.2.1 != h) (some (.inr (.inr (-1)))) ((at? b a).bind λH =>cond (H.2.2.2.2.2.2.2.2.2.2.2.2.2.2.2.2.2.1 != (wZ (h+1))) (some (.inr (.inr (-1)))) (let i:=wZ ((wZ (h+1))+1); (at? b a).bind λI =>cond (I.2.2.2.2.2.2.2.2.2.2.2.2.2.2.2.2.2.2.1 != i) (some (.inr (.inr (-1)))) ((at? b a).bind λJ =>cond (J.2.2.2.2.2.2.2.2.2.2.2.2.2.2.2.2.2.2.2.1 != (wZ (i+1))) (some (.inr (.inr (-1)))) (let n:=wZ ((wZ (i+1))+1); (at? b a).bind λK =>cond (K.2.2.2.2.2.2.2.2.2.2.2.2.2.2.2.2.2.2.2.2 != n) (some (.inr (.inr (-1)))) (some (.inl (wZ (n+1),wZ (a+1))))))))))))))))))))))))) (some (.inr (.inl f)))
def ig (b:List xH) (c:Int):Option Int :=(loop (λa=>ie b a.1 a.2) (c,0)).bind (Sum.elim (λd =>some d) (λe=>some e))
def od:FL:=(118,⟨[.val false (.one (.sl z6)) false,.val false xb false],[.val false xb (some true)],λa=>ig a.1 a.2⟩)::oc
theorem uE:Gd od:=xf uD 118 Tryz.f118 [(0,⟨⟨[(1,false,[dI]),(5,false,[dI])],[]⟩,
 ⟨[(1,false,[dI])],[]⟩,some ⟨[(4,false,[dI])],[]⟩⟩)] Tryz.func118
def fg (a:xk) (d:Int):Option Int :=(jH (a.1,a.2.1,a.2.2.1,a.2.2.2.1,a.2.2.2.2.1,a.2.2.2.2.2.1,a.2.2.2.2.2.2.1,a.2.2.2.2.2.2.2.1,a.2.2.2.2.2.2.2.2.1,a.2.2.2.2.2.2.2.2.2.1,a.2.2.2.2.2.2.2.2.2.2.1) d).bind λb =>cond (decide (b<0)) (some (-1)) ((ig a.2.2.2.2.2.2.2.2.2.2.2.2.1 b).bind λc =>cond (decide (c<0)) (some (-1)) (some c))
def oe:FL:=(37,⟨[.val true xL false,.val false xb false],[.val false xb (some true)],λa=>fg a.1 a.2⟩)::od
theorem uF:Gd oe:=xf uE 37 Tryz.f37 [] Tryz.func37
def ii (b:List xX) (c:Int) (a:Int):Option ((Int×Int)⊕(Int⊕Int)) :=cond (decide (a<(b.length:Int))) ((at? b a).bind λg =>cond (g.1 != c) (some (.inr (.inr (-1)))) ((at? b a).bind λh =>cond (h.2.1 != (wZ (c+1))) (some (.inr (.inr (-1)))) (let d:=wZ ((wZ (c+1))+1); (at? b a).bind λi =>cond (i.2.2.1 != d) (some (.inr (.inr (-1)))) ((at? b a).bind λj =>cond (j.2.2.2.1 != (wZ (d+1))) (some (.inr (.inr (-1)))) (let e:=wZ ((wZ (d+1))+1); (at? b a).bind λk =>cond (k.2.2.2.2.1 != e) (some (.inr (.inr (-1)))) ((at? b a).bind λl =>(fH l.2.2.2.2.2 (wZ (e+1))).bind λf =>cond (decide (f<0)) (some (.inr (.inr (-1)))) (some (.inl (f,wZ (a+1)))))))))) (some (.inr (.inl c)))
def fi (b:List xX) (c:Int):Option Int :=(loop (λa=>ii b a.1 a.2) (c,0)).bind (Sum.elim (λd =>some d) (λe=>some e))
def og:FL:=(38,⟨[.val false (.one (.sl zK)) false,.val false xb false],[.val false xb (some true)],λa=>fi a.1 a.2⟩)::oe
theorem uG:Gd og:=xf uF 38 Tryz.f38 [(0,⟨⟨[(1,false,[dI]),(5,false,[dI])],[]⟩,
 ⟨[(1,false,[dI])],[]⟩,some ⟨[(4,false,[dI])],[]⟩⟩)] Tryz.func38
def eX (a:zc) (b:zc):Option Bool :=cond (a.1 != b.1) (some false) (cond (a.2.1 != b.2.1) (some false) (cond (a.2.2.1 != b.2.2.1) (some false) ((eW a.2.2.2 b.2.2.2).bind λc =>cond (!c) (some false) (some true))))
def oh:FL:=(23,⟨[.val true Am false,.val true Am false],[.val false xM (some true)],λa=>eX a.1 a.2⟩)::og
theorem uH:Gd oh:=xf uG 23 Tryz.f23 [] Tryz.func23
def fJ (a:xC) (b:xC):Option Bool :=cond (a.1 != b.1) (some false) ((eX a.2 b.2).bind λc =>cond (!c) (some false) (some true))
def oi:FL:=(125,⟨[.val true An false,.val true An false],[.val false xM (some true)],λa=>fJ a.1 a.2⟩)::oh
theorem uI:Gd oi:=xf uH 125 Tryz.f125 [] Tryz.func125
def uJ (b:List xC) (c:List xC) (a:Int):Option (Int⊕(Unit⊕Bool)) :=cond (decide (a<(b.length:Int))) ((at? b a).bind λd =>(at? c a).bind λe =>(fJ d e).bind λf =>cond (!f) (some (.inr (.inr false))) (some (.inl (wZ (a+1))))) (some (.inr (.inl ())))
def fe (a:List xC) (b:List xC):Option Bool :=cond ((a.length:Int) != (b.length:Int)) (some false) ((loop (λc=>uJ a b c) 0).bind (Sum.elim (λe =>some true) (λd=>some d)))
def oj:FL:=(44,⟨[.val false (.one (.sl An)) false,.val false (.one (.sl An)) false],[.val false xM (some true)],λa=>fe a.1 a.2⟩)::oi
theorem uK:Gd oj:=xf uI 44 Tryz.f44 [(0,⟨⟨[(5,false,[dI])],[]⟩,
 ⟨[],[]⟩,some ⟨[(4,false,[dB])],[]⟩⟩)] Tryz.func44
def ij (b:List xC) (c:Int) (a:Int):Option ((Int×Int)⊕(Int⊕Int)) :=cond (decide (a<(b.length:Int))) ((at? b a).bind λf =>cond (f.1 != c) (some (.inr (.inr (-1)))) ((at? b a).bind λg =>cond (g.2.1 != (wZ (c+1))) (some (.inr (.inr (-1)))) (let d:=wZ ((wZ (c+1))+1); (at? b a).bind λh =>cond (h.2.2.1 != d) (some (.inr (.inr (-1)))) ((at? b a).bind λi =>cond (i.2.2.2.1 != (wZ (d+1))) (some (.inr (.inr (-1)))) (let j:=wZ ((wZ (d+1))+1); (at? b a).bind λk =>(fG k.2.2.2.2 j).bind λe =>cond (decide (e<0)) (some (.inr (.inr (-1)))) (some (.inl (e,wZ (a+1))))))))) (some (.inr (.inl c)))
def fh (b:List xC) (c:Int):Option Int :=(loop (λa=>ij b a.1 a.2) (c,0)).bind (Sum.elim (λd =>some d) (λe=>some e))
def om:FL:=(48,⟨[.val false (.one (.sl An)) false,.val false xb false],[.val false xb (some true)],λa=>fh a.1 a.2⟩)::oj
theorem uL:Gd om:=xf uK 48 Tryz.f48 [(0,⟨⟨[(1,false,[dI]),(5,false,[dI])],[]⟩,
 ⟨[(1,false,[dI])],[]⟩,some ⟨[(4,false,[dI])],[]⟩⟩)] Tryz.func48
def jI (b:zc) (c:Int):Option Int :=(fk b.2.2.2 c).bind λa =>cond (decide (a<0)) (some (-1)) (some a)
def oo:FL:=(16,⟨[.val true Am false,.val false xb false],[.val false xb (some true)],λa=>jI a.1 a.2⟩)::om
theorem uM:Gd oo:=xf uL 16 Tryz.f16 [] Tryz.func16
def il (a:Act) (d:Int):Option Int :=(fk a.2.2.2.1 d).bind λb =>cond (decide (b<0)) (some (-1)) ((jI (a.2.2.2.2.1,a.2.2.2.2.2.1,a.2.2.2.2.2.2.1,a.2.2.2.2.2.2.2.1) b).bind λc =>cond (decide (c<0)) (some (-1)) (some c))
def oq:FL:=(40,⟨[.val true zg false,.val false xb false],[.val false xb (some true)],λa=>il a.1 a.2⟩)::oo
theorem uN:Gd oq:=xf uM 40 Tryz.f40 [] Tryz.func40
def ot (b:List Act) (c:Int) (a:Int):Option ((Int×Int)⊕(Int⊕Int)) :=cond (decide (a<(b.length:Int))) ((at? b a).bind λe =>(il e c).bind λd =>cond (decide (d<0)) (some (.inr (.inr (-1)))) (some (.inl (d,wZ (a+1))))) (some (.inr (.inl c)))
def jj (a:List Act) (d:Int):Option Int :=let b:=wZ (d-(a.length:Int)); cond (decide (b<0)) (some (-1)) ((loop (λc=>ot a c.1 c.2) (b,0)).bind (Sum.elim (λe =>some e) (λf=>some f)))
def ou:FL:=(49,⟨[.val false (.one (.sl zg)) false,.val false xb false],[.val false xb (some true)],λa=>jj a.1 a.2⟩)::oq
theorem uO:Gd ou:=xf uN 49 Tryz.f49 [(0,⟨⟨[(1,false,[dI]),(5,false,[dI])],[]⟩,
 ⟨[(1,false,[dI])],[]⟩,some ⟨[(4,false,[dI])],[]⟩⟩)] Tryz.func49
def fK (a:List xa):Option (List xa) :=(app ([]:List xa) a).bind λb =>some b
def ov:FL:=(264,⟨[.val false (.one (.sl xv)) false],[.val false (.one (.sl xv)) (some true)],λa=>fK a⟩)::ou
theorem uP:Gd ov:=xf uO 264 Tryz.f264 [] Tryz.func264
def ip (a:yl):Option yl :=(app ([]:List xq) a.1).bind λb =>(app ([]:List Int) a.2).bind λc =>some (b,c)
def ow:FL:=(265,⟨[.val true zi false],[.val true zi (some true)],λa=>ip a⟩)::ov
theorem uQ:Gd ow:=xf uP 265 Tryz.f265 [] Tryz.func265
def af (a:wY):Option wY :=(app ([]:List Pt) a.2.2.1).bind λc =>(fK a.2.2.2.1).bind λd =>(ip (a.2.2.2.2.1,a.2.2.2.2.2.1)).bind λb =>some (a.1,a.2.1,c,d,b.1,b.2,a.2.2.2.2.2.2.1,a.2.2.2.2.2.2.2.1,a.2.2.2.2.2.2.2.2.1,a.2.2.2.2.2.2.2.2.2.1,a.2.2.2.2.2.2.2.2.2.2)
def ox:FL:=(176,⟨[.val true xl false],[.val true xl (some true)],λa=>af a⟩)::ow
theorem uR:Gd ox:=xf uQ 176 Tryz.f176 [] Tryz.func176
def dV (c:List x7) (a:Int) (d:List x7):Option ((Int×List x7)⊕(List x7)) :=cond (decide (a<(c.length:Int))) ((at? c a).bind λb =>(app ([]:List Int) b.2.2.2.2).bind λe =>(at? c a).bind λf =>(app ([]:List Int) f.1).bind λg =>(app d [(g,b.2.1,b.2.2.1,b.2.2.2.1,e)]).bind λh =>some (.inl (wZ (a+1),h))) (some (.inr d))
def cJ (b:List x7):Option (List x7) :=(loop (λa=>dV b a.1 a.2) (0,([]:List x7))).bind λc =>some c
def oy:FL:=(266,⟨[.val false (.one (.sl xp)) false],[.val false (.one (.sl xp)) (some true)],λa=>cJ a⟩)::ox
theorem uS:Gd oy:=xf uR 266 Tryz.f266 [(0,⟨⟨[(3,false,[.own 1000000000]),(4,false,[dI])],[(1000000000,.root xp true)]⟩,
 ⟨[(3,false,[.own 1000000300])],[(1000000300,.root xp true)]⟩,none⟩)] Tryz.func266
def fL (a:xE):Option xE :=(cJ a.2.2.2.2).bind λb =>some (a.1,a.2.1,a.2.2.1,a.2.2.2.1,b)
def oz:FL:=(177,⟨[.val true zo false],[.val true zo (some true)],λa=>fL a⟩)::oy
theorem uT:Gd oz:=xf uS 177 Tryz.f177 [] Tryz.func177
def fM (e:xk) (d:Int) (f:Int) (g:List UInt8) (h:Int) (i:Int) (j:Int) (k:Int) (l:Int) (m:List UInt8) (n:Int) (o:Int) (p:List xH):Option ((Int×Int×List UInt8×Int×Int×Int×Int×Int×List UInt8×Int×Int×List xH)⊕(Int×List UInt8×Int×Int×Int×Int×Int×List UInt8×Int×Int×List xH)) :=cond (decide (d<(e.2.2.2.2.2.2.2.2.2.2.2.2.1.length:Int))) ((at? e.2.2.2.2.2.2.2.2.2.2.2.2.1 d).bind λa =>(app ([]:List Int) a.2.1).bind λq =>(fL (a.2.2.2.1,a.2.2.2.2.1,a.2.2.2.2.2.1,a.2.2.2.2.2.2.1,a.2.2.2.2.2.2.2.1)).bind λc =>(af (a.2.2.2.2.2.2.2.2.1,a.2.2.2.2.2.2.2.2.2.1,a.2.2.2.2.2.2.2.2.2.2.1,a.2.2.2.2.2.2.2.2.2.2.2.1,a.2.2.2.2.2.2.2.2.2.2.2.2.1,a.2.2.2.2.2.2.2.2.2.2.2.2.2.1,a.2.2.2.2.2.2.2.2.2.2.2.2.2.2.1,a.2.2.2.2.2.2.2.2.2.2.2.2.2.2.2.1,a.2.2.2.2.2.2.2.2.2.2.2.2.2.2.2.2.1,a.2.2.2.2.2.2.2.2.2.2.2.2.2.2.2.2.2.1,a.2.2.2.2.2.2.2.2.2.2.2.2.2.2.2.2.2.2.1)).bind λb =>(app p [(a.1,q,a.2.2.1,c.1,c.2.1,c.2.2.1,c.2.2.2.1,c.2.2.2.2,b.1,b.2.1,b.2.2.1,b.2.2.2.1,b.2.2.2.2.1,b.2.2.2.2.2.1,b.2.2.2.2.2.2.1,b.2.2.2.2.2.2.2.1,b.2.2.2.2.2.2.2.2.1,b.2.2.2.2.2.2.2.2.2.1,b.2.2.2.2.2.2.2.2.2.2,a.2.2.2.2.2.2.2.2.2.2.2.2.2.2.2.2.2.2.2.1,a.2.2.2.2.2.2.2.2.2.2.2.2.2.2.2.2.2.2.2.2)]).bind λr =>some (.inl (wZ (d+1),f,g,h,i,j,k,l,m,n,o,r))) (some (.inr (f,g,h,i,j,k,l,m,n,o,p)))
def cj (a:xk):Option xk :=(af (a.1,a.2.1,a.2.2.1,a.2.2.2.1,a.2.2.2.2.1,a.2.2.2.2.2.1,a.2.2.2.2.2.2.1,a.2.2.2.2.2.2.2.1,a.2.2.2.2.2.2.2.2.1,a.2.2.2.2.2.2.2.2.2.1,a.2.2.2.2.2.2.2.2.2.2.1)).bind λc =>(loop (λb=>fM a b.1 b.2.1 b.2.2.1 b.2.2.2.1 b.2.2.2.2.1 b.2.2.2.2.2.1 b.2.2.2.2.2.2.1 b.2.2.2.2.2.2.2.1 b.2.2.2.2.2.2.2.2.1 b.2.2.2.2.2.2.2.2.2.1 b.2.2.2.2.2.2.2.2.2.2.1 b.2.2.2.2.2.2.2.2.2.2.2) (0,c.1,c.2.1,c.2.2.2.2.2.2.1,c.2.2.2.2.2.2.2.1,c.2.2.2.2.2.2.2.2.1,c.2.2.2.2.2.2.2.2.2.1,c.2.2.2.2.2.2.2.2.2.2,a.2.2.2.2.2.2.2.2.2.2.2.1,a.2.2.2.2.2.2.2.2.2.2.2.2.2.1,a.2.2.2.2.2.2.2.2.2.2.2.2.2.2,[])).bind λd =>some (d.1,d.2.1,c.2.2.1,c.2.2.2.1,c.2.2.2.2.1,c.2.2.2.2.2.1,d.2.2.1,d.2.2.2.1,d.2.2.2.2.1,d.2.2.2.2.2.1,d.2.2.2.2.2.2.1,d.2.2.2.2.2.2.2.1,d.2.2.2.2.2.2.2.2.2.2,d.2.2.2.2.2.2.2.2.1,d.2.2.2.2.2.2.2.2.2.1)
def oA:FL:=(105,⟨[.val true xL false],[.val true xL (some true)],λa=>cj a⟩)::oz
theorem uU:Gd oA:=xf uT 105 Tryz.f105 [(0,⟨⟨[(4,false,[dI])],[(273408,.box [dI,dS,.same 265218,.same 265219,.same 265220,.same 265221,dI,dI,dI,dI,dI,dS,.own 1000000000,dI,dI]),(1000000000,.root z6 true)]⟩,
 ⟨[],[(273408,.box [dI,dS,.same 265218,.same 265219,.same 265220,.same 265221,dI,dI,dI,dI,dI,dS,.own 1000000300,dI,dI]),(1000000300,.root z6 true)]⟩,none⟩)] Tryz.func105
def ac (a:Int) (b:Int) (c:Int):Option Bool :=(cond (decide (a>=b)) (some (decide (a<=c))) (some false)).bind λd =>some d
def oC:FL:=(107,⟨[.val false xb false,.val false xb false,.val false xb false],[.val false xM (some true)],λa=>ac a.1 a.2.1 a.2.2⟩)::oA
theorem uV:Gd oC:=xf uU 107 Tryz.f107 [] Tryz.func107
def dW (a:BR):Option Bool :=(ac a.1 1 99).bind λb =>(cond b ((ac a.2.1 0 100000).bind λc =>some c) (some false)).bind λd =>(cond d ((ac a.2.2.1 0 10).bind λe =>some e) (some false)).bind λf =>(cond f ((ac a.2.2.2.1 1 99).bind λg =>some g) (some false)).bind λh =>(cond h ((ac a.2.2.2.2 0 7).bind λi =>some i) (some false)).bind λj =>some j
def oD:FL:=(245,⟨[.val true Bo false],[.val false xM (some true)],λa=>dW a⟩)::oC
theorem uW:Gd oD:=xf uV 245 Tryz.f245 [] Tryz.func245
def fN (a:Pt):Option Bool :=(ac a.2.1 1 1000).bind λb =>(cond (!b) (some true) ((cond (!a.1) (some a.2.2.1) (some false)).bind λc =>some c)).bind λd =>cond d (some false) (cond (!a.2.2.1) (let e:=a.2.2.2.1==0&&(a.2.2.2.2.1==0&&(a.2.2.2.2.2.1==0&&(a.2.2.2.2.2.2.1==0&&(a.2.2.2.2.2.2.2==0)))); some e) ((dW a.2.2.2).bind λf =>some f))
def oE:FL:=(268,⟨[.val true zd false],[.val false xM (some true)],λa=>fN a⟩)::oD
theorem uX:Gd oE:=xf uW 268 Tryz.f268 [] Tryz.func268
def fO (a:xa):Option Bool :=(ac a.1 1 99).bind λb =>(cond b ((ac a.2.1 1 9999).bind λc =>some c) (some false)).bind λd =>(cond d ((ac a.2.2.1 0 7).bind λe =>some e) (some false)).bind λf =>(cond f ((ac a.2.2.2.1 0 4).bind λg =>some g) (some false)).bind λh =>(cond h ((cond (!a.2.2.2.2) (some true) (some (a.2.2.2.1==0))).bind λi =>some i) (some false)).bind λj =>some j
def oF:FL:=(292,⟨[.val true xv false],[.val false xM (some true)],λa=>fO a⟩)::oE
theorem uY:Gd oF:=xf uX 292 Tryz.f292 [] Tryz.func292
def ce (a:xa) (b:Int) (c:Int):Option Bool :=cond (a.1 != b) (some (decide (a.1<b))) (some (decide (a.2.1<c)))
def oG:FL:=(329,⟨[.val true xv false,.val false xb false,.val false xb false],[.val false xM (some true)],λa=>ce a.1 a.2.1 a.2.2⟩)::oF
theorem uZ:Gd oG:=xf uY 329 Tryz.f329 [] Tryz.func329
def jJ (b:List xa) (a:Int):Option (Int⊕(Unit⊕Bool)) :=cond (decide (a<(b.length:Int))) ((at? b a).bind λc =>(fO c).bind λd =>(cond (!d) (some true) ((cond (decide (a>0)) ((at? b (wZ (a-1))).bind λe =>(at? b a).bind λf =>(at? b a).bind λg =>(ce e f.1 g.2.1).bind λh =>some (!h)) (some false)).bind λi =>some i)).bind λj =>cond j (some (.inr (.inr false))) (some (.inl (wZ (a+1))))) (some (.inr (.inl ())))
def fP (a:List xa):Option Bool :=(loop (λb=>jJ a b) 0).bind (Sum.elim (λe =>let c:=decide ((a.length:Int)<=12); some c) (λd=>some d))
def oH:FL:=(269,⟨[.val false (.one (.sl xv)) false],[.val false xM (some true)],λa=>fP a⟩)::oG
theorem v5:Gd oH:=xf uZ 269 Tryz.f269 [(0,⟨⟨(3,false,[dI])::us 17 21 [],[]⟩,
 ⟨[],[]⟩,some ⟨[(2,false,[dB])],[]⟩⟩)] Tryz.func269
def v7 (b:yl) (c:Int) (a:Int):Option (Int⊕(Unit⊕Int)) :=cond (decide (a<(b.1.length:Int))) ((at? b.1 a).bind λd =>cond (d.1==c) (some (.inr (.inr a))) (some (.inl (wZ (a+1))))) (some (.inr (.inl ())))
def aP (a:yl) (b:Int):Option Int :=(loop (λc=>v7 a b c) 0).bind (Sum.elim (λe =>some (-1)) (λd=>some d))
def oI:FL:=(290,⟨[.val true zi false,.val false xb false],[.val false xb (some true)],λa=>aP a.1 a.2⟩)::oH
theorem v8:Gd oI:=xf v5 290 Tryz.f290 [(0,⟨⟨[(5,false,[dI])],[]⟩,
 ⟨[],[]⟩,some ⟨[(4,false,[dI])],[]⟩⟩)] Tryz.func290
def jK (c:yl) (d:Int) (b:Int):Option (Int⊕(Unit⊕Bool)) :=cond (decide (b<(c.1.length:Int))) ((at? c.1 b).bind λa =>(ac a.1 1 99).bind λe =>(cond (!e) (some true) ((ac a.2.1 0 (wZ (d-1))).bind λf =>some (!f))).bind λg =>(cond g (some true) ((ac a.2.2 0 (wZ (d-1))).bind λh =>some (!h))).bind λi =>(cond i (some true) (some ((zA .i64 a.2.2 a.2.1) != a.2.2))).bind λj =>(cond j (some true) ((cond (decide (b>0)) ((at? c.1 (wZ (b-1))).bind λk =>some (decide (k.1>=a.1))) (some false)).bind λl =>some l)).bind λm =>cond m (some (.inr (.inr false))) (some (.inl (wZ (b+1))))) (some (.inr (.inl ())))
def oJ (a:yl) (b:Int):Option (Int⊕(Unit⊕Bool)) :=cond (decide (b<(a.2.length:Int))) ((at? a.2 b).bind λc =>(aP a c).bind λd =>cond (decide (d<0)) (some (.inr (.inr false))) (some (.inl (wZ (b+1))))) (some (.inr (.inl ())))
def dX (a:yl) (b:Int):Option Bool :=(ac b 1 6).bind λd =>(cond (!d) (some true) (some ((a.2.length:Int) != b))).bind λe =>(cond e (some true) (some (decide ((a.1.length:Int)>6)))).bind λf =>cond f (some false) ((shl .i64 1 (IntKind.u64.wrap (b))).bind λg =>(loop (λc=>jK a g c) 0).bind (Sum.elim (λj =>(loop (λc=>oJ a c) 0).bind (Sum.elim (λk =>some true) (λh=>some h))) (λi=>some i)))
def oK:FL:=(270,⟨[.val true zi false,.val false xb false],[.val false xM (some true)],λa=>dX a.1 a.2⟩)::oI
theorem v9:Gd oK:=xf v8 270 Tryz.f270 [(0,⟨⟨(6,false,[dI])::us 46 5 (us 53 5 (us 60 8 (us 70 14 []))),[]⟩,
 ⟨[],[]⟩,some ⟨[(4,false,[dB])],[]⟩⟩),
 (2,⟨⟨[(8,false,[dI])],[]⟩,
 ⟨[],[]⟩,some ⟨[(4,false,[dB])],[]⟩⟩)] Tryz.func270
def iq (a:wY):Option Bool :=(ac a.2.2.2.2.2.2.1 0 1000000).bind λb =>(cond b ((ac a.2.2.2.2.2.2.2.1 0 1000000).bind λc =>some c) (some false)).bind λd =>(cond d ((ac a.2.2.2.2.2.2.2.2.1 0 1000000).bind λe =>some e) (some false)).bind λf =>(cond f ((ac a.2.2.2.2.2.2.2.2.2.1 0 1000000).bind λg =>some g) (some false)).bind λh =>(cond h ((ac a.2.2.2.2.2.2.2.2.2.2 0 1000000).bind λi =>some i) (some false)).bind λj =>some j
def oL:FL:=(271,⟨[.val true xl false],[.val false xM (some true)],λa=>iq a⟩)::oK
theorem va:Gd oL:=xf v9 271 Tryz.f271 [] Tryz.func271
def jL (b:wY) (a:Int):Option (Int⊕(Unit⊕Bool)) :=cond (decide (a<(b.2.2.1.length:Int))) ((at? b.2.2.1 a).bind λc =>(fN c).bind λd =>cond (!d) (some (.inr (.inr false))) (some (.inl (wZ (a+1))))) (some (.inr (.inl ())))
def aZ (a:wY):Option Bool :=(loop (λb=>jL a b) 0).bind (Sum.elim (λn =>(ac a.1 1 99).bind λc =>(cond c (some (decide ((a.2.1.length:Int)<=10))) (some false)).bind λd =>(cond d ((ac (a.2.2.1.length:Int) 1 6).bind λe =>some e) (some false)).bind λf =>(cond f ((fP a.2.2.2.1).bind λg =>some g) (some false)).bind λh =>(cond h ((dX (a.2.2.2.2.1,a.2.2.2.2.2.1) (a.2.2.1.length:Int)).bind λi =>some i) (some false)).bind λj =>(cond j ((iq a).bind λk =>some k) (some false)).bind λl =>some l) (λm=>some m))
def oM:FL:=(179,⟨[.val true xl false],[.val false xM (some true)],λa=>aZ a⟩)::oL
theorem vb:Gd oM:=xf va 179 Tryz.f179 [(0,⟨⟨[(3,false,[dI])],[]⟩,
 ⟨[],[]⟩,some ⟨[(2,false,[dB])],[]⟩⟩)] Tryz.func179
def bt (a:Int):Option Int :=cond (decide (a>2147483647)) (some 2147483647) (cond (decide (a<(-2147483648))) (some (-2147483648)) (some a))
def oN:FL:=(132,⟨[.val false xb false],[.val false xb (some true)],λa=>bt a⟩)::oM
theorem vc:Gd oN:=xf vb 132 Tryz.f132 [] Tryz.func132
def vd (b:List Int) (a:Int):Option (Int⊕(Unit⊕Bool)) :=cond (decide (a<(b.length:Int))) ((at? b a).bind λc =>(ac c 0 100000).bind λd =>cond (!d) (some (.inr (.inr false))) (some (.inl (wZ (a+1))))) (some (.inr (.inl ())))
def bJ (a:List Int):Option Bool :=(loop (λb=>vd a b) 0).bind (Sum.elim (λe =>(ac (a.length:Int) 1 10).bind λc =>some c) (λd=>some d))
def oO:FL:=(220,⟨[.val false zm false],[.val false xM (some true)],λa=>bJ a⟩)::oN
theorem ve:Gd oO:=xf vc 220 Tryz.f220 [(0,⟨⟨[(3,false,[dI])],[]⟩,
 ⟨[],[]⟩,some ⟨[(2,false,[dB])],[]⟩⟩)] Tryz.func220
def bu (a:A6):Option Bool :=cond (a.1==5) (cond (a.1==5) ((cond (a.2.1==0) (some (a.2.2.1==[])) (some false)).bind λb =>(cond b (some ((a.2.2.2.length:Int)==0)) (some false)).bind λc =>some c) (cond (a.1==2) ((bt a.2.1).bind λd =>(cond (d==a.2.1) (some (a.2.2.1==[])) (some false)).bind λe =>(cond e (some ((a.2.2.2.length:Int)==0)) (some false)).bind λf =>some f) (cond (a.1==4) ((cond (decide ((a.2.2.1.length:Int)<=20)) (some (a.2.1==0)) (some false)).bind λg =>(cond g (some ((a.2.2.2.length:Int)==0)) (some false)).bind λh =>some h) (cond (a.1==6) ((bJ a.2.2.2).bind λi =>(cond i (some (a.2.1==0)) (some false)).bind λj =>(cond j (some (a.2.2.1==[])) (some false)).bind λk =>some k) (some false))))) (cond (a.1==128) (cond (a.1==128) ((cond (a.2.1==0) (some (a.2.2.1==[])) (some false)).bind λl =>(cond l (some ((a.2.2.2.length:Int)==0)) (some false)).bind λm =>some m) (cond (a.1==2) ((bt a.2.1).bind λn =>(cond (n==a.2.1) (some (a.2.2.1==[])) (some false)).bind λo =>(cond o (some ((a.2.2.2.length:Int)==0)) (some false)).bind λp =>some p) (cond (a.1==4) ((cond (decide ((a.2.2.1.length:Int)<=20)) (some (a.2.1==0)) (some false)).bind λq =>(cond q (some ((a.2.2.2.length:Int)==0)) (some false)).bind λr =>some r) (cond (a.1==6) ((bJ a.2.2.2).bind λs =>(cond s (some (a.2.1==0)) (some false)).bind λt =>(cond t (some (a.2.2.1==[])) (some false)).bind λu =>some u) (some false))))) (cond (a.1==130) ((cond (a.2.1==0) (some (a.2.2.1==[])) (some false)).bind λv =>(cond v (some ((a.2.2.2.length:Int)==0)) (some false)).bind λw =>some w) (cond (a.1==2) ((bt a.2.1).bind λx =>(cond (x==a.2.1) (some (a.2.2.1==[])) (some false)).bind λy =>(cond y (some ((a.2.2.2.length:Int)==0)) (some false)).bind λz =>some z) (cond (a.1==4) ((cond (decide ((a.2.2.1.length:Int)<=20)) (some (a.2.1==0)) (some false)).bind λA =>(cond A (some ((a.2.2.2.length:Int)==0)) (some false)).bind λB =>some B) (cond (a.1==6) ((bJ a.2.2.2).bind λC =>(cond C (some (a.2.1==0)) (some false)).bind λD =>(cond D (some (a.2.2.1==[])) (some false)).bind λE =>some E) (some false))))))
def oP:FL:=(221,⟨[.val true Bb false],[.val false xM (some true)],λa=>bu a⟩)::oO
theorem vf:Gd oP:=xf ve 221 Tryz.f221 [] Tryz.func221
def jM (a:Int):Option Bool :=(cond (a==160) (some true) (some (a==161))).bind λb =>(cond b (some true) (some (a==162))).bind λc =>(cond c (some true) (some (a==163))).bind λd =>(cond d (some true) (some (a==165))).bind λe =>some e
def oQ:FL:=(222,⟨[.val false xb false],[.val false xM (some true)],λa=>jM a⟩)::oP
theorem vg:Gd oQ:=xf vf 222 Tryz.f222 [] Tryz.func222
def ir (b:xE) (a:Int):Option (Int⊕(Unit⊕Bool)) :=cond (decide (a<(b.2.2.2.2.length:Int))) ((at? b.2.2.2.2 a).bind λc =>(bJ c.1).bind λd =>(cond (!d) (some true) ((at? b.2.2.2.2 a).bind λe =>(bu e.2).bind λf =>some (!f))).bind λg =>cond g (some (.inr (.inr false))) (some (.inl (wZ (a+1))))) (some (.inr (.inl ())))
def bK (a:xE):Option Bool :=(loop (λb=>ir a b) 0).bind (Sum.elim (λo =>(cond (a.1 != 162) (some (a.1 != 165)) (some false)).bind λc =>(cond c ((cond (a.2.2.1 != 0) (some true) (some (a.2.2.2.1 != 0))).bind λd =>some d) (some false)).bind λe =>cond e (some false) ((jM a.1).bind λf =>(cond f ((bt a.2.1).bind λg =>some (g==a.2.1)) (some false)).bind λh =>(cond h ((ac a.2.2.1 0 1000).bind λi =>some i) (some false)).bind λj =>(cond j ((ac a.2.2.2.1 0 1000).bind λk =>some k) (some false)).bind λl =>(cond l (some (decide ((a.2.2.2.2.length:Int)<=10))) (some false)).bind λm =>some m)) (λn=>some n))
def oR:FL:=(137,⟨[.val true zo false],[.val false xM (some true)],λa=>bK a⟩)::oQ
theorem vh:Gd oR:=xf vg 137 Tryz.f137 [(0,⟨⟨(3,false,[dI])::us 20 8 [],[]⟩,
 ⟨[],[]⟩,some ⟨[(2,false,[dB])],[]⟩⟩)] Tryz.func137
def jN (a:xE):Option Bool :=(bK a).bind λb =>(cond b (some (a.1 != 162)) (some false)).bind λc =>some c
def oS:FL:=(267,⟨[.val true zo false],[.val false xM (some true)],λa=>jN a⟩)::oR
theorem vi:Gd oS:=xf vh 267 Tryz.f267 [] Tryz.func267
def fQ (a:xH) (b:Int):Option Bool :=(ac a.1 1 b).bind λc =>(cond (!c) (some true) ((ac a.2.2.1 0 2).bind λd =>some (!d))).bind λe =>(cond e (some true) ((ac a.2.2.2.2.2.2.2.2.2.2.2.2.2.2.2.2.2.2.2.2 0 3).bind λf =>some (!f))).bind λg =>(cond g (some true) ((ac a.2.2.2.2.2.2.2.2.2.2.2.2.2.2.2.2.2.2.2.1 0 (a.2.2.2.2.2.2.2.1.length:Int)).bind λh =>some (!h))).bind λi =>cond i (some false) ((cond (a.2.2.1==0) (some true) ((jN (a.2.2.2.1,a.2.2.2.2.1,a.2.2.2.2.2.1,a.2.2.2.2.2.2.1,a.2.2.2.2.2.2.2.1)).bind λj =>(cond j ((aZ (a.2.2.2.2.2.2.2.2.1,a.2.2.2.2.2.2.2.2.2.1,a.2.2.2.2.2.2.2.2.2.2.1,a.2.2.2.2.2.2.2.2.2.2.2.1,a.2.2.2.2.2.2.2.2.2.2.2.2.1,a.2.2.2.2.2.2.2.2.2.2.2.2.2.1,a.2.2.2.2.2.2.2.2.2.2.2.2.2.2.1,a.2.2.2.2.2.2.2.2.2.2.2.2.2.2.2.1,a.2.2.2.2.2.2.2.2.2.2.2.2.2.2.2.2.1,a.2.2.2.2.2.2.2.2.2.2.2.2.2.2.2.2.2.1,a.2.2.2.2.2.2.2.2.2.2.2.2.2.2.2.2.2.2.1)).bind λk =>some k) (some false)).bind λl =>some l)).bind λm =>some m)
def oT:FL:=(178,⟨[.val true z6 false,.val false xb false],[.val false xM (some true)],λa=>fQ a.1 a.2⟩)::oS
theorem vj:Gd oT:=xf vi 178 Tryz.f178 [] Tryz.func178
def jO (b:xk) (a:Int):Option (Int⊕(Unit⊕Bool)) :=cond (decide (a<(b.2.2.2.2.2.2.2.2.2.2.2.2.1.length:Int))) ((at? b.2.2.2.2.2.2.2.2.2.2.2.2.1 a).bind λc =>(fQ c b.2.2.2.2.2.2.2.2.2.2.2.2.2.2).bind λd =>(cond (!d) (some true) ((cond (decide (a>0)) ((at? b.2.2.2.2.2.2.2.2.2.2.2.2.1 (wZ (a-1))).bind λe =>(at? b.2.2.2.2.2.2.2.2.2.2.2.2.1 a).bind λf =>some (decide (e.1>=f.1))) (some false)).bind λg =>some g)).bind λh =>cond h (some (.inr (.inr false))) (some (.inl (wZ (a+1))))) (some (.inr (.inl ())))
def ck (a:xk):Option Bool :=(loop (λb=>jO a b) 0).bind (Sum.elim (λk =>(aZ (a.1,a.2.1,a.2.2.1,a.2.2.2.1,a.2.2.2.2.1,a.2.2.2.2.2.1,a.2.2.2.2.2.2.1,a.2.2.2.2.2.2.2.1,a.2.2.2.2.2.2.2.2.1,a.2.2.2.2.2.2.2.2.2.1,a.2.2.2.2.2.2.2.2.2.2.1)).bind λc =>(cond c (some (decide ((a.2.2.2.2.2.2.2.2.2.2.2.1.length:Int)<=20))) (some false)).bind λd =>(cond d (some (decide ((a.2.2.2.2.2.2.2.2.2.2.2.2.1.length:Int)<=6))) (some false)).bind λe =>(cond e ((ac a.2.2.2.2.2.2.2.2.2.2.2.2.2.1 0 1000000).bind λf =>some f) (some false)).bind λg =>(cond g ((ac a.2.2.2.2.2.2.2.2.2.2.2.2.2.2 0 1000000).bind λh =>some h) (some false)).bind λi =>some i) (λj=>some j))
def oU:FL:=(106,⟨[.val true xL false],[.val false xM (some true)],λa=>ck a⟩)::oT
theorem vk:Gd oU:=xf vj 106 Tryz.f106 [(0,⟨⟨(3,false,[dI])::us 21 18 [],[]⟩,
 ⟨[],[]⟩,some ⟨[(2,false,[dB])],[]⟩⟩)] Tryz.func106
def aH (a:Int):Option Int :=cond (decide (a>=1000000)) (some a) (some (wZ (a+1)))
def oV:FL:=(195,⟨[.val false xb false],[.val false xb (some true)],λa=>aH a⟩)::oU
theorem vl:Gd oV:=xf vk 195 Tryz.f195 [] Tryz.func195
def cK (b:List Int) (a:Int):Option (Int×(List Int)×Int×Bool) :=(cond (decide (a<0)) (some true) (some (decide (a>=(b.length:Int))))).bind λe =>(cond e (some true) (some (decide ((wZ (a+1))>=(b.length:Int))))).bind λf =>cond f (some (0,([]:List Int),0,false)) ((at? b (wZ (a+1))).bind λc =>cond (decide ((wZ (c))>127)) ((cond ((wZ (c)) != 129) (some true) (some (decide ((wZ (a+2))>=(b.length:Int))))).bind λg =>(cond g (some true) ((at? b (wZ (a+2))).bind λh =>some (decide (h<128)))).bind λi =>cond i (some (0,([]:List Int),0,false)) ((at? b (wZ (a+2))).bind λd =>(cond (decide ((wZ (d))>250)) (some true) (some (decide ((wZ (d))>(wZ ((b.length:Int)-(wZ ((wZ (a+2))+1)))))))).bind λj =>cond j (some (0,([]:List Int),0,false)) ((at? b a).bind λk =>(cut b (wZ ((wZ (a+2))+1)) (wZ ((wZ ((wZ (a+2))+1))+(wZ (d))))).bind λl =>(app ([]:List Int) l).bind λm =>let n:=wZ ((wZ ((wZ (a+2))+1))+(wZ (d))); some (wZ (k),m,n,true)))) ((cond (decide ((wZ (c))>250)) (some true) (some (decide ((wZ (c))>(wZ ((b.length:Int)-(wZ (a+2)))))))).bind λo =>cond o (some (0,([]:List Int),0,false)) ((at? b a).bind λp =>(cut b (wZ (a+2)) (wZ ((wZ (a+2))+(wZ (c))))).bind λq =>(app ([]:List Int) q).bind λr =>let s:=wZ ((wZ (a+2))+(wZ (c))); some (wZ (p),r,s,true))))
def oW:FL:=(330,⟨[.val false yF false,.val false xb false],[.val false xb (some true),.val false yF (some true),.val false xb (some true),.val false xM (some true)],λa=>cK a.1 a.2⟩)::oV
theorem vm:Gd oW:=xf vl 330 Tryz.f330 [] Tryz.func330
def bL (a:zC) (c:Int):Option (zC×List Int) :=(cK a.1 a.2.1).bind λb =>(cond a.2.2 (some true) (some (!b.2.2.2))).bind λd =>(cond d (some true) (some (b.1 != c))).bind λe =>cond e (some ((a.1,a.2.1,true),([]:List Int))) (some ((a.1,b.2.2.1,a.2.2),b.2.1))
def oX:FL:=(332,⟨[.ptr BL none,.val false xb false],[.val false yF (some true)],λa=>bL a.1 a.2⟩)::oW
theorem vn:Gd oX:=xf vm 332 Tryz.f332 [] Tryz.func332
def cf (a:Int) (b:List Int):Option ((Int×List Int)⊕(List Int)) :=(cond (decide (a<(-128))) (some true) (some (decide (a>127)))).bind λc =>cond c ((app [IntKind.u8.wrap (a.fdiv (2^8))] b).bind λd =>some (.inl (a.fdiv (2^8),d))) (some (.inr b))
def bv (c:Int):Option (List Int) :=(bt c).bind λa =>(loop (λb=>cf b.1 b.2) (a,[IntKind.u8.wrap (a)])).bind λd =>some d
def oY:FL:=(63,⟨[.val false xb false],[.val false yF (some true)],λa=>bv a⟩)::oX
theorem vp:Gd oY:=xf vn 63 Tryz.f63 [(0,⟨⟨[(0,false,[dI]),(3,false,[.own 1000000000]),(12,false,[.undef]),(13,false,[.undef])],[(1000000000,.root (.one (.int .u8)) true)]⟩,
 ⟨[(3,false,[.own 1000000300])],[(1000000300,.root (.one (.int .u8)) true)]⟩,none⟩)] Tryz.func63
def dY (b:List Int) (c:Int) (a:Int):Option ((Int×Int)⊕Int) :=cond (decide (a<(b.length:Int))) ((at? b a).bind λd =>let e:=Es .i64 (wZ (c*2^8)) (wZ (d)); some (.inl (e,wZ (a+1)))) (some (.inr c))
def dZ (b:List Int) (c:Int) (a:Int):Option ((Int×Int)⊕Int) :=cond (decide (a<(b.length:Int))) ((at? b a).bind λd =>let e:=Es .i64 (wZ (c*2^8)) (wZ (d)); some (.inl (e,wZ (a+1)))) (some (.inr c))
def fR (a:List Int):Option (Int×Bool) :=(ac (a.length:Int) 1 4).bind λf =>cond (!f) (some (0,false)) ((at? a 0).bind λc =>cond (decide ((wZ (c))>127)) ((loop (λb=>dY a b.1 b.2) (wZ ((wZ (c))-256),1)).bind λd =>(bv d).bind λg =>cond ((g.length:Int) != (a.length:Int)) (some (0,false)) (some (d,true))) ((loop (λb=>dZ a b.1 b.2) (wZ (c),1)).bind λe =>(bv e).bind λh =>cond ((h.length:Int) != (a.length:Int)) (some (0,false)) (some (e,true))))
def oZ:FL:=(364,⟨[.val false yF false],[.val false xb (some true),.val false xM (some true)],λa=>fR a⟩)::oY
theorem vq:Gd oZ:=xf vp 364 Tryz.f364 [(0,⟨⟨[(4,false,[dI]),(5,false,[dI])],[]⟩,
 ⟨[(4,false,[dI])],[]⟩,none⟩)] Tryz.func364
def cL (c:zC):Option (zC×Int) :=(bL c 2).bind λa =>(fR a.2).bind λb =>(cond a.1.2.2 (some true) (some (!b.2))).bind λd =>some ((a.1.1,a.1.2.1,d),b.1)
def p5:FL:=(331,⟨[.ptr BL none],[.val false xb (some true)],λa=>cL a⟩)::oZ
theorem vr:Gd p5:=xf vq 331 Tryz.f331 [] Tryz.func331
def cg (a:Int) (b:List Int):Option ((Int×List Int)⊕(List Int)) :=cond (decide (a>127)) ((app [IntKind.u8.wrap (Es .i64 (zA .i64 (a.fdiv (2^7)) 127) 128)] b).bind λc =>some (.inl (a.fdiv (2^7),c))) (some (.inr b))
def e9 (a:Int):Option (List Int) :=(loop (λb=>cg b.1 b.2) (a,[IntKind.u8.wrap (zA .i64 a 127)])).bind λc =>some c
def p6:FL:=(354,⟨[.val false xb false],[.val false yF (some true)],λa=>e9 a⟩)::p5
theorem vu:Gd p6:=xf vr 354 Tryz.f354 [(0,⟨⟨[(0,false,[dI]),(3,false,[.own 1000000000])],[(1000000000,.root (.one (.int .u8)) true)]⟩,
 ⟨[(3,false,[.own 1000000300])],[(1000000300,.root (.one (.int .u8)) true)]⟩,none⟩)] Tryz.func354
def aI (b:List Int) (a:Int) (d:Int) (c:Int) (e:Bool):Option ((Int×Int×Int×Bool)⊕(Int×Int×Int×Bool)) :=(cond e (some (decide (a<(b.length:Int)))) (some false)).bind λf =>(cond f (some (decide (c<4))) (some false)).bind λg =>cond g ((at? b a).bind λh =>let i:=Es .i64 (wZ (d*2^7)) (wZ (zA .u8 h 127)); (at? b a).bind λj =>some (.inl (wZ (a+1),i,wZ (c+1),decide (j>127)))) (some (.inr (a,d,c,e)))
def aq (e:List Int) (c:Int) (d:List Int):Option ((Int×List Int)⊕((Int×List Int)⊕(Bool×List Int))) :=(cond (decide (c<(e.length:Int))) (some (decide ((d.length:Int)<=10))) (some false)).bind λf =>cond f ((loop (λb=>aI e b.1 b.2.1 b.2.2.1 b.2.2.2) (c,0,0,true)).bind λa =>(cond a.2.2.2 (some true) ((e9 a.2.1).bind λg =>some ((g.length:Int) != a.2.2.1))).bind λh =>cond h (some (.inr (.inr (false,([]:List Int))))) ((app d [a.2.1]).bind λi =>some (.inl (a.1,i)))) (some (.inr (.inl (c,d))))
def ch (b:List Int):Option ((List Int)×Bool) :=(loop (λc=>aq b c.1 c.2) (0,([]:List Int))).bind (Sum.elim (λa =>(cond (a.1 != (b.length:Int)) (some true) ((bJ a.2).bind λe =>some (!e))).bind λf =>cond f (some (([]:List Int),false)) (some (a.2,true))) (λd=>some (d.2,d.1)))
def p7:FL:=(380,⟨[.val false yF false],[.val false zm (some true),.val false xM (some true)],λa=>ch a⟩)::p6
theorem vv:Gd p7:=xf vu 380 Tryz.f380 [(0,⟨⟨(4,false,[.own 1000000000])::(5,false,[dI])::us 15 3 (us 21 4 (us 27 2 (us 50 5 []))),[(1000000000,.root xb true)]⟩,
 ⟨[(4,false,[.own 1000000300]),(5,false,[dI])],[(1000000300,.root xb true)]⟩,some ⟨[(2,false,[.own 1000000600]),(3,false,[dB])],[(1000000600,.root xb true)]⟩⟩),
 (2,⟨⟨(5,false,[dI])::(6,false,[dI])::(7,false,[dI])::(8,false,[dB])::us 21 4 (us 27 2 []),[]⟩,
 ⟨(5,false,[dI])::(6,false,[dI])::(7,false,[dI])::(8,false,[dB])::us 21 4 (us 27 2 []),[]⟩,none⟩)] Tryz.func380
def iu (d:List Int) (e:Int):Option (A6×Int×Bool) :=(cK d e).bind λa =>cond (a.1==2) ((fR a.2.1).bind λb =>(cond (!a.2.2.2) (some true) (some (!b.2))).bind λf =>(cond f (some true) ((bu (a.1,b.1,[],[])).bind λg =>some (!g))).bind λh =>cond h (some ((0,0,[],[]),0,false)) (some ((a.1,b.1,[],[]),a.2.2.1,true))) (cond (a.1==4) ((cond (!a.2.2.2) (some true) (some (!true))).bind λi =>(cond i (some true) ((bu (a.1,0,yq a.2.1,[])).bind λj =>some (!j))).bind λk =>cond k (some ((0,0,[],[]),0,false)) (some ((a.1,0,yq a.2.1,[]),a.2.2.1,true))) (cond (a.1==6) ((ch a.2.1).bind λc =>(cond (!a.2.2.2) (some true) (some (!c.2))).bind λl =>(cond l (some true) ((bu (a.1,0,[],c.1)).bind λm =>some (!m))).bind λn =>cond n (some ((0,0,[],[]),0,false)) (some ((a.1,0,[],c.1),a.2.2.1,true))) (let o:=(a.2.1.length:Int)==0; (cond (!a.2.2.2) (some true) (some (!o))).bind λp =>(cond p (some true) ((bu (a.1,0,[],[])).bind λq =>some (!q))).bind λr =>cond r (some ((0,0,[],[]),0,false)) (some ((a.1,0,[],[]),a.2.2.1,true)))))
def p8:FL:=(381,⟨[.val false yF false,.val false xb false],[.val true Bb (some true),.val false xb (some true),.val false xM (some true)],λa=>iu a.1 a.2⟩)::p7
theorem vw:Gd p8:=xf vv 381 Tryz.f381 [] Tryz.func381
def iv (b:List Int):Option (x7×Bool) :=(bL (b,0,false) 6).bind λc =>(ch c.2).bind λd =>(iu b c.1.2.1).bind λa =>(cond c.1.2.2 (some true) (some (!d.2))).bind λe =>(cond e (some true) (some (!a.2.2))).bind λf =>(cond f (some true) (some (a.2.1 != (b.length:Int)))).bind λg =>cond g (some (([],0,0,[],[]),false)) (some ((d.1,a.1.1,a.1.2.1,a.1.2.2.1,a.1.2.2.2),true))
def p9:FL:=(365,⟨[.val false yF false],[.val true xp (some true),.val false xM (some true)],λa=>iv a⟩)::p8
theorem vz:Gd p9:=xf vw 365 Tryz.f365 [] Tryz.func365
def ar (e:List Int) (f:Int) (g:Bool) (h:Int) (i:Int) (j:Int) (k:Int) (b:List Int) (c:Int) (l:Bool) (d:List x7):Option ((List Int×Int×Bool×Int×Int×Int×Int×List Int×Int×Bool×List x7)⊕(List Int×Int×Bool×Int×Int×Int×Int×List Int×Int×Bool×List x7)) :=(cond (!g) (some (decide (c<(b.length:Int)))) (some false)).bind λn =>(cond n (some (decide ((d.length:Int)<=10))) (some false)).bind λo =>cond o ((bL (b,c,l) 48).bind λa =>(iv a.2).bind λm =>(cond a.1.2.2 (some true) (some (!m.2))).bind λp =>(app d [m.1]).bind λq =>some (.inl (e,f,p,h,i,j,k,a.1.1,a.1.2.1,a.1.2.2,q))) (some (.inr (e,f,g,h,i,j,k,b,c,l,d)))
def iw (e:List Int):Option (xE×Bool) :=(cK e 0).bind λc =>(cL (c.2.1,0,false)).bind λf =>(cL f.1).bind λg =>(cL g.1).bind λh =>(bL h.1 48).bind λd =>(loop (λb=>ar b.1 b.2.1 b.2.2.1 b.2.2.2.1 b.2.2.2.2.1 b.2.2.2.2.2.1 b.2.2.2.2.2.2.1 b.2.2.2.2.2.2.2.1 b.2.2.2.2.2.2.2.2.1 b.2.2.2.2.2.2.2.2.2.1 b.2.2.2.2.2.2.2.2.2.2) (d.1.1,d.1.2.1,d.1.2.2,c.1,f.2,g.2,h.2,d.2,0,false,[])).bind λa =>(cond (!c.2.2.2) (some true) (some (c.2.2.1 != (e.length:Int)))).bind λi =>(cond i (some true) (some a.2.2.1)).bind λj =>(cond j (some true) (some (a.2.1 != (c.2.1.length:Int)))).bind λk =>(cond k (some true) (some (a.2.2.2.2.2.2.2.2.1 != (a.2.2.2.2.2.2.2.1.length:Int)))).bind λl =>(cond l (some true) ((bK (a.2.2.2.1,a.2.2.2.2.1,a.2.2.2.2.2.1,a.2.2.2.2.2.2.1,a.2.2.2.2.2.2.2.2.2.2)).bind λm =>some (!m))).bind λn =>cond n (some ((0,0,0,0,[]),false)) (some ((a.2.2.2.1,a.2.2.2.2.1,a.2.2.2.2.2.1,a.2.2.2.2.2.2.1,a.2.2.2.2.2.2.2.2.2.2),true))
def pa:FL:=(333,⟨[.val false yF false],[.val true zo (some true),.val false xM (some true)],λa=>iw a⟩)::p9
theorem vA:Gd pa:=xf vz 333 Tryz.f333 [(0,⟨⟨us 44 10 (us 56 4 (us 73 2 [])),[(527360,.box [.dat (.sl (.one (.int .u8))),dI,dB]),(789504,.box [dI,dI,dI,dI,.own 1000000000]),(1839104,.box [.dat (.sl (.one (.int .u8))),dI,dB]),(1000000000,.root xp true)]⟩,
 ⟨[],[(527360,.box [.dat (.sl (.one (.int .u8))),dI,dB]),(789504,.box [dI,dI,dI,dI,.own 1000000300]),(1839104,.box [.dat (.sl (.one (.int .u8))),dI,dB]),(1000000300,.root xp true)]⟩,none⟩)] Tryz.func333
def fS (f:List UInt8) (c:List Int):Option (xE×Int) :=(cK c 0).bind λa =>(cL (a.2.1,0,false)).bind λd =>(bL d.1 4).bind λb =>(cond (!a.2.2.2) (some true) (some (a.1 != 48))).bind λg =>(cond g (some true) (some (a.2.2.1 != (c.length:Int)))).bind λh =>(cond h (some true) (some b.1.2.2)).bind λi =>cond i (some ((0,0,0,0,[]),1)) (cond (d.2 != 1) (some ((0,0,0,0,[]),2)) (cond (!((yq b.2)==f)) (some ((0,0,0,0,[]),3)) ((cut a.2.1 b.1.2.1 (a.2.1.length:Int)).bind λj =>(iw j).bind λe =>cond (!e.2) (some ((0,0,0,0,[]),1)) (some (e.1,0)))))
def pb:FL:=(272,⟨[.val false TZ false,.val false yF false],[.val true zo (some true),.val false xb (some true)],λa=>fS a.1 a.2⟩)::pa
theorem vB:Gd pb:=xf vA 272 Tryz.f272 [] Tryz.func272
def fT (c:xk) (h:Int):Option xk :=(ix c.2.2.2.2.2.2.2.2.2.2.2.2.1.length h).bind λf =>(c.2.2.2.2.2.2.2.2.2.2.2.2.1[f]?).bind λa =>(af (c.1,c.2.1,c.2.2.1,c.2.2.2.1,c.2.2.2.2.1,c.2.2.2.2.2.1,c.2.2.2.2.2.2.1,c.2.2.2.2.2.2.2.1,c.2.2.2.2.2.2.2.2.1,c.2.2.2.2.2.2.2.2.2.1,c.2.2.2.2.2.2.2.2.2.2.1)).bind λb =>(ix (c.2.2.2.2.2.2.2.2.2.2.2.2.1.set f (a.1,a.2.1,1,a.2.2.2.1,a.2.2.2.2.1,a.2.2.2.2.2.1,a.2.2.2.2.2.2.1,a.2.2.2.2.2.2.2.1,a.2.2.2.2.2.2.2.2.1,a.2.2.2.2.2.2.2.2.2.1,a.2.2.2.2.2.2.2.2.2.2.1,a.2.2.2.2.2.2.2.2.2.2.2.1,a.2.2.2.2.2.2.2.2.2.2.2.2.1,a.2.2.2.2.2.2.2.2.2.2.2.2.2.1,a.2.2.2.2.2.2.2.2.2.2.2.2.2.2.1,a.2.2.2.2.2.2.2.2.2.2.2.2.2.2.2.1,a.2.2.2.2.2.2.2.2.2.2.2.2.2.2.2.2.1,a.2.2.2.2.2.2.2.2.2.2.2.2.2.2.2.2.2.1,a.2.2.2.2.2.2.2.2.2.2.2.2.2.2.2.2.2.2.1,a.2.2.2.2.2.2.2.2.2.2.2.2.2.2.2.2.2.2.2.1,a.2.2.2.2.2.2.2.2.2.2.2.2.2.2.2.2.2.2.2.2)).length h).bind λg =>((c.2.2.2.2.2.2.2.2.2.2.2.2.1.set f (a.1,a.2.1,1,a.2.2.2.1,a.2.2.2.2.1,a.2.2.2.2.2.1,a.2.2.2.2.2.2.1,a.2.2.2.2.2.2.2.1,a.2.2.2.2.2.2.2.2.1,a.2.2.2.2.2.2.2.2.2.1,a.2.2.2.2.2.2.2.2.2.2.1,a.2.2.2.2.2.2.2.2.2.2.2.1,a.2.2.2.2.2.2.2.2.2.2.2.2.1,a.2.2.2.2.2.2.2.2.2.2.2.2.2.1,a.2.2.2.2.2.2.2.2.2.2.2.2.2.2.1,a.2.2.2.2.2.2.2.2.2.2.2.2.2.2.2.1,a.2.2.2.2.2.2.2.2.2.2.2.2.2.2.2.2.1,a.2.2.2.2.2.2.2.2.2.2.2.2.2.2.2.2.2.1,a.2.2.2.2.2.2.2.2.2.2.2.2.2.2.2.2.2.2.1,a.2.2.2.2.2.2.2.2.2.2.2.2.2.2.2.2.2.2.2.1,a.2.2.2.2.2.2.2.2.2.2.2.2.2.2.2.2.2.2.2.2))[g]?).bind λd =>(ix ((c.2.2.2.2.2.2.2.2.2.2.2.2.1.set f (a.1,a.2.1,1,a.2.2.2.1,a.2.2.2.2.1,a.2.2.2.2.2.1,a.2.2.2.2.2.2.1,a.2.2.2.2.2.2.2.1,a.2.2.2.2.2.2.2.2.1,a.2.2.2.2.2.2.2.2.2.1,a.2.2.2.2.2.2.2.2.2.2.1,a.2.2.2.2.2.2.2.2.2.2.2.1,a.2.2.2.2.2.2.2.2.2.2.2.2.1,a.2.2.2.2.2.2.2.2.2.2.2.2.2.1,a.2.2.2.2.2.2.2.2.2.2.2.2.2.2.1,a.2.2.2.2.2.2.2.2.2.2.2.2.2.2.2.1,a.2.2.2.2.2.2.2.2.2.2.2.2.2.2.2.2.1,a.2.2.2.2.2.2.2.2.2.2.2.2.2.2.2.2.2.1,a.2.2.2.2.2.2.2.2.2.2.2.2.2.2.2.2.2.2.1,a.2.2.2.2.2.2.2.2.2.2.2.2.2.2.2.2.2.2.2.1,a.2.2.2.2.2.2.2.2.2.2.2.2.2.2.2.2.2.2.2.2)).set g (d.1,d.2.1,d.2.2.1,d.2.2.2.1,d.2.2.2.2.1,d.2.2.2.2.2.1,d.2.2.2.2.2.2.1,d.2.2.2.2.2.2.2.1,b.1,b.2.1,b.2.2.1,b.2.2.2.1,b.2.2.2.2.1,b.2.2.2.2.2.1,b.2.2.2.2.2.2.1,b.2.2.2.2.2.2.2.1,b.2.2.2.2.2.2.2.2.1,b.2.2.2.2.2.2.2.2.2.1,b.2.2.2.2.2.2.2.2.2.2,d.2.2.2.2.2.2.2.2.2.2.2.2.2.2.2.2.2.2.2.1,d.2.2.2.2.2.2.2.2.2.2.2.2.2.2.2.2.2.2.2.2)).length h).bind λi =>(((c.2.2.2.2.2.2.2.2.2.2.2.2.1.set f (a.1,a.2.1,1,a.2.2.2.1,a.2.2.2.2.1,a.2.2.2.2.2.1,a.2.2.2.2.2.2.1,a.2.2.2.2.2.2.2.1,a.2.2.2.2.2.2.2.2.1,a.2.2.2.2.2.2.2.2.2.1,a.2.2.2.2.2.2.2.2.2.2.1,a.2.2.2.2.2.2.2.2.2.2.2.1,a.2.2.2.2.2.2.2.2.2.2.2.2.1,a.2.2.2.2.2.2.2.2.2.2.2.2.2.1,a.2.2.2.2.2.2.2.2.2.2.2.2.2.2.1,a.2.2.2.2.2.2.2.2.2.2.2.2.2.2.2.1,a.2.2.2.2.2.2.2.2.2.2.2.2.2.2.2.2.1,a.2.2.2.2.2.2.2.2.2.2.2.2.2.2.2.2.2.1,a.2.2.2.2.2.2.2.2.2.2.2.2.2.2.2.2.2.2.1,a.2.2.2.2.2.2.2.2.2.2.2.2.2.2.2.2.2.2.2.1,a.2.2.2.2.2.2.2.2.2.2.2.2.2.2.2.2.2.2.2.2)).set g (d.1,d.2.1,d.2.2.1,d.2.2.2.1,d.2.2.2.2.1,d.2.2.2.2.2.1,d.2.2.2.2.2.2.1,d.2.2.2.2.2.2.2.1,b.1,b.2.1,b.2.2.1,b.2.2.2.1,b.2.2.2.2.1,b.2.2.2.2.2.1,b.2.2.2.2.2.2.1,b.2.2.2.2.2.2.2.1,b.2.2.2.2.2.2.2.2.1,b.2.2.2.2.2.2.2.2.2.1,b.2.2.2.2.2.2.2.2.2.2,d.2.2.2.2.2.2.2.2.2.2.2.2.2.2.2.2.2.2.2.1,d.2.2.2.2.2.2.2.2.2.2.2.2.2.2.2.2.2.2.2.2))[i]?).bind λe =>some (c.1,c.2.1,c.2.2.1,c.2.2.2.1,c.2.2.2.2.1,c.2.2.2.2.2.1,c.2.2.2.2.2.2.1,c.2.2.2.2.2.2.2.1,c.2.2.2.2.2.2.2.2.1,c.2.2.2.2.2.2.2.2.2.1,c.2.2.2.2.2.2.2.2.2.2.1,c.2.2.2.2.2.2.2.2.2.2.2.1,((c.2.2.2.2.2.2.2.2.2.2.2.2.1.set f (a.1,a.2.1,1,a.2.2.2.1,a.2.2.2.2.1,a.2.2.2.2.2.1,a.2.2.2.2.2.2.1,a.2.2.2.2.2.2.2.1,a.2.2.2.2.2.2.2.2.1,a.2.2.2.2.2.2.2.2.2.1,a.2.2.2.2.2.2.2.2.2.2.1,a.2.2.2.2.2.2.2.2.2.2.2.1,a.2.2.2.2.2.2.2.2.2.2.2.2.1,a.2.2.2.2.2.2.2.2.2.2.2.2.2.1,a.2.2.2.2.2.2.2.2.2.2.2.2.2.2.1,a.2.2.2.2.2.2.2.2.2.2.2.2.2.2.2.1,a.2.2.2.2.2.2.2.2.2.2.2.2.2.2.2.2.1,a.2.2.2.2.2.2.2.2.2.2.2.2.2.2.2.2.2.1,a.2.2.2.2.2.2.2.2.2.2.2.2.2.2.2.2.2.2.1,a.2.2.2.2.2.2.2.2.2.2.2.2.2.2.2.2.2.2.2.1,a.2.2.2.2.2.2.2.2.2.2.2.2.2.2.2.2.2.2.2.2)).set g (d.1,d.2.1,d.2.2.1,d.2.2.2.1,d.2.2.2.2.1,d.2.2.2.2.2.1,d.2.2.2.2.2.2.1,d.2.2.2.2.2.2.2.1,b.1,b.2.1,b.2.2.1,b.2.2.2.1,b.2.2.2.2.1,b.2.2.2.2.2.1,b.2.2.2.2.2.2.1,b.2.2.2.2.2.2.2.1,b.2.2.2.2.2.2.2.2.1,b.2.2.2.2.2.2.2.2.2.1,b.2.2.2.2.2.2.2.2.2.2,d.2.2.2.2.2.2.2.2.2.2.2.2.2.2.2.2.2.2.2.1,d.2.2.2.2.2.2.2.2.2.2.2.2.2.2.2.2.2.2.2.2)).set i (e.1,e.2.1,e.2.2.1,e.2.2.2.1,e.2.2.2.2.1,e.2.2.2.2.2.1,e.2.2.2.2.2.2.1,e.2.2.2.2.2.2.2.1,e.2.2.2.2.2.2.2.2.1,e.2.2.2.2.2.2.2.2.2.1,e.2.2.2.2.2.2.2.2.2.2.1,e.2.2.2.2.2.2.2.2.2.2.2.1,e.2.2.2.2.2.2.2.2.2.2.2.2.1,e.2.2.2.2.2.2.2.2.2.2.2.2.2.1,e.2.2.2.2.2.2.2.2.2.2.2.2.2.2.1,e.2.2.2.2.2.2.2.2.2.2.2.2.2.2.2.1,e.2.2.2.2.2.2.2.2.2.2.2.2.2.2.2.2.1,e.2.2.2.2.2.2.2.2.2.2.2.2.2.2.2.2.2.1,e.2.2.2.2.2.2.2.2.2.2.2.2.2.2.2.2.2.2.1,0,e.2.2.2.2.2.2.2.2.2.2.2.2.2.2.2.2.2.2.2.2),c.2.2.2.2.2.2.2.2.2.2.2.2.2.1,c.2.2.2.2.2.2.2.2.2.2.2.2.2.2)
def pc:FL:=(273,⟨[.ptr xL (some false),.val false xb false],[],λa=>fT a.1 a.2⟩)::pb
theorem vC:Gd pc:=xf vB 273 Tryz.f273 [] Tryz.func273
def ea (a:xk) (b:Int):Option xk :=(yX a.2.2.2.2.2.2.2.2.2.2.2.2.1.length 0 b).bind λc =>(app ([]:List xH) ((a.2.2.2.2.2.2.2.2.2.2.2.2.1.take c.2).drop c.1)).bind λe =>(yX a.2.2.2.2.2.2.2.2.2.2.2.2.1.length (wZ (b+1)) (a.2.2.2.2.2.2.2.2.2.2.2.2.1.length:Int)).bind λd =>(app e ((a.2.2.2.2.2.2.2.2.2.2.2.2.1.take d.2).drop d.1)).bind λf =>some (a.1,a.2.1,a.2.2.1,a.2.2.2.1,a.2.2.2.2.1,a.2.2.2.2.2.1,a.2.2.2.2.2.2.1,a.2.2.2.2.2.2.2.1,a.2.2.2.2.2.2.2.2.1,a.2.2.2.2.2.2.2.2.2.1,a.2.2.2.2.2.2.2.2.2.2.1,a.2.2.2.2.2.2.2.2.2.2.2.1,f,a.2.2.2.2.2.2.2.2.2.2.2.2.2.1,a.2.2.2.2.2.2.2.2.2.2.2.2.2.2)
def pf:FL:=(274,⟨[.ptr xL (some false),.val false xb false],[],λa=>ea a.1 a.2⟩)::pc
theorem vD:Gd pf:=xf vC 274 Tryz.f274 [] Tryz.func274
def ed (a:xk) (d:Int):Option xk :=(ix a.2.2.2.2.2.2.2.2.2.2.2.2.1.length d).bind λf =>(a.2.2.2.2.2.2.2.2.2.2.2.2.1[f]?).bind λg =>(fS a.2.2.2.2.2.2.2.2.2.2.2.1 g.2.1).bind λc =>(cond (c.2==0) (some (c.1.1 != 162)) (some false)).bind λh =>cond h ((ix a.2.2.2.2.2.2.2.2.2.2.2.2.1.length d).bind λe =>(a.2.2.2.2.2.2.2.2.2.2.2.2.1[e]?).bind λb =>(fT (a.1,a.2.1,a.2.2.1,a.2.2.2.1,a.2.2.2.2.1,a.2.2.2.2.2.1,a.2.2.2.2.2.2.1,a.2.2.2.2.2.2.2.1,a.2.2.2.2.2.2.2.2.1,a.2.2.2.2.2.2.2.2.2.1,a.2.2.2.2.2.2.2.2.2.2.1,a.2.2.2.2.2.2.2.2.2.2.2.1,a.2.2.2.2.2.2.2.2.2.2.2.2.1.set e (b.1,b.2.1,b.2.2.1,c.1.1,c.1.2.1,c.1.2.2.1,c.1.2.2.2.1,c.1.2.2.2.2,b.2.2.2.2.2.2.2.2.1,b.2.2.2.2.2.2.2.2.2.1,b.2.2.2.2.2.2.2.2.2.2.1,b.2.2.2.2.2.2.2.2.2.2.2.1,b.2.2.2.2.2.2.2.2.2.2.2.2.1,b.2.2.2.2.2.2.2.2.2.2.2.2.2.1,b.2.2.2.2.2.2.2.2.2.2.2.2.2.2.1,b.2.2.2.2.2.2.2.2.2.2.2.2.2.2.2.1,b.2.2.2.2.2.2.2.2.2.2.2.2.2.2.2.2.1,b.2.2.2.2.2.2.2.2.2.2.2.2.2.2.2.2.2.1,b.2.2.2.2.2.2.2.2.2.2.2.2.2.2.2.2.2.2.1,b.2.2.2.2.2.2.2.2.2.2.2.2.2.2.2.2.2.2.2.1,b.2.2.2.2.2.2.2.2.2.2.2.2.2.2.2.2.2.2.2.2),a.2.2.2.2.2.2.2.2.2.2.2.2.2.1,a.2.2.2.2.2.2.2.2.2.2.2.2.2.2) d).bind λi =>some i) (cond (c.2==3) ((aH a.2.2.2.2.2.2.2.2.1).bind λj =>(ea (a.1,a.2.1,a.2.2.1,a.2.2.2.1,a.2.2.2.2.1,a.2.2.2.2.2.1,a.2.2.2.2.2.2.1,a.2.2.2.2.2.2.2.1,j,a.2.2.2.2.2.2.2.2.2.1,a.2.2.2.2.2.2.2.2.2.2.1,a.2.2.2.2.2.2.2.2.2.2.2.1,a.2.2.2.2.2.2.2.2.2.2.2.2.1,a.2.2.2.2.2.2.2.2.2.2.2.2.2.1,a.2.2.2.2.2.2.2.2.2.2.2.2.2.2) d).bind λk =>some k) ((aH a.2.2.2.2.2.2.2.1).bind λl =>(ea (a.1,a.2.1,a.2.2.1,a.2.2.2.1,a.2.2.2.2.1,a.2.2.2.2.2.1,a.2.2.2.2.2.2.1,l,a.2.2.2.2.2.2.2.2.1,a.2.2.2.2.2.2.2.2.2.1,a.2.2.2.2.2.2.2.2.2.2.1,a.2.2.2.2.2.2.2.2.2.2.2.1,a.2.2.2.2.2.2.2.2.2.2.2.2.1,a.2.2.2.2.2.2.2.2.2.2.2.2.2.1,a.2.2.2.2.2.2.2.2.2.2.2.2.2.2) d).bind λm =>some m))
def pj:FL:=(180,⟨[.ptr xL (some false),.val false xb false],[],λa=>ed a.1 a.2⟩)::pf
theorem vE:Gd pj:=xf vD 180 Tryz.f180 [] Tryz.func180
def ee (b:xk) (c:Int) (a:xE):Option (xk×List xX) :=(ix b.2.2.2.2.2.2.2.2.2.2.2.2.1.length c).bind λd =>(b.2.2.2.2.2.2.2.2.2.2.2.2.1[d]?).bind λe =>(ea b c).bind λf =>some (f,[(e.1,a.1,a.2.1,a.2.2.1,a.2.2.2.1,a.2.2.2.2)])
def pk:FL:=(183,⟨[.ptr xL (some false),.val false xb false,.val true zo false],[.val false (.one (.sl zK)) (some false)],λa=>ee a.1 a.2.1 a.2.2⟩)::pj
theorem vF:Gd pk:=xf vE 183 Tryz.f183 [] Tryz.func183
def ay (e:List Int) (b:Int) (a:List Int):Option (List Int) :=(app ([]:List Int) e).bind λc =>(ac b 0 255).bind λf =>(cond (!f) (some true) (some (decide ((a.length:Int)>250)))).bind λg =>cond g (some c) ((app c [IntKind.u8.wrap (b)]).bind λd =>cond (decide ((a.length:Int)>127)) ((app d ([129]:List Int)).bind λh =>(app h [IntKind.u8.wrap ((a.length:Int))]).bind λi =>(app i a).bind λj =>some j) ((app d [IntKind.u8.wrap ((a.length:Int))]).bind λk =>(app k a).bind λl =>some l))
def pm:FL:=(62,⟨[.val false yF false,.val false xb false,.val false yF false],[.val false yF (some true)],λa=>ay a.1 a.2.1 a.2.2⟩)::pk
theorem vG:Gd pm:=xf vF 62 Tryz.f62 [] Tryz.func62
def cM (b:List Int) (a:Int) (c:List Int):Option ((Int×List Int)⊕(List Int)) :=cond (decide (a<(b.length:Int))) ((at? b a).bind λd =>(e9 d).bind λe =>(app c e).bind λf =>some (.inl (wZ (a+1),f))) (some (.inr c))
def fU (a:List Int):Option (List Int) :=(bJ a).bind λc =>cond (!c) (some ([]:List Int)) ((loop (λb=>cM a b.1 b.2) (0,([]:List Int))).bind λd =>some d)
def po:FL:=(309,⟨[.val false zm false],[.val false yF (some true)],λa=>fU a⟩)::pm
theorem vH:Gd po:=xf vG 309 Tryz.f309 [(0,⟨⟨[(3,false,[.own 1000000000]),(4,false,[dI])],[(1000000000,.root (.one (.int .u8)) true)]⟩,
 ⟨[(3,false,[.own 1000000300])],[(1000000300,.root (.one (.int .u8)) true)]⟩,none⟩)] Tryz.func309
def iy (b:List Int) (a:A6):Option (List Int) :=(bu a).bind λc =>cond (!c) ((app ([]:List Int) b).bind λd =>some d) (cond (a.1==2) ((bv a.2.1).bind λe =>(ay b a.1 e).bind λf =>some f) (cond (a.1==4) ((ay b a.1 (Bz a.2.2.1)).bind λg =>some g) (cond (a.1==6) ((fU a.2.2.2).bind λh =>(ay b a.1 h).bind λi =>some i) ((ay b a.1 ([]:List Int)).bind λj =>some j))))
def pp:FL:=(308,⟨[.val false yF false,.val true Bb false],[.val false yF (some true)],λa=>iy a.1 a.2⟩)::po
theorem vI:Gd pp:=xf vH 308 Tryz.f308 [] Tryz.func308
def cN (b:List x7) (a:Int) (c:List Int):Option ((Int×List Int)⊕(List Int)) :=cond (decide (a<(b.length:Int))) ((at? b a).bind λd =>(fU d.1).bind λe =>(ay ([]:List Int) 6 e).bind λf =>(at? b a).bind λg =>(iy f g.2).bind λh =>(ay c 48 h).bind λi =>some (.inl (wZ (a+1),i))) (some (.inr c))
def iz (b:List x7):Option (List Int) :=(loop (λa=>cN b a.1 a.2) (0,([]:List Int))).bind λc =>some c
def pq:FL:=(223,⟨[.val false (.one (.sl xp)) false],[.val false yF (some true)],λa=>iz a⟩)::pp
theorem vJ:Gd pq:=xf vI 223 Tryz.f223 [(0,⟨⟨[(3,false,[.own 1000000000]),(4,false,[dI])],[(1000000000,.root (.one (.int .u8)) true)]⟩,
 ⟨[(3,false,[.own 1000000300])],[(1000000300,.root (.one (.int .u8)) true)]⟩,none⟩)] Tryz.func223
def jQ (a:xE):Option ((List Int)×Bool) :=(iz a.2.2.2.2).bind λb =>cond (decide ((b.length:Int)>250)) (some (([]:List Int),false)) ((bv a.2.1).bind λd =>(ay ([]:List Int) 2 d).bind λe =>(bv a.2.2.1).bind λf =>(ay e 2 f).bind λg =>(bv a.2.2.2.1).bind λh =>(ay g 2 h).bind λi =>(ay i 48 b).bind λc =>let j:=decide ((c.length:Int)<=250); some (c,j))
def pr:FL:=(138,⟨[.val true zo false],[.val false yF (some true),.val false xM (some true)],λa=>jQ a⟩)::pq
theorem vK:Gd pr:=xf vJ 138 Tryz.f138 [] Tryz.func138
def iA (a:xE):Option (List Int) :=(bK a).bind λc =>cond (!c) (some ([]:List Int)) ((jQ a).bind λb =>cond (!b.2) (some ([]:List Int)) ((ay ([]:List Int) a.1 b.1).bind λd =>some d))
def pu:FL:=(65,⟨[.val true zo false],[.val false yF (some true)],λa=>iA a⟩)::pr
theorem vL:Gd pu:=xf vK 65 Tryz.f65 [] Tryz.func65
def ef (a:xE):Option Bool :=(iA a).bind λb =>(ac (b.length:Int) 1 120).bind λc =>some c
def pv:FL:=(335,⟨[.val true zo false],[.val false xM (some true)],λa=>ef a⟩)::pu
theorem vM:Gd pv:=xf vL 335 Tryz.f335 [] Tryz.func335
def ci (g:Bool) (b:Int) (c:Int) (d:Int) (e:Int) (a:List x7):Option ((Int×Int×Int×Int×List x7)⊕(Int×Int×Int×Int×List x7)) :=(cond g ((ef (b,c,d,e,a)).bind λh =>some (!h)) (some false)).bind λi =>(cond i (some (decide ((a.length:Int)>0))) (some false)).bind λj =>cond j ((yX a.length 0 (wZ ((a.length:Int)-1))).bind λf =>some (.inl (b,c,d,e,(a.take f.2).drop f.1))) (some (.inr (b,c,d,e,a)))
def cO (c:xE) (d:Bool):Option xE :=(loop (λa=>ci d a.1 a.2.1 a.2.2.1 a.2.2.2.1 a.2.2.2.2) c).bind λb =>(ef b).bind λe =>cond e (some b) (some (162,b.2.1,7,0,[]))
def pw:FL:=(276,⟨[.val true zo true,.val false xM false],[.val true zo (some true)],λa=>cO a.1 a.2⟩)::pv
theorem vN:Gd pw:=xf vM 276 Tryz.f276 [(0,⟨⟨us 7 3 (us 12 4 []),[(1024,.box [dI,dI,dI,dI,.own 1000000000]),(1000000000,.root xp true)]⟩,
 ⟨[],[(1024,.box [dI,dI,dI,dI,.own 1000000300]),(1000000300,.root xp true)]⟩,none⟩)] Tryz.func276
def iB (a:BR) (b:BR):Option Bool :=cond (a.1 != b.1) (some (decide (a.1<b.1))) (cond (a.2.1 != b.2.1) (some (decide (a.2.1<b.2.1))) (cond (a.2.2.2.1 != b.2.2.2.1) (let c:=decide (a.2.2.2.1<b.2.2.2.1); some c) (let d:=decide (a.2.2.2.2<b.2.2.2.2); some d)))
def pz:FL:=(345,⟨[.val true Bo false,.val true Bo false],[.val false xM (some true)],λa=>iB a.1 a.2⟩)::pw
theorem vO:Gd pz:=xf vN 345 Tryz.f345 [] Tryz.func345
def jR (a:BR) (b:Int):Option (BR×Bool) :=(dW a).bind λc =>(cond (!c) (some true) ((ac b 1 1000).bind λd =>some (!d))).bind λe =>cond e (some (a,false)) ((dW (a.1,wZ (a.2.1+b),wZ (a.2.2.1+1),a.2.2.2.1,a.2.2.2.2)).bind λf =>cond (!f) (some (a,false)) (some ((a.1,wZ (a.2.1+b),wZ (a.2.2.1+1),a.2.2.2.1,a.2.2.2.2),true)))
def pA:FL:=(371,⟨[.val true Bo false,.val false xb false],[.val true Bo (some true),.val false xM (some true)],λa=>jR a.1 a.2⟩)::pz
theorem vP:Gd pA:=xf vO 371 Tryz.f371 [] Tryz.func371
def jS (o:Int) (c:List Pt) (d:Int) (b:Int) (j:Int) (k:Int) (l:Int) (m:Int) (n:Int) (e:Int) (f:Int) (g:Int) (h:Int) (i:Int):Option ((Int×Int×Int×Int×Int×Int×Int×Int×Int×Int×Int×Int)⊕(Int×Int×Int×Int×Int×Int×Int×Int×Int×Int×Int)) :=cond (decide (b<(c.length:Int))) ((at? c b).bind λp =>(cond (!p.1) (some true) ((at? c b).bind λq =>some (!q.2.2.1))).bind λr =>cond r (some (.inl (d,wZ (b+1),j,k,l,m,n,e,f,g,h,i))) ((at? c b).bind λs =>(at? c b).bind λt =>(jR s.2.2.2 t.2.1).bind λa =>(cond a.2 (some (decide (a.1.1<o))) (some false)).bind λu =>(cond u ((cond (decide (d<0)) (some true) ((iB a.1 (e,f,g,h,i)).bind λv =>some v)).bind λw =>some w) (some false)).bind λx =>cond x (some (.inl (b,wZ (b+1),a.1.1,a.1.2.1,a.1.2.2.1,o,0,a.1.1,a.1.2.1,a.1.2.2.1,a.1.2.2.2.1,a.1.2.2.2.2))) (some (.inl (d,wZ (b+1),j,k,l,m,n,e,f,g,h,i))))) (some (.inr (d,j,k,l,m,n,e,f,g,h,i)))
def fV (c:Int) (d:List Pt):Option (BR×Int) :=(loop (λa=>jS c d a.1 a.2.1 a.2.2.1 a.2.2.2.1 a.2.2.2.2.1 a.2.2.2.2.2.1 a.2.2.2.2.2.2.1 a.2.2.2.2.2.2.2.1 a.2.2.2.2.2.2.2.2.1 a.2.2.2.2.2.2.2.2.2.1 a.2.2.2.2.2.2.2.2.2.2.1 a.2.2.2.2.2.2.2.2.2.2.2) ((-1),0,c,0,0,c,0,0,0,0,0,0)).bind λb =>some ((b.2.1,b.2.2.1,b.2.2.2.1,b.2.2.2.2.1,b.2.2.2.2.2.1),b.1)
def pB:FL:=(344,⟨[.val false xb false,.val false (.one (.sl zd)) false],[.val true Bo (some true),.val false xb (some true)],λa=>fV a.1 a.2⟩)::pA
theorem vQ:Gd pB:=xf vP 344 Tryz.f344 [(0,⟨⟨(8,false,[dI])::(9,false,[dI])::us 29 6 (us 52 4 (us 58 7 [])),[(266240,.box [dI,dI,dI,dI,dI]),(526336,.box [dI,dI,dI,dI,dI])]⟩,
 ⟨[(8,false,[dI])],[(266240,.box [dI,dI,dI,dI,dI]),(526336,.box [dI,dI,dI,dI,dI])]⟩,none⟩)] Tryz.func344
def iC (b:Int) (c:List Pt) (d:Int):Option BR :=(fV b c).bind λa =>some (a.1.1,a.1.2.1,a.1.2.2.1,a.1.2.2.2.1,d)
def pC:FL:=(346,⟨[.val false xb false,.val false (.one (.sl zd)) false,.val false xb false],[.val true Bo (some true)],λa=>iC a.1 a.2.1 a.2.2⟩)::pB
theorem vR:Gd pC:=xf vQ 346 Tryz.f346 [] Tryz.func346
def fW (c:Int) (a:List Pt) (b:Int):Option Int :=(ac b 0 (wZ ((a.length:Int)-1))).bind λd =>(cond (!d) (some true) ((at? a b).bind λe =>some (!e.1))).bind λf =>cond f (some 4) ((fV c a).bind λg =>cond (g.2==b) (some 1) ((at? a b).bind λh =>(cond (!h.2.2.1) (some true) ((iC c a b).bind λi =>(at? a b).bind λj =>(iB i j.2.2.2).bind λk =>some k)).bind λl =>cond l (some 2) (some 3)))
def pD:FL:=(289,⟨[.val false xb false,.val false (.one (.sl zd)) false,.val false xb false],[.val false xb (some true)],λa=>fW a.1 a.2.1 a.2.2⟩)::pC
theorem vS:Gd pD:=xf vR 289 Tryz.f289 [] Tryz.func289
def fX (d:Int) (c:List Pt) (b:Int) (a:Int):Option ((Int×Int)⊕Int) :=(cond (decide (a<(c.length:Int))) (some (decide (a<6))) (some false)).bind λe =>cond e ((fW d c a).bind λf =>cond (decide (f<=2)) ((shl .i64 1 (IntKind.u64.wrap (a))).bind λg =>some (.inl (Es .i64 b g,wZ (a+1)))) (some (.inl (b,wZ (a+1))))) (some (.inr b))
def fY (b:Int) (c:List Pt):Option Int :=(loop (λa=>fX b c a.1 a.2) (0,0)).bind λd =>some d
def pE:FL:=(198,⟨[.val false xb false,.val false (.one (.sl zd)) false],[.val false xb (some true)],λa=>fY a.1 a.2⟩)::pD
theorem vT:Gd pE:=xf vS 198 Tryz.f198 [(0,⟨⟨[(5,false,[dI]),(6,false,[dI]),(12,false,[.undef]),(13,false,[.undef])],[]⟩,
 ⟨[(5,false,[dI])],[]⟩,none⟩)] Tryz.func198
def aQ (b:Int) (a:Int):Option Bool :=(ac a 0 7).bind λc =>(cond c ((shr .i64 b (IntKind.u64.wrap (a))).bind λd =>some ((zA .i64 d 1)==1)) (some false)).bind λe =>some e
def pF:FL:=(200,⟨[.val false xb false,.val false xb false],[.val false xM (some true)],λa=>aQ a.1 a.2⟩)::pE
theorem vU:Gd pF:=xf vT 200 Tryz.f200 [] Tryz.func200
def eg (b:List xa) (d:Int) (a:Int) (c:List xa):Option ((Int×List xa)⊕(List xa)) :=cond (decide (a<(b.length:Int))) ((at? b a).bind λe =>(cond e.2.2.2.2 (some true) ((at? b a).bind λf =>some (f.2.2.1 != d))).bind λg =>cond g ((at? b a).bind λh =>(app c [h]).bind λi =>some (.inl (wZ (a+1),i))) (some (.inl (wZ (a+1),c)))) (some (.inr c))
def iD (b:List xa) (c:Int):Option (List xa) :=(loop (λa=>eg b c a.1 a.2) (0,([]:List xa))).bind λd =>some d
def pG:FL:=(304,⟨[.val false (.one (.sl xv)) false,.val false xb false],[.val false (.one (.sl xv)) (some true)],λa=>iD a.1 a.2⟩)::pF
theorem vV:Gd pG:=xf vU 304 Tryz.f304 [(0,⟨⟨(5,false,[.own 1000000000])::(6,false,[dI])::us 20 7 [],[(1000000000,.root xv true)]⟩,
 ⟨[(5,false,[.own 1000000300])],[(1000000300,.root xv true)]⟩,none⟩)] Tryz.func304
def iE (j:wY) (k:Int) (a:Int) (b:Int) (c:List UInt8) (d:Int) (e:Int) (f:Int) (g:Int) (h:Int) (i:List xa):Option ((Int×Int×List UInt8×Int×Int×Int×Int×Int×List xa)⊕(Int×List UInt8×Int×Int×Int×Int×Int×List xa)) :=cond (decide (a<(j.2.2.1.length:Int))) ((aQ k a).bind λl =>cond (!l) ((iD i a).bind λm =>some (.inl (wZ (a+1),b,c,d,e,f,g,h,m))) (some (.inl (wZ (a+1),b,c,d,e,f,g,h,i)))) (some (.inr (b,c,d,e,f,g,h,i)))
def ba (a:wY):Option wY :=(aH a.2.2.2.2.2.2.2.2.2.2).bind λd =>(fY a.1 a.2.2.1).bind λe =>(loop (λb=>iE a e b.1 b.2.1 b.2.2.1 b.2.2.2.1 b.2.2.2.2.1 b.2.2.2.2.2.1 b.2.2.2.2.2.2.1 b.2.2.2.2.2.2.2.1 b.2.2.2.2.2.2.2.2) (0,a.1,a.2.1,a.2.2.2.2.2.2.1,a.2.2.2.2.2.2.2.1,a.2.2.2.2.2.2.2.2.1,a.2.2.2.2.2.2.2.2.2.1,d,a.2.2.2.1)).bind λc =>some (c.1,c.2.1,a.2.2.1,c.2.2.2.2.2.2.2,a.2.2.2.2.1,a.2.2.2.2.2.1,c.2.2.1,c.2.2.2.1,c.2.2.2.2.1,c.2.2.2.2.2.1,c.2.2.2.2.2.2.1)
def pH:FL:=(216,⟨[.val true xl true],[.val true xl (some true)],λa=>ba a⟩)::pG
theorem vW:Gd pH:=xf vV 216 Tryz.f216 [(0,⟨⟨[(4,false,[dI])],[(1024,.box [dI,dS,.same 3,.own 1000000000,.same 5,.same 6,dI,dI,dI,dI,dI]),(1000000000,.root xv true)]⟩,
 ⟨[],[(1024,.box [dI,dS,.same 3,.own 1000000300,.same 5,.same 6,dI,dI,dI,dI,dI]),(1000000300,.root xv true)]⟩,none⟩)] Tryz.func216
def vX (b:List Int) (c:List Int) (a:Int):Option (Int⊕(Unit⊕Bool)) :=cond (decide (a<(b.length:Int))) ((at? b a).bind λd =>(at? c a).bind λe =>cond (d != e) (some (.inr (.inr false))) (some (.inl (wZ (a+1))))) (some (.inr (.inl ())))
def cP (a:List Int) (b:List Int):Option Bool :=cond ((a.length:Int) != (b.length:Int)) (some false) ((loop (λc=>vX a b c) 0).bind (Sum.elim (λe =>some true) (λd=>some d)))
def pI:FL:=(366,⟨[.val false zm false,.val false zm false],[.val false xM (some true)],λa=>cP a.1 a.2⟩)::pH
theorem vY:Gd pI:=xf vW 366 Tryz.f366 [(0,⟨⟨[(5,false,[dI])],[]⟩,
 ⟨[],[]⟩,some ⟨[(4,false,[dB])],[]⟩⟩)] Tryz.func366
def jT (b:List Int) (a:List Int):Option Bool :=(cond (decide ((b.length:Int)>(a.length:Int))) ((cut b 0 (a.length:Int)).bind λc =>(cP c a).bind λd =>some d) (some false)).bind λe =>some e
def pJ:FL:=(395,⟨[.val false zm false,.val false zm false],[.val false xM (some true)],λa=>jT a.1 a.2⟩)::pI
theorem vZ:Gd pJ:=xf vY 395 Tryz.f395 [] Tryz.func395
def fZ (a:List Int):Option ((List Int)×Bool) :=(jT a ([1,3,1]:List Int)).bind λb =>cond (!b) (some (([]:List Int),false)) ((cut a 3 (a.length:Int)).bind λc =>some (c,true))
def pK:FL:=(391,⟨[.val false zm false],[.val false zm none,.val false xM (some true)],λa=>fZ a⟩)::pJ
theorem w4:Gd pK:=xf vZ 391 Tryz.f391 [] Tryz.func391
def iF (b:wY) (d:List Int):Option Bool :=(fZ d).bind λa =>cond (!a.2) (some false) (cond ((a.1.length:Int)==2) ((at? a.1 0).bind λe =>(cond (e==1) ((at? a.1 1).bind λf =>some (f==1)) (some false)).bind λg =>some g) (cond ((a.1.length:Int) != 3) (some false) ((at? a.1 0).bind λc =>cond (c==2) ((at? a.1 1).bind λh =>(cond (h==2) (some true) ((at? a.1 1).bind λi =>some (i==4))).bind λj =>(cond j ((at? a.1 2).bind λk =>(ac k 1 (b.2.2.1.length:Int)).bind λl =>some l) (some false)).bind λm =>some m) (cond (c==3) ((at? a.1 1).bind λn =>(cond (n==1) ((at? a.1 2).bind λo =>(ac o 1 99).bind λp =>some p) (some false)).bind λq =>(cond q (some true) ((at? a.1 1).bind λr =>(cond (r==2) (some true) ((at? a.1 1).bind λs =>some (s==3))).bind λt =>(cond t ((at? a.1 2).bind λu =>(aP (b.2.2.2.2.1,b.2.2.2.2.2.1) u).bind λv =>some (decide (v>=0))) (some false)).bind λw =>some w)).bind λx =>some x) (some false)))))
def pL:FL:=(382,⟨[.val true xl false,.val false zm false],[.val false xM (some true)],λa=>iF a.1 a.2⟩)::pK
theorem w5:Gd pL:=xf w4 382 Tryz.f382 [] Tryz.func382
def cQ (b:List xa) (c:Int) (d:Int) (a:Int):Option (Int⊕(Unit⊕Int)) :=cond (decide (a<(b.length:Int))) ((at? b a).bind λe =>(cond (e.1==c) ((at? b a).bind λf =>some (f.2.1==d)) (some false)).bind λg =>cond g (some (.inr (.inr a))) (some (.inl (wZ (a+1))))) (some (.inr (.inl ())))
def eh (a:List xa) (b:Int) (c:Int):Option Int :=(loop (λd=>cQ a b c d) 0).bind (Sum.elim (λf =>some (-1)) (λe=>some e))
def pM:FL:=(291,⟨[.val false (.one (.sl xv)) false,.val false xb false,.val false xb false],[.val false xb (some true)],λa=>eh a.1 a.2.1 a.2.2⟩)::pL
theorem w6:Gd pM:=xf w5 291 Tryz.f291 [(0,⟨⟨(7,false,[dI])::us 22 7 [],[]⟩,
 ⟨[],[]⟩,some ⟨[(6,false,[dI])],[]⟩⟩)] Tryz.func291
def iG (b:wY) (c:List Int):Option Bool :=(fZ c).bind λa =>cond (!a.2) (some false) (cond ((a.1.length:Int)==2) ((at? a.1 0).bind λd =>(cond (d==1) ((at? a.1 1).bind λe =>(ac e 2 5).bind λf =>some f) (some false)).bind λg =>some g) (cond ((a.1.length:Int)==3) ((at? a.1 0).bind λh =>(cond (h==2) ((at? a.1 1).bind λi =>(cond (i==1) (some true) ((at? a.1 1).bind λj =>some (j==3))).bind λk =>some k) (some false)).bind λl =>(cond l ((at? a.1 2).bind λm =>(ac m 1 (b.2.2.1.length:Int)).bind λn =>some n) (some false)).bind λo =>some o) (cond ((a.1.length:Int)==4) ((at? a.1 0).bind λp =>(cond (p==4) ((at? a.1 1).bind λq =>some (q==1)) (some false)).bind λr =>(cond r ((at? a.1 2).bind λs =>(at? a.1 3).bind λt =>(eh b.2.2.2.1 s t).bind λu =>some (decide (u>=0))) (some false)).bind λv =>some v) (some false))))
def pN:FL:=(383,⟨[.val true xl false,.val false zm false],[.val false xM (some true)],λa=>iG a.1 a.2⟩)::pM
theorem w7:Gd pN:=xf w6 383 Tryz.f383 [] Tryz.func383
def jU (a:wY) (g:Int) (d:Int) (c:Int):Option (wY×Int) :=cond (g==2) ((ac c 1 1000).bind λh =>cond (!h) (some (a,2)) ((ix a.2.2.1.length d).bind λe =>(a.2.2.1[e]?).bind λb =>some ((a.1,a.2.1,a.2.2.1.set e (b.1,c,b.2.2.1,b.2.2.2.1,b.2.2.2.2.1,b.2.2.2.2.2.1,b.2.2.2.2.2.2.1,b.2.2.2.2.2.2.2),a.2.2.2.1,a.2.2.2.2.1,a.2.2.2.2.2.1,a.2.2.2.2.2.2.1,a.2.2.2.2.2.2.2.1,a.2.2.2.2.2.2.2.2.1,a.2.2.2.2.2.2.2.2.2.1,a.2.2.2.2.2.2.2.2.2.2),0))) ((ix a.2.2.2.2.2.1.length d).bind λf =>(a.2.2.2.2.2.1[f]?).bind λi =>some ((a.1,a.2.1,a.2.2.1,a.2.2.2.1,a.2.2.2.2.1,a.2.2.2.2.2.1.set f c,a.2.2.2.2.2.2.1,a.2.2.2.2.2.2.2.1,a.2.2.2.2.2.2.2.2.1,a.2.2.2.2.2.2.2.2.2.1,a.2.2.2.2.2.2.2.2.2.2),0))
def pO:FL:=(384,⟨[.val true xl true,.val false xb false,.val false xb false,.val false xb false],[.val true xl (some true),.val false xb (some true)],λa=>jU a.1 a.2.1 a.2.2.1 a.2.2.2⟩)::pN
theorem w9:Gd pO:=xf w7 384 Tryz.f384 [] Tryz.func384
def iH (b:yl) (c:xq) (d:Bool) (a:Int) (e:List xq):Option ((Bool×Int×List xq)⊕(Bool×List xq)) :=cond (decide (a<(b.1.length:Int))) ((cond (!d) ((at? b.1 a).bind λg =>some (decide (g.1>=c.1))) (some false)).bind λh =>cond h ((app e [c]).bind λf =>(at? b.1 a).bind λi =>cond (i.1 != c.1) ((at? b.1 a).bind λj =>(app f [j]).bind λk =>some (.inl (true,wZ (a+1),k))) (some (.inl (true,wZ (a+1),f)))) ((at? b.1 a).bind λl =>cond (l.1 != c.1) ((at? b.1 a).bind λm =>(app e [m]).bind λn =>some (.inl (d,wZ (a+1),n))) (some (.inl (d,wZ (a+1),e))))) (some (.inr (d,e)))
def cR (c:yl) (d:xq):Option yl :=(app ([]:List Int) c.2).bind λe =>(loop (λa=>iH c d a.1 a.2.1 a.2.2) (false,0,[])).bind λb =>cond (!b.1) ((app b.2 [d]).bind λf =>some (f,e)) (some (b.2,e))
def pP:FL:=(350,⟨[.val true zi false,.val true yi false],[.val true zi (some true)],λa=>cR a.1 a.2⟩)::pO
theorem wa:Gd pP:=xf w9 350 Tryz.f350 [(0,⟨⟨(6,false,[dB])::(7,false,[dI])::us 23 9 [],[(268288,.box [.own 1000000000,.same 266240]),(1000000000,.root yi true)]⟩,
 ⟨[(6,false,[dB])],[(268288,.box [.own 1000000300,.same 266240]),(1000000300,.root yi true)]⟩,none⟩)] Tryz.func350
def jV (a:wY) (c:Int) (d:Int):Option (wY×Int) :=(aP (a.2.2.2.2.1,a.2.2.2.2.2.1) c).bind λb =>(cond (d==4) (some (decide (b<0))) (some false)).bind λh =>(cond h (some (decide ((a.2.2.2.2.1.length:Int)<6))) (some false)).bind λi =>cond i ((cR (a.2.2.2.2.1,a.2.2.2.2.2.1) (c,0,0)).bind λe =>some ((a.1,a.2.1,a.2.2.1,a.2.2.2.1,e.1,e.2,a.2.2.2.2.2.2.1,a.2.2.2.2.2.2.2.1,a.2.2.2.2.2.2.2.2.1,a.2.2.2.2.2.2.2.2.2.1,a.2.2.2.2.2.2.2.2.2.2),0)) ((cond (d==6) (some (decide (b>=0))) (some false)).bind λj =>cond j ((yX a.2.2.2.2.1.length 0 b).bind λf =>(app ([]:List xq) ((a.2.2.2.2.1.take f.2).drop f.1)).bind λk =>(yX a.2.2.2.2.1.length (wZ (b+1)) (a.2.2.2.2.1.length:Int)).bind λg =>(app k ((a.2.2.2.2.1.take g.2).drop g.1)).bind λl =>some ((a.1,a.2.1,a.2.2.1,a.2.2.2.1,l,a.2.2.2.2.2.1,a.2.2.2.2.2.2.1,a.2.2.2.2.2.2.2.1,a.2.2.2.2.2.2.2.2.1,a.2.2.2.2.2.2.2.2.2.1,a.2.2.2.2.2.2.2.2.2.2),0)) (some (a,2)))
def pQ:FL:=(392,⟨[.val true xl true,.val false xb false,.val false xb false],[.val true xl (some true),.val false xb (some true)],λa=>jV a.1 a.2.1 a.2.2⟩)::pP
theorem wb:Gd pQ:=xf wa 392 Tryz.f392 [] Tryz.func392
def iI (a:wY) (d:Int) (e:Int) (b:Int):Option (wY×Int) :=cond (d==1) ((jV a e b).bind λh =>some h) ((shl .i64 1 (IntKind.u64.wrap ((a.2.2.1.length:Int)))).bind λi =>(ac b 0 (wZ (i-1))).bind λj =>cond (!j) (some (a,2)) ((aP (a.2.2.2.2.1,a.2.2.2.2.2.1) e).bind λk =>(ix a.2.2.2.2.1.length k).bind λl =>(a.2.2.2.2.1[l]?).bind λc =>cond (d==2) ((cR (a.2.2.2.2.1,a.2.2.2.2.2.1) (c.1,b,c.2.2)).bind λf =>some ((a.1,a.2.1,a.2.2.1,a.2.2.2.1,f.1,f.2,a.2.2.2.2.2.2.1,a.2.2.2.2.2.2.2.1,a.2.2.2.2.2.2.2.2.1,a.2.2.2.2.2.2.2.2.2.1,a.2.2.2.2.2.2.2.2.2.2),0)) ((cR (a.2.2.2.2.1,a.2.2.2.2.2.1) (c.1,c.2.1,b)).bind λg =>some ((a.1,a.2.1,a.2.2.1,a.2.2.2.1,g.1,g.2,a.2.2.2.2.2.2.1,a.2.2.2.2.2.2.2.1,a.2.2.2.2.2.2.2.2.1,a.2.2.2.2.2.2.2.2.2.1,a.2.2.2.2.2.2.2.2.2.2),0))))
def pR:FL:=(385,⟨[.val true xl true,.val false xb false,.val false xb false,.val false xb false],[.val true xl (some true),.val false xb (some true)],λa=>iI a.1 a.2.1 a.2.2.1 a.2.2.2⟩)::pQ
theorem wd:Gd pR:=xf wb 385 Tryz.f385 [] Tryz.func385
def ga (d:wY) (b:x7):Option (wY×Int) :=(af d).bind λa =>(iF d b.1).bind λe =>cond (!e) ((iG d b.1).bind λf =>cond f (some (a,4)) (some (a,3))) ((cut b.1 3 (b.1.length:Int)).bind λc =>(at? c 0).bind λg =>cond (g==1) (cond (b.2.1 != 4) (some (a,1)) (let h:=decide ((b.2.2.2.1.length:Int)>10); cond h (some (a,2)) (some ((a.1,b.2.2.2.1,a.2.2.1,a.2.2.2.1,a.2.2.2.2.1,a.2.2.2.2.2.1,a.2.2.2.2.2.2.1,a.2.2.2.2.2.2.2.1,a.2.2.2.2.2.2.2.2.1,a.2.2.2.2.2.2.2.2.2.1,a.2.2.2.2.2.2.2.2.2.2),0)))) (cond (b.2.1 != 2) (some (a,1)) ((at? c 0).bind λi =>cond (i==2) ((at? c 1).bind λj =>(at? c 2).bind λk =>(jU a j (wZ (k-1)) b.2.2.1).bind λl =>some l) ((at? c 1).bind λm =>(at? c 2).bind λn =>(iI a m n b.2.2.1).bind λo =>some o))))
def pS:FL:=(367,⟨[.val true xl false,.val true xp false],[.val true xl (some true),.val false xb (some true)],λa=>ga a.1 a.2⟩)::pR
theorem we:Gd pS:=xf wd 367 Tryz.f367 [] Tryz.func367
def gb (l:wY) (d:List x7) (b:Int) (c:Int) (e:Int) (f:List UInt8) (g:Int) (h:Int) (i:Int) (j:Int) (k:Int):Option ((Int×Int×List UInt8×Int×Int×Int×Int×Int)⊕((Int×List UInt8×Int×Int×Int×Int×Int)⊕(Int×Int×Int×List UInt8×Int×Int×Int×Int×Int×List Pt×List xa×List xq×List Int))) :=cond (decide (c<b)) ((at? d c).bind λm =>(at? d b).bind λn =>(cP m.1 n.1).bind λo =>cond o ((af l).bind λa =>some (.inr (.inr (5,wZ (b+1),a.1,a.2.1,a.2.2.2.2.2.2.1,a.2.2.2.2.2.2.2.1,a.2.2.2.2.2.2.2.2.1,a.2.2.2.2.2.2.2.2.2.1,a.2.2.2.2.2.2.2.2.2.2,a.2.2.1,a.2.2.2.1,a.2.2.2.2.1,a.2.2.2.2.2.1)))) (some (.inl (wZ (c+1),e,f,g,h,i,j,k)))) (some (.inr (.inl (e,f,g,h,i,j,k))))
def iJ (g:wY) (f:List x7) (e:Int) (h:Int) (i:List UInt8) (j:Int) (k:Int) (l:Int) (m:Int) (n:Int) (o:Int) (p:List UInt8) (q:Int) (r:Int) (s:Int) (t:Int) (u:Int) (v:List Pt) (w:List xa) (x:List xq) (y:List Int) (z:List Pt) (A:List xa) (B:List xq) (C:List Int):Option ((Int×Int×List UInt8×Int×Int×Int×Int×Int×Int×List UInt8×Int×Int×Int×Int×Int×List Pt×List xa×List xq×List Int×List Pt×List xa×List xq×List Int)⊕((Int×List UInt8×Int×Int×Int×Int×Int×Int×List UInt8×Int×Int×Int×Int×Int×List Pt×List xa×List xq×List Int×List Pt×List xa×List xq×List Int)⊕(Int×Int×Int×List UInt8×Int×Int×Int×Int×Int×List Pt×List xa×List xq×List Int))) :=cond (decide (e<(f.length:Int))) ((loop (λc=>gb g f e c.1 c.2.1 c.2.2.1 c.2.2.2.1 c.2.2.2.2.1 c.2.2.2.2.2.1 c.2.2.2.2.2.2.1 c.2.2.2.2.2.2.2) (0,h,i,j,k,l,m,n)).bind (Sum.elim (λd =>(at? f e).bind λD =>(ga (o,p,z,A,B,C,q,r,s,t,u) D).bind λa =>cond (a.2 != 0) ((af g).bind λb =>some (.inr (.inr (a.2,wZ (e+1),b.1,b.2.1,b.2.2.2.2.2.2.1,b.2.2.2.2.2.2.2.1,b.2.2.2.2.2.2.2.2.1,b.2.2.2.2.2.2.2.2.2.1,b.2.2.2.2.2.2.2.2.2.2,b.2.2.1,b.2.2.2.1,b.2.2.2.2.1,b.2.2.2.2.2.1)))) (some (.inl (wZ (e+1),d.1,d.2.1,d.2.2.1,d.2.2.2.1,d.2.2.2.2.1,d.2.2.2.2.2.1,d.2.2.2.2.2.2,a.1.1,a.1.2.1,a.1.2.2.2.2.2.2.1,a.1.2.2.2.2.2.2.2.1,a.1.2.2.2.2.2.2.2.2.1,a.1.2.2.2.2.2.2.2.2.2.1,a.1.2.2.2.2.2.2.2.2.2.2,v,w,x,y,a.1.2.2.1,a.1.2.2.2.1,a.1.2.2.2.2.1,a.1.2.2.2.2.2.1)))) (λE=>some (.inr (.inr E))))) (some (.inr (.inl (h,i,j,k,l,m,n,o,p,q,r,s,t,u,v,w,x,y,z,A,B,C))))
def iK (e:wY) (f:List x7):Option (wY×Int×Int) :=(af e).bind λd =>(aZ e).bind λg =>(cond (!g) (some (decide ((f.length:Int)>0))) (some false)).bind λh =>cond h (some (d,3,1)) ((loop (λb=>iJ e f b.1 b.2.1 b.2.2.1 b.2.2.2.1 b.2.2.2.2.1 b.2.2.2.2.2.1 b.2.2.2.2.2.2.1 b.2.2.2.2.2.2.2.1 b.2.2.2.2.2.2.2.2.1 b.2.2.2.2.2.2.2.2.2.1 b.2.2.2.2.2.2.2.2.2.2.1 b.2.2.2.2.2.2.2.2.2.2.2.1 b.2.2.2.2.2.2.2.2.2.2.2.2.1 b.2.2.2.2.2.2.2.2.2.2.2.2.2.1 b.2.2.2.2.2.2.2.2.2.2.2.2.2.2.1 b.2.2.2.2.2.2.2.2.2.2.2.2.2.2.2.1 b.2.2.2.2.2.2.2.2.2.2.2.2.2.2.2.2.1 b.2.2.2.2.2.2.2.2.2.2.2.2.2.2.2.2.2.1 b.2.2.2.2.2.2.2.2.2.2.2.2.2.2.2.2.2.2.1 b.2.2.2.2.2.2.2.2.2.2.2.2.2.2.2.2.2.2.2.1 b.2.2.2.2.2.2.2.2.2.2.2.2.2.2.2.2.2.2.2.2.1 b.2.2.2.2.2.2.2.2.2.2.2.2.2.2.2.2.2.2.2.2.2.1 b.2.2.2.2.2.2.2.2.2.2.2.2.2.2.2.2.2.2.2.2.2.2) (0,0,[],0,0,0,0,0,d.1,d.2.1,d.2.2.2.2.2.2.1,d.2.2.2.2.2.2.2.1,d.2.2.2.2.2.2.2.2.1,d.2.2.2.2.2.2.2.2.2.1,d.2.2.2.2.2.2.2.2.2.2,[],[],[],[],d.2.2.1,d.2.2.2.1,d.2.2.2.2.1,d.2.2.2.2.2.1)).bind (Sum.elim (λa =>cond ((f.length:Int)==0) (some ((a.2.2.2.2.2.2.2.1,a.2.2.2.2.2.2.2.2.1,a.2.2.2.2.2.2.2.2.2.2.2.2.2.2.2.2.2.2.1,a.2.2.2.2.2.2.2.2.2.2.2.2.2.2.2.2.2.2.2.1,a.2.2.2.2.2.2.2.2.2.2.2.2.2.2.2.2.2.2.2.2.1,a.2.2.2.2.2.2.2.2.2.2.2.2.2.2.2.2.2.2.2.2.2,a.2.2.2.2.2.2.2.2.2.1,a.2.2.2.2.2.2.2.2.2.2.1,a.2.2.2.2.2.2.2.2.2.2.2.1,a.2.2.2.2.2.2.2.2.2.2.2.2.1,a.2.2.2.2.2.2.2.2.2.2.2.2.2.1),0,0)) ((dX a.2.2.2.2.2.2.2.2.2.2.2.2.2.2.2.2.2.2.2.2 (a.2.2.2.2.2.2.2.2.2.2.2.2.2.2.2.2.2.2.1.length:Int)).bind λi =>cond (!i) ((af e).bind λj =>some (j,5,(f.length:Int))) ((ba (a.2.2.2.2.2.2.2.1,a.2.2.2.2.2.2.2.2.1,a.2.2.2.2.2.2.2.2.2.2.2.2.2.2.2.2.2.2.1,a.2.2.2.2.2.2.2.2.2.2.2.2.2.2.2.2.2.2.2.1,a.2.2.2.2.2.2.2.2.2.2.2.2.2.2.2.2.2.2.2.2.1,a.2.2.2.2.2.2.2.2.2.2.2.2.2.2.2.2.2.2.2.2.2,a.2.2.2.2.2.2.2.2.2.1,a.2.2.2.2.2.2.2.2.2.2.1,a.2.2.2.2.2.2.2.2.2.2.2.1,a.2.2.2.2.2.2.2.2.2.2.2.2.1,a.2.2.2.2.2.2.2.2.2.2.2.2.2.1)).bind λk =>some (k,0,0)))) (λc=>some ((c.2.2.1,c.2.2.2.1,c.2.2.2.2.2.2.2.2.2.1,c.2.2.2.2.2.2.2.2.2.2.1,c.2.2.2.2.2.2.2.2.2.2.2.1,c.2.2.2.2.2.2.2.2.2.2.2.2,c.2.2.2.2.1,c.2.2.2.2.2.1,c.2.2.2.2.2.2.1,c.2.2.2.2.2.2.2.1,c.2.2.2.2.2.2.2.2.1),c.1,c.2.1))))
def pT:FL:=(334,⟨[.val true xl false,.val false (.one (.sl xp)) false],[.val true xl (some true),.val false xb (some true),.val false xb (some true)],λa=>iK a.1 a.2⟩)::pS
theorem wg:Gd pT:=xf we 334 Tryz.f334 [(0,⟨⟨[(8,false,[dI])],[(2048,.box [dI,dS,.own 1000000000,.own 1000000001,.own 1000000002,.own 1000000003,dI,dI,dI,dI,dI]),(265216,.box [dI,dS,.own 1000000004,.own 1000000005,.own 1000000006,.own 1000000007,dI,dI,dI,dI,dI]),(1000000000,.root zd true),(1000000001,.root xv true),(1000000002,.root yi true),(1000000003,.root xb true),(1000000004,.root zd true),(1000000005,.root xv true),(1000000006,.root yi true),(1000000007,.root xb true)]⟩,
 ⟨[],[(2048,.box [dI,dS,.own 1000000300,.own 1000000301,.own 1000000302,.own 1000000303,dI,dI,dI,dI,dI]),(265216,.box [dI,dS,.own 1000000304,.own 1000000305,.own 1000000306,.own 1000000307,dI,dI,dI,dI,dI]),(1000000300,.root zd true),(1000000301,.root xv true),(1000000302,.root yi true),(1000000303,.root xb true),(1000000304,.root zd true),(1000000305,.root xv true),(1000000306,.root yi true),(1000000307,.root xb true)]⟩,some ⟨[(5,false,[dI]),(6,false,[dI])],[(2048,.box [dI,dS,.own 1000000600,.own 1000000601,.own 1000000602,.own 1000000603,dI,dI,dI,dI,dI]),(1000000600,.root zd true),(1000000601,.root xv true),(1000000602,.root yi true),(1000000603,.root xb true)]⟩⟩),
 (2,⟨⟨[(9,false,[dI])],[(2048,.box [dI,dS,.same 1000000000,.same 1000000001,.same 1000000002,.same 1000000003,dI,dI,dI,dI,dI])]⟩,
 ⟨[],[(2048,.box [dI,dS,.same 1000000000,.same 1000000001,.same 1000000002,.same 1000000003,dI,dI,dI,dI,dI])]⟩,some ⟨[(5,false,[dI]),(6,false,[dI])],[(2048,.box [dI,dS,.own 1000002600,.own 1000002601,.own 1000002602,.own 1000002603,dI,dI,dI,dI,dI]),(1000002600,.root zd true),(1000002601,.root xv true),(1000002602,.root yi true),(1000002603,.root xb true)]⟩⟩)] Tryz.func334
def gd (d:wY) (b:xE):Option (wY×xE) :=(cJ b.2.2.2.2).bind λc =>(iK d b.2.2.2.2).bind λa =>(ef (162,b.2.1,a.2.1,a.2.2,c)).bind λe =>(cond (!e) (some true) (some (a.2.1 != 0))).bind λf =>cond f ((af d).bind λg =>(cO (162,b.2.1,a.2.1,a.2.2,c) false).bind λh =>some (g,h)) (some (a.1,(162,b.2.1,a.2.1,a.2.2,c)))
def pU:FL:=(275,⟨[.val true xl false,.val true zo false],[.val true xl (some true),.val true zo (some true)],λa=>gd a.1 a.2⟩)::pT
theorem wh:Gd pU:=xf wg 275 Tryz.f275 [] Tryz.func275
def iL (a:xk) (e:Int):Option (xk×List xX) :=(ix a.2.2.2.2.2.2.2.2.2.2.2.2.1.length e).bind λg =>(a.2.2.2.2.2.2.2.2.2.2.2.2.1[g]?).bind λd =>cond (a.2.2.2.2.2.2.2.2.2.2.1==d.2.2.2.2.2.2.2.2.2.2.2.2.2.2.2.2.2.2.1) ((gd (a.1,a.2.1,a.2.2.1,a.2.2.2.1,a.2.2.2.2.1,a.2.2.2.2.2.1,a.2.2.2.2.2.2.1,a.2.2.2.2.2.2.2.1,a.2.2.2.2.2.2.2.2.1,a.2.2.2.2.2.2.2.2.2.1,a.2.2.2.2.2.2.2.2.2.2.1) (d.2.2.2.1,d.2.2.2.2.1,d.2.2.2.2.2.1,d.2.2.2.2.2.2.1,d.2.2.2.2.2.2.2.1)).bind λc =>(ee (c.1.1,c.1.2.1,c.1.2.2.1,c.1.2.2.2.1,c.1.2.2.2.2.1,c.1.2.2.2.2.2.1,c.1.2.2.2.2.2.2.1,c.1.2.2.2.2.2.2.2.1,c.1.2.2.2.2.2.2.2.2.1,c.1.2.2.2.2.2.2.2.2.2.1,c.1.2.2.2.2.2.2.2.2.2.2,a.2.2.2.2.2.2.2.2.2.2.2.1,a.2.2.2.2.2.2.2.2.2.2.2.2.1,a.2.2.2.2.2.2.2.2.2.2.2.2.2.1,a.2.2.2.2.2.2.2.2.2.2.2.2.2.2) e c.2).bind λh =>some h) (cond (decide (d.2.2.2.2.2.2.2.2.2.2.2.2.2.2.2.2.2.2.2.2>=3)) ((cJ d.2.2.2.2.2.2.2.1).bind λi =>(cO (162,d.2.2.2.2.1,6,1,i) false).bind λj =>(ee a e j).bind λk =>some k) ((ix a.2.2.2.2.2.2.2.2.2.2.2.2.1.length e).bind λf =>(a.2.2.2.2.2.2.2.2.2.2.2.2.1[f]?).bind λb =>(fT (a.1,a.2.1,a.2.2.1,a.2.2.2.1,a.2.2.2.2.1,a.2.2.2.2.2.1,a.2.2.2.2.2.2.1,a.2.2.2.2.2.2.2.1,a.2.2.2.2.2.2.2.2.1,a.2.2.2.2.2.2.2.2.2.1,a.2.2.2.2.2.2.2.2.2.2.1,a.2.2.2.2.2.2.2.2.2.2.2.1,a.2.2.2.2.2.2.2.2.2.2.2.2.1.set f (b.1,b.2.1,b.2.2.1,b.2.2.2.1,b.2.2.2.2.1,b.2.2.2.2.2.1,b.2.2.2.2.2.2.1,b.2.2.2.2.2.2.2.1,b.2.2.2.2.2.2.2.2.1,b.2.2.2.2.2.2.2.2.2.1,b.2.2.2.2.2.2.2.2.2.2.1,b.2.2.2.2.2.2.2.2.2.2.2.1,b.2.2.2.2.2.2.2.2.2.2.2.2.1,b.2.2.2.2.2.2.2.2.2.2.2.2.2.1,b.2.2.2.2.2.2.2.2.2.2.2.2.2.2.1,b.2.2.2.2.2.2.2.2.2.2.2.2.2.2.2.1,b.2.2.2.2.2.2.2.2.2.2.2.2.2.2.2.2.1,b.2.2.2.2.2.2.2.2.2.2.2.2.2.2.2.2.2.1,b.2.2.2.2.2.2.2.2.2.2.2.2.2.2.2.2.2.2.1,b.2.2.2.2.2.2.2.2.2.2.2.2.2.2.2.2.2.2.2.1,wZ (d.2.2.2.2.2.2.2.2.2.2.2.2.2.2.2.2.2.2.2.2+1)),a.2.2.2.2.2.2.2.2.2.2.2.2.2.1,a.2.2.2.2.2.2.2.2.2.2.2.2.2.2) e).bind λl =>some (l,([]:List xX))))
def pV:FL:=(181,⟨[.ptr xL (some false),.val false xb false],[.val false (.one (.sl zK)) (some false)],λa=>iL a.1 a.2⟩)::pU
theorem wi:Gd pV:=xf wh 181 Tryz.f181 [] Tryz.func181
def jW (b:wY) (a:xE):Option Bool :=(aZ b).bind λc =>(cond c ((bK a).bind λd =>some d) (some false)).bind λe =>(cond e (some (a.1 != 162)) (some false)).bind λf =>some f
def pW:FL:=(277,⟨[.val true xl false,.val true zo false],[.val false xM (some true)],λa=>jW a.1 a.2⟩)::pV
theorem wj:Gd pW:=xf wi 277 Tryz.f277 [] Tryz.func277
def cS (a:List Int):Option (List Int) :=(app ([1,3,1]:List Int) a).bind λb =>some b
def pX:FL:=(307,⟨[.val false zm false],[.val false zm (some true)],λa=>cS a⟩)::pW
theorem wk:Gd pX:=xf wj 307 Tryz.f307 [] Tryz.func307
def jX (a:Int):Option A6 :=some (2,a,[],[])
def pY:FL:=(219,⟨[.val false xb false],[.val true Bb (some true)],λa=>jX a⟩)::pX
theorem wl:Gd pY:=xf wk 219 Tryz.f219 [] Tryz.func219
def aj (b:List x7) (c:List Int) (d:Int):Option (List x7) :=(cS c).bind λe =>(jX d).bind λa =>(app b [(e,a.1,a.2.1,a.2.2.1,a.2.2.2)]).bind λf =>some f
def pZ:FL:=(351,⟨[.val false (.one (.sl xp)) true,.val false zm false,.val false xb false],[.val false (.one (.sl xp)) (some true)],λa=>aj a.1 a.2.1 a.2.2⟩)::pY
theorem wm:Gd pZ:=xf wl 351 Tryz.f351 [] Tryz.func351
def iM (a:wY) (c:Int) (b:Int):Option Int :=cond (c==1) ((at? a.2.2.1 b).bind λd =>cond d.1 (some 1) (some 0)) (cond (c==2) ((at? a.2.2.1 b).bind λe =>some e.2.1) (cond (c==3) ((fW a.1 a.2.2.1 b).bind λf =>some f) ((at? a.2.2.2.2.2.1 b).bind λg =>some g)))
def q8:FL:=(352,⟨[.val true xl false,.val false xb false,.val false xb false],[.val false xb (some true)],λa=>iM a.1 a.2.1 a.2.2⟩)::pZ
theorem wo:Gd q8:=xf wm 352 Tryz.f352 [] Tryz.func352
def jY (a:xq) (b:Int):Option Int :=cond (b==1) (some 1) (cond (b==2) (some a.2.1) (some a.2.2))
def q9:FL:=(353,⟨[.val true yi false,.val false xb false],[.val false xb (some true)],λa=>jY a.1 a.2⟩)::q8
theorem wq:Gd q9:=xf wo 353 Tryz.f353 [] Tryz.func353
def jZ (b:wY) (c:Int) (a:Int) (d:List x7):Option ((Int×List x7)⊕(List x7)) :=cond (decide (a<(b.2.2.1.length:Int))) ((iM b c a).bind λe =>(aj d [2,c,wZ (a+1)] e).bind λf =>some (.inl (wZ (a+1),f))) (some (.inr d))
def kc (d:wY) (a:Int) (b:List x7):Option ((Int×List x7)⊕(List x7)) :=cond (decide (a<=4)) ((loop (λc=>jZ d a c.1 c.2) (0,b)).bind λe =>some (.inl (wZ (a+1),e))) (some (.inr b))
def ke (b:wY) (c:Int) (a:Int) (d:List x7):Option ((Int×List x7)⊕(List x7)) :=cond (decide (a<(b.2.2.2.2.1.length:Int))) ((at? b.2.2.2.2.1 a).bind λe =>(at? b.2.2.2.2.1 a).bind λf =>(jY f c).bind λg =>(aj d [3,c,e.1] g).bind λh =>some (.inl (wZ (a+1),h))) (some (.inr d))
def ge (d:wY) (a:Int) (b:List x7):Option ((Int×List x7)⊕(List x7)) :=cond (decide (a<=3)) ((loop (λc=>ke d a c.1 c.2) (0,b)).bind λe =>some (.inl (wZ (a+1),e))) (some (.inr b))
def kf (b:wY) (a:Int) (c:List x7):Option ((Int×List x7)⊕(List x7)) :=cond (decide (a<(b.2.2.2.1.length:Int))) ((at? b.2.2.2.1 a).bind λd =>(at? b.2.2.2.1 a).bind λe =>(at? b.2.2.2.1 a).bind λf =>(aj c [4,1,d.1,e.2.1] (wZ (f.2.2.1+1))).bind λg =>some (.inl (wZ (a+1),g))) (some (.inr c))
def ei (a:wY):Option (List x7) :=(aZ a).bind λc =>cond (!c) (some ([]:List x7)) ((cS ([1,1]:List Int)).bind λd =>(aj ([(d,4,0,a.2.1,[])]) ([1,2]:List Int) a.2.2.2.2.2.2.1).bind λe =>(aj e ([1,3]:List Int) a.2.2.2.2.2.2.2.1).bind λf =>(aj f ([1,4]:List Int) a.2.2.2.2.2.2.2.2.1).bind λg =>(aj g ([1,5]:List Int) a.2.2.2.2.2.2.2.2.2.1).bind λh =>(loop (λb=>kc a b.1 b.2) (1,h)).bind λi =>(loop (λb=>ge a b.1 b.2) (1,i)).bind λj =>(loop (λb=>kf a b.1 b.2) (0,j)).bind λk =>some k)
def qc:FL:=(306,⟨[.val true xl false],[.val false (.one (.sl xp)) (some true)],λa=>ei a⟩)::q9
theorem wu:Gd qc:=xf wq 306 Tryz.f306 [(0,⟨⟨[(3,false,[.own 1000000000]),(4,false,[dI])],[(1000000000,.root xp true)]⟩,
 ⟨[(3,false,[.own 1000000300])],[(1000000300,.root xp true)]⟩,none⟩),
 (2,⟨⟨[(3,false,[.own 1000002000]),(5,false,[dI])],[(1000002000,.root xp true)]⟩,
 ⟨[(3,false,[.own 1000002300])],[(1000002300,.root xp true)]⟩,none⟩),
 (4,⟨⟨[(3,false,[.own 1000004000]),(6,false,[dI])],[(1000004000,.root xp true)]⟩,
 ⟨[(3,false,[.own 1000004300])],[(1000004300,.root xp true)]⟩,none⟩),
 (6,⟨⟨[(3,false,[.own 1000006000]),(7,false,[dI])],[(1000006000,.root xp true)]⟩,
 ⟨[(3,false,[.own 1000006300])],[(1000006300,.root xp true)]⟩,none⟩),
 (8,⟨⟨[(3,false,[.own 1000008000]),(8,false,[dI])],[(1000008000,.root xp true)]⟩,
 ⟨[(3,false,[.own 1000008300])],[(1000008300,.root xp true)]⟩,none⟩)] Tryz.func306
def wv (b:List Int) (c:List Int) (a:Int):Option (Int⊕(Unit⊕Bool)) :=(cond (decide (a<(b.length:Int))) (some (decide (a<(c.length:Int)))) (some false)).bind λd =>cond d ((at? b a).bind λe =>(at? c a).bind λf =>cond (e != f) ((at? b a).bind λg =>(at? c a).bind λh =>some (.inr (.inr (decide (g<h))))) (some (.inl (wZ (a+1))))) (some (.inr (.inl ())))
def kg (a:List Int) (b:List Int):Option Bool :=(loop (λc=>wv a b c) 0).bind (Sum.elim (λf =>let d:=decide ((a.length:Int)<(b.length:Int)); some d) (λe=>some e))
def qd:FL:=(386,⟨[.val false zm false,.val false zm false],[.val false xM (some true)],λa=>kg a.1 a.2⟩)::qc
theorem wx:Gd qd:=xf wu 386 Tryz.f386 [(0,⟨⟨(5,false,[dI])::us 11 4 [],[]⟩,
 ⟨[],[]⟩,some ⟨[(4,false,[dB])],[]⟩⟩)] Tryz.func386
def kh (h:List Int) (a:List x7) (b:Int) (c:Int) (d:Int) (e:List UInt8) (f:List Int) (g:List Int):Option ((Int×Int×Int×List UInt8×List Int×List Int)⊕((Int×Int×List UInt8×List Int×List Int)⊕(List Int×Int×Int×List UInt8×List Int))) :=cond (decide (b<(a.length:Int))) ((ix a.length b).bind λi =>(a[i]?).bind λj =>(kg h j.1).bind λk =>cond k ((ix a.length b).bind λl =>(a[l]?).bind λm =>some (.inr (.inr m))) (some (.inl (wZ (b+1),c,d,e,f,g)))) (some (.inr (.inl (c,d,e,f,g))))
def iN (c:wY) (b:List Int):Option x7 :=(ei c).bind λd =>(loop (λa=>kh b d a.1 a.2.1 a.2.2.1 a.2.2.2.1 a.2.2.2.2.1 a.2.2.2.2.2) (0,0,0,[],[],[])).bind (Sum.elim (λg =>(app ([]:List Int) b).bind λe =>some (e,130,0,[],[])) (λf=>some f))
def qe:FL:=(368,⟨[.val true xl false,.val false zm false],[.val true xp none],λa=>iN a.1 a.2⟩)::qd
theorem wy:Gd qe:=xf wx 368 Tryz.f368 [(0,⟨⟨[(6,false,[dI])],[(2048,.box [.own 1000000000,dI,dI,dS,.own 1000000001]),(1000000000,.root xb true),(1000000001,.root xb true)]⟩,
 ⟨[],[(2048,.box [.own 1000000300,dI,dI,dS,.own 1000000301]),(1000000300,.root xb true),(1000000301,.root xb true)]⟩,some ⟨[],[(2048,.box [.dat (.sl xb),dI,dI,dS,.dat (.sl xb)])]⟩⟩)] Tryz.func368
def gg (d:wY) (b:List x7) (a:Int) (c:List x7):Option ((Int×List x7)⊕(List x7)) :=cond (decide (a<(b.length:Int))) ((at? b a).bind λe =>cond (e.2.1==130) ((at? b a).bind λf =>(app c [f]).bind λg =>some (.inl (wZ (a+1),g))) ((at? b a).bind λh =>(iN d h.1).bind λi =>(app c [i]).bind λj =>some (.inl (wZ (a+1),j)))) (some (.inr c))
def bx (b:wY) (c:List x7):Option (List x7) :=(loop (λa=>gg b c a.1 a.2) (0,([]:List x7))).bind λd =>some d
def qf:FL:=(336,⟨[.val true xl false,.val false (.one (.sl xp)) false],[.val false (.one (.sl xp)) (some false)],λa=>bx a.1 a.2⟩)::qe
theorem wz:Gd qf:=xf wy 336 Tryz.f336 [(0,⟨⟨[(5,false,[.own 1000000000]),(6,false,[dI])],[(1000000000,.root xp false)]⟩,
 ⟨[(5,false,[.own 1000000300])],[(1000000300,.root xp false)]⟩,none⟩)] Tryz.func336
def gh (b:List x7) (a:Int) (c:List x7):Option ((Int×List x7)⊕(List x7)) :=cond (decide (a<(b.length:Int))) ((at? b a).bind λd =>(app c ([(d.1,5,0,[],[])])).bind λe =>some (.inl (wZ (a+1),e))) (some (.inr c))
def cU (b:List x7):Option (List x7) :=(loop (λa=>gh b a.1 a.2) (0,([]:List x7))).bind λc =>some c
def qg:FL:=(337,⟨[.val false (.one (.sl xp)) false],[.val false (.one (.sl xp)) (some false)],λa=>cU a⟩)::qf
theorem wA:Gd qg:=xf wz 337 Tryz.f337 [(0,⟨⟨[(3,false,[.own 1000000000]),(4,false,[dI])],[(1000000000,.root xp false)]⟩,
 ⟨[(3,false,[.own 1000000300])],[(1000000300,.root xp false)]⟩,none⟩)] Tryz.func337
def bM (e:wY) (f:xE) (b:List x7) (c:Int) (a:List x7):Option ((List x7×Int×List x7)⊕(List x7)) :=(cond (decide (c<f.2.2.2.1)) (some (decide ((b.length:Int)>0))) (some false)).bind λg =>(cond g (some (decide ((a.length:Int)<10))) (some false)).bind λh =>cond h ((bx e b).bind λd =>(app a d).bind λi =>some (.inl (d,wZ (c+1),i))) (some (.inr a))
def wB (e:wY) (f:xE) (b:List x7) (c:Int) (a:List x7):Option ((List x7×Int×List x7)⊕(List x7)) :=(cond (decide (c<f.2.2.2.1)) (some (decide ((b.length:Int)>0))) (some false)).bind λg =>(cond g (some (decide ((a.length:Int)<10))) (some false)).bind λh =>cond h ((bx e b).bind λd =>(app a d).bind λi =>some (.inl (d,wZ (c+1),i))) (some (.inr a))
def iO (c:wY) (a:xE):Option (List x7) :=cond (decide (a.2.2.1>(a.2.2.2.2.length:Int))) (let h:=(a.2.2.2.2.length:Int); (cU a.2.2.2.2).bind λd =>(yX d.length 0 h).bind λi =>(bx c ((d.take i.2).drop i.1)).bind λm =>(cut d h (d.length:Int)).bind λn =>(loop (λb=>bM c a b.1 b.2.1 b.2.2) (n,0,m)).bind λe =>cond (decide ((e.length:Int)>10)) ((yX e.length 0 10).bind λj =>some ((e.take j.2).drop j.1)) (some e)) ((cU a.2.2.2.2).bind λf =>(yX f.length 0 a.2.2.1).bind λk =>(bx c ((f.take k.2).drop k.1)).bind λo =>(cut f a.2.2.1 (f.length:Int)).bind λp =>(loop (λb=>wB c a b.1 b.2.1 b.2.2) (p,0,o)).bind λg =>cond (decide ((g.length:Int)>10)) ((yX g.length 0 10).bind λl =>some ((g.take l.2).drop l.1)) (some g))
def qh:FL:=(338,⟨[.val true xl false,.val true zo false],[.val false (.one (.sl xp)) (some false)],λa=>iO a.1 a.2⟩)::qg
theorem wC:Gd qh:=xf wA 338 Tryz.f338 [(0,⟨⟨(7,false,[.own 1000000000])::(8,false,[.dat (.sl xp)])::(9,false,[dI])::us 36 3 (us 41 3 []),[(1000000000,.root xp false)]⟩,
 ⟨[(7,false,[.own 1000000300])],[(1000000300,.root xp false)]⟩,none⟩)] Tryz.func338
def ki (g:List Int) (a:List x7) (b:Int) (c:Int) (d:Int) (e:List UInt8) (f:List Int):Option ((Int×Int×Int×List UInt8×List Int)⊕((Int×Int×List UInt8×List Int)⊕(Int×Int×List UInt8×List Int))) :=cond (decide (b<(a.length:Int))) ((ix a.length b).bind λh =>(a[h]?).bind λi =>(cP i.1 g).bind λj =>cond j ((ix a.length b).bind λk =>(a[k]?).bind λl =>some (.inr (.inr l.2))) (some (.inl (wZ (b+1),c,d,e,f)))) (some (.inr (.inl (c,d,e,f))))
def iP (b:wY) (c:List Int):Option A6 :=(ei b).bind λd =>(loop (λa=>ki c d a.1 a.2.1 a.2.2.1 a.2.2.2.1 a.2.2.2.2) (0,0,0,[],[])).bind (Sum.elim (λf =>some (128,0,[],[])) (λe=>some e))
def qi:FL:=(339,⟨[.val true xl false,.val false zm false],[.val true Bb none],λa=>iP a.1 a.2⟩)::qh
theorem wD:Gd qi:=xf wC 339 Tryz.f339 [(0,⟨⟨[(6,false,[dI])],[(2048,.box [dI,dI,dS,.own 1000000000]),(1000000000,.root xb true)]⟩,
 ⟨[],[(2048,.box [dI,dI,dS,.own 1000000300]),(1000000300,.root xb true)]⟩,some ⟨[],[(2048,.box [dI,dI,dS,.dat (.sl xb)])]⟩⟩)] Tryz.func339
def ej (e:wY) (c:xE) (a:Int) (d:List x7):Option ((Int×List x7)⊕(List x7)) :=cond (decide (a<(c.2.2.2.2.length:Int))) ((at? c.2.2.2.2 a).bind λf =>(app ([]:List Int) f.1).bind λg =>(at? c.2.2.2.2 a).bind λh =>(iP e h.1).bind λb =>(app d [(g,b.1,b.2.1,b.2.2.1,b.2.2.2)]).bind λi =>some (.inl (wZ (a+1),i))) (some (.inr d))
def iQ (b:wY) (a:xE):Option (List x7) :=cond (a.1==161) ((cU a.2.2.2.2).bind λd =>(bx b d).bind λe =>some e) (cond (a.1==165) ((iO b a).bind λf =>some f) ((loop (λc=>ej b a c.1 c.2) (0,([]:List x7))).bind λg =>some g))
def qj:FL:=(278,⟨[.val true xl false,.val true zo false],[.val false (.one (.sl xp)) (some false)],λa=>iQ a.1 a.2⟩)::qi
theorem wE:Gd qj:=xf wD 278 Tryz.f278 [(1,⟨⟨[(5,false,[.own 1000001000]),(6,false,[dI])],[(1000001000,.root xp false)]⟩,
 ⟨[(5,false,[.own 1000001300])],[(1000001300,.root xp false)]⟩,none⟩)] Tryz.func278
def iR (b:wY) (a:xE):Option (wY×xE×Bool) :=(jW b a).bind λd =>cond (!d) ((af b).bind λe =>some (e,(0,0,0,0,[]),false)) (cond (a.1==163) ((gd b a).bind λc =>some (c.1,c.2,true)) ((iQ b a).bind λf =>(cJ f).bind λg =>(af b).bind λh =>(cO (162,a.2.1,0,0,g) (a.1==165)).bind λi =>some (h,i,true)))
def qk:FL:=(182,⟨[.val true xl false,.val true zo false],[.val true xl (some true),.val true zo (some true),.val false xM (some true)],λa=>iR a.1 a.2⟩)::qj
theorem wF:Gd qk:=xf wE 182 Tryz.f182 [] Tryz.func182
def iS (a:xk) (e:Int):Option (xk×List xX) :=(ix a.2.2.2.2.2.2.2.2.2.2.2.2.1.length e).bind λh =>(a.2.2.2.2.2.2.2.2.2.2.2.2.1[h]?).bind λb =>cond (b.2.2.1==0) ((ed a e).bind λi =>some (i,([]:List xX))) ((cond (b.2.2.1==1) (some (decide (b.2.2.2.2.2.2.2.2.2.2.2.2.2.2.2.2.2.2.2.1<(b.2.2.2.2.2.2.2.1.length:Int)))) (some false)).bind λj =>cond j ((ix a.2.2.2.2.2.2.2.2.2.2.2.2.1.length e).bind λf =>(a.2.2.2.2.2.2.2.2.2.2.2.2.1[f]?).bind λc =>some ((a.1,a.2.1,a.2.2.1,a.2.2.2.1,a.2.2.2.2.1,a.2.2.2.2.2.1,a.2.2.2.2.2.2.1,a.2.2.2.2.2.2.2.1,a.2.2.2.2.2.2.2.2.1,a.2.2.2.2.2.2.2.2.2.1,a.2.2.2.2.2.2.2.2.2.2.1,a.2.2.2.2.2.2.2.2.2.2.2.1,a.2.2.2.2.2.2.2.2.2.2.2.2.1.set f (c.1,c.2.1,c.2.2.1,c.2.2.2.1,c.2.2.2.2.1,c.2.2.2.2.2.1,c.2.2.2.2.2.2.1,c.2.2.2.2.2.2.2.1,c.2.2.2.2.2.2.2.2.1,c.2.2.2.2.2.2.2.2.2.1,c.2.2.2.2.2.2.2.2.2.2.1,c.2.2.2.2.2.2.2.2.2.2.2.1,c.2.2.2.2.2.2.2.2.2.2.2.2.1,c.2.2.2.2.2.2.2.2.2.2.2.2.2.1,c.2.2.2.2.2.2.2.2.2.2.2.2.2.2.1,c.2.2.2.2.2.2.2.2.2.2.2.2.2.2.2.1,c.2.2.2.2.2.2.2.2.2.2.2.2.2.2.2.2.1,c.2.2.2.2.2.2.2.2.2.2.2.2.2.2.2.2.2.1,c.2.2.2.2.2.2.2.2.2.2.2.2.2.2.2.2.2.2.1,wZ (b.2.2.2.2.2.2.2.2.2.2.2.2.2.2.2.2.2.2.2.1+1),c.2.2.2.2.2.2.2.2.2.2.2.2.2.2.2.2.2.2.2.2),a.2.2.2.2.2.2.2.2.2.2.2.2.2.1,a.2.2.2.2.2.2.2.2.2.2.2.2.2.2),([]:List xX))) (cond (b.2.2.1==1) ((ix a.2.2.2.2.2.2.2.2.2.2.2.2.1.length e).bind λg =>(a.2.2.2.2.2.2.2.2.2.2.2.2.1[g]?).bind λd =>some ((a.1,a.2.1,a.2.2.1,a.2.2.2.1,a.2.2.2.2.1,a.2.2.2.2.2.1,a.2.2.2.2.2.2.1,a.2.2.2.2.2.2.2.1,a.2.2.2.2.2.2.2.2.1,a.2.2.2.2.2.2.2.2.2.1,a.2.2.2.2.2.2.2.2.2.2.1,a.2.2.2.2.2.2.2.2.2.2.2.1,a.2.2.2.2.2.2.2.2.2.2.2.2.1.set g (d.1,d.2.1,2,d.2.2.2.1,d.2.2.2.2.1,d.2.2.2.2.2.1,d.2.2.2.2.2.2.1,d.2.2.2.2.2.2.2.1,d.2.2.2.2.2.2.2.2.1,d.2.2.2.2.2.2.2.2.2.1,d.2.2.2.2.2.2.2.2.2.2.1,d.2.2.2.2.2.2.2.2.2.2.2.1,d.2.2.2.2.2.2.2.2.2.2.2.2.1,d.2.2.2.2.2.2.2.2.2.2.2.2.2.1,d.2.2.2.2.2.2.2.2.2.2.2.2.2.2.1,d.2.2.2.2.2.2.2.2.2.2.2.2.2.2.2.1,d.2.2.2.2.2.2.2.2.2.2.2.2.2.2.2.2.1,d.2.2.2.2.2.2.2.2.2.2.2.2.2.2.2.2.2.1,d.2.2.2.2.2.2.2.2.2.2.2.2.2.2.2.2.2.2.1,d.2.2.2.2.2.2.2.2.2.2.2.2.2.2.2.2.2.2.2.1,d.2.2.2.2.2.2.2.2.2.2.2.2.2.2.2.2.2.2.2.2),a.2.2.2.2.2.2.2.2.2.2.2.2.2.1,a.2.2.2.2.2.2.2.2.2.2.2.2.2.2),([]:List xX))) (cond (b.2.2.2.1==163) ((iL a e).bind λk =>some k) ((iR (b.2.2.2.2.2.2.2.2.1,b.2.2.2.2.2.2.2.2.2.1,b.2.2.2.2.2.2.2.2.2.2.1,b.2.2.2.2.2.2.2.2.2.2.2.1,b.2.2.2.2.2.2.2.2.2.2.2.2.1,b.2.2.2.2.2.2.2.2.2.2.2.2.2.1,b.2.2.2.2.2.2.2.2.2.2.2.2.2.2.1,b.2.2.2.2.2.2.2.2.2.2.2.2.2.2.2.1,b.2.2.2.2.2.2.2.2.2.2.2.2.2.2.2.2.1,b.2.2.2.2.2.2.2.2.2.2.2.2.2.2.2.2.2.1,b.2.2.2.2.2.2.2.2.2.2.2.2.2.2.2.2.2.2.1) (b.2.2.2.1,b.2.2.2.2.1,b.2.2.2.2.2.1,b.2.2.2.2.2.2.1,b.2.2.2.2.2.2.2.1)).bind λl =>(ee a e l.2.1).bind λm =>some m))))
def qm:FL:=(108,⟨[.ptr xL (some false),.val false xb false],[.val false (.one (.sl zK)) (some false)],λa=>iS a.1 a.2⟩)::qk
theorem wG:Gd qm:=xf wF 108 Tryz.f108 [] Tryz.func108
def df (a:xk) (b:Int):Option (xk×List xX) :=(cj a).bind λc =>(ck a).bind λd =>(cond (!d) (some true) ((ac b 0 (wZ ((a.2.2.2.2.2.2.2.2.2.2.2.2.1.length:Int)-1))).bind λe =>some (!e))).bind λf =>cond f (some (c,([]:List xX))) ((iS c b).bind λg =>some g)
def qn:FL:=(30,⟨[.val true xL false,.val false xb false],[.val true xL (some false),.val false (.one (.sl zK)) (some false)],λa=>df a.1 a.2⟩)::qm
theorem wH:Gd qn:=xf wG 30 Tryz.f30 [] Tryz.func30
def de (b:xk) (c:List Int):Option xk :=(cj b).bind λa =>(ck b).bind λd =>(cond (!d) (some true) (some (decide ((b.2.2.2.2.2.2.2.2.2.2.2.2.1.length:Int)>=6)))).bind λe =>(cond e (some true) (some (decide (b.2.2.2.2.2.2.2.2.2.2.2.2.2.2>=1000000)))).bind λf =>cond f ((ck b).bind λg =>cond g ((aH b.2.2.2.2.2.2.2.2.2.2.2.2.2.1).bind λh =>some (a.1,a.2.1,a.2.2.1,a.2.2.2.1,a.2.2.2.2.1,a.2.2.2.2.2.1,a.2.2.2.2.2.2.1,a.2.2.2.2.2.2.2.1,a.2.2.2.2.2.2.2.2.1,a.2.2.2.2.2.2.2.2.2.1,a.2.2.2.2.2.2.2.2.2.2.1,a.2.2.2.2.2.2.2.2.2.2.2.1,a.2.2.2.2.2.2.2.2.2.2.2.2.1,h,a.2.2.2.2.2.2.2.2.2.2.2.2.2.2)) (some a)) ((app ([]:List Int) c).bind λi =>(app a.2.2.2.2.2.2.2.2.2.2.2.2.1 ([(wZ (b.2.2.2.2.2.2.2.2.2.2.2.2.2.2+1),i,0,0,0,0,0,[],0,[],[],[],[],[],0,0,0,0,0,0,0)])).bind λj =>some (a.1,a.2.1,a.2.2.1,a.2.2.2.1,a.2.2.2.2.1,a.2.2.2.2.2.1,a.2.2.2.2.2.2.1,a.2.2.2.2.2.2.2.1,a.2.2.2.2.2.2.2.2.1,a.2.2.2.2.2.2.2.2.2.1,a.2.2.2.2.2.2.2.2.2.2.1,a.2.2.2.2.2.2.2.2.2.2.2.1,j,a.2.2.2.2.2.2.2.2.2.2.2.2.2.1,wZ (b.2.2.2.2.2.2.2.2.2.2.2.2.2.2+1)))
def qo:FL:=(120,⟨[.val true xL false,.val false yF false],[.val true xL (some true)],λa=>de a.1 a.2⟩)::qn
theorem wI:Gd qo:=xf wH 120 Tryz.f120 [] Tryz.func120
def cY (a:wY) (b:Int):Option Bool :=(aZ a).bind λc =>(cond c ((ac b 0 (wZ ((a.2.2.1.length:Int)-1))).bind λd =>some d) (some false)).bind λe =>some e
def qp:FL:=(196,⟨[.val true xl false,.val false xb false],[.val false xM (some true)],λa=>cY a.1 a.2⟩)::qo
theorem wJ:Gd qp:=xf wI 196 Tryz.f196 [] Tryz.func196
def kj (a:zc):Option Bool :=(ac a.1 0 9999).bind λb =>(cond b ((ac a.2.1 1 9999).bind λc =>some c) (some false)).bind λd =>(cond d ((ac a.2.2.1 0 99).bind λe =>some e) (some false)).bind λf =>(cond f (some (decide ((a.2.2.2.length:Int)<=20))) (some false)).bind λg =>some g
def qq:FL:=(197,⟨[.val true Am false],[.val false xM (some true)],λa=>kj a⟩)::qp
theorem wK:Gd qq:=xf wJ 197 Tryz.f197 [] Tryz.func197
def iT (a:yl) (b:Int) (c:Int):Option (Int×Bool) :=(ac b 0 (wZ ((a.2.length:Int)-1))).bind λg =>cond (!g) (some (0,false)) (cond (c==0) ((at? a.2 b).bind λd =>(aP a d).bind λe =>(cond (decide (e<0)) (some true) ((at? a.1 e).bind λh =>(aQ h.2.1 b).bind λi =>some (!i))).bind λj =>cond j (some (0,false)) (some (d,true))) ((aP a c).bind λf =>(cond (decide (f<0)) (some true) ((at? a.1 f).bind λk =>(aQ k.2.1 b).bind λl =>some (!l))).bind λm =>cond m (some (0,false)) (some (c,true))))
def qr:FL:=(199,⟨[.val true zi false,.val false xb false,.val false xb false],[.val false xb (some true),.val false xM (some true)],λa=>iT a.1 a.2.1 a.2.2⟩)::qq
theorem wL:Gd qr:=xf wK 199 Tryz.f199 [] Tryz.func199
def cV (b:List xa) (c:xa) (d:Bool) (a:Int) (e:List xa):Option ((Bool×Int×List xa)⊕(Bool×List xa)) :=cond (decide (a<(b.length:Int))) ((cond (!d) ((at? b a).bind λg =>(ce g c.1 c.2.1).bind λh =>some (!h)) (some false)).bind λi =>cond i ((app e [c]).bind λf =>(at? b a).bind λj =>(cond (j.1 != c.1) (some true) ((at? b a).bind λk =>some (k.2.1 != c.2.1))).bind λl =>cond l ((at? b a).bind λm =>(app f [m]).bind λn =>some (.inl (true,wZ (a+1),n))) (some (.inl (true,wZ (a+1),f)))) ((at? b a).bind λo =>(cond (o.1 != c.1) (some true) ((at? b a).bind λp =>some (p.2.1 != c.2.1))).bind λq =>cond q ((at? b a).bind λr =>(app e [r]).bind λs =>some (.inl (d,wZ (a+1),s))) (some (.inl (d,wZ (a+1),e))))) (some (.inr (d,e)))
def iU (d:List xa) (c:xa):Option (List xa) :=(loop (λa=>cV d c a.1 a.2.1 a.2.2) (false,0,([]:List xa))).bind λb =>cond (!b.1) ((app b.2 [c]).bind λe =>some e) (some b.2)
def qs:FL:=(293,⟨[.val false (.one (.sl xv)) false,.val true xv false],[.val false (.one (.sl xv)) (some true)],λa=>iU a.1 a.2⟩)::qr
theorem wM:Gd qs:=xf wL 293 Tryz.f293 [(0,⟨⟨(5,false,[.own 1000000000])::(6,false,[dB])::(7,false,[dI])::us 18 10 (us 42 8 []),[(1000000000,.root xv true)]⟩,
 ⟨[(5,false,[.own 1000000300]),(6,false,[dB])],[(1000000300,.root xv true)]⟩,none⟩)] Tryz.func293
def iV (a:List xa) (b:Int) (c:Int) (e:Int):Option (List xa) :=(eh a b c).bind λd =>(fP a).bind λf =>(cond (!f) (some true) ((fO (b,c,e,0,false)).bind λg =>some (!g))).bind λh =>(cond h (some true) ((cond (decide (d>=0)) ((at? a d).bind λi =>some i.2.2.2.2) (some false)).bind λj =>some j)).bind λk =>(cond k (some true) ((cond (decide (d<0)) (some (decide ((a.length:Int)>=12))) (some false)).bind λl =>some l)).bind λm =>cond m ((fK a).bind λn =>some n) ((iU a (b,c,e,0,false)).bind λo =>some o)
def qt:FL:=(201,⟨[.val false (.one (.sl xv)) false,.val false xb false,.val false xb false,.val false xb false],[.val false (.one (.sl xv)) (some true)],λa=>iV a.1 a.2.1 a.2.2.1 a.2.2.2⟩)::qs
theorem wN:Gd qt:=xf wM 201 Tryz.f201 [] Tryz.func201
def kk (a:yl) (c:Int):Option Int :=(aP a c).bind λb =>cond (decide (b<0)) (some 0) ((at? a.1 b).bind λd =>some d.2.1)
def qu:FL:=(202,⟨[.val true zi false,.val false xb false],[.val false xb (some true)],λa=>kk a.1 a.2⟩)::qt
theorem wO:Gd qu:=xf wN 202 Tryz.f202 [] Tryz.func202
def iW (a:List xa) (c:Int) (d:Int):Option Int :=(eh a c d).bind λb =>cond (decide (b<0)) (some (-1)) ((at? a b).bind λe =>some e.2.2.1)
def qv:FL:=(203,⟨[.val false (.one (.sl xv)) false,.val false xb false,.val false xb false],[.val false xb (some true)],λa=>iW a.1 a.2.1 a.2.2⟩)::qu
theorem wP:Gd qv:=xf wO 203 Tryz.f203 [] Tryz.func203
def kl (a:zc):Option zc :=(app ([]:List Int) a.2.2.2).bind λb =>some (a.1,a.2.1,a.2.2.1,b)
def qw:FL:=(347,⟨[.val true Am false],[.val true Am (some true)],λa=>kl a⟩)::qv
theorem wQ:Gd qw:=xf wP 347 Tryz.f347 [] Tryz.func347
def iX (b:zc) (c:Int):Option zc :=(kl b).bind λa =>some (a.1,a.2.1,c,a.2.2.2)
def qx:FL:=(294,⟨[.val true Am false,.val false xb false],[.val true Am (some true)],λa=>iX a.1 a.2⟩)::qw
theorem wR:Gd qx:=xf wQ 294 Tryz.f294 [] Tryz.func294
def iY (a:yl) (b:Int) (d:Int):Option Int :=(aP a b).bind λc =>(cond (decide (c<0)) (some true) ((at? a.1 c).bind λe =>(aQ e.2.2 d).bind λf =>some f)).bind λg =>cond g (some 0) (some b)
def qy:FL:=(295,⟨[.val true zi false,.val false xb false,.val false xb false],[.val false xb (some true)],λa=>iY a.1 a.2.1 a.2.2⟩)::qx
theorem wS:Gd qy:=xf wR 295 Tryz.f295 [] Tryz.func295
def em (c:wY) (e:Int) (f:Int) (g:zc) (a:Int) (d:List xC):Option ((Int×List xC)⊕(List xC)) :=cond (decide (a<(c.2.2.1.length:Int))) ((aQ f a).bind λh =>cond h ((iY (c.2.2.2.2.1,c.2.2.2.2.2.1) e a).bind λi =>(iX g i).bind λb =>(app d [(a,b.1,b.2.1,b.2.2.1,b.2.2.2)]).bind λj =>some (.inl (wZ (a+1),j))) (some (.inl (wZ (a+1),d)))) (some (.inr d))
def cW (b:wY) (c:Int) (d:Int) (e:zc):Option (List xC) :=(loop (λa=>em b c d e a.1 a.2) (0,([]:List xC))).bind λf =>some f
def qz:FL:=(204,⟨[.val true xl false,.val false xb false,.val false xb false,.val true Am false],[.val false (.one (.sl An)) (some true)],λa=>cW a.1 a.2.1 a.2.2.1 a.2.2.2⟩)::qy
theorem wT:Gd qz:=xf wS 204 Tryz.f204 [(0,⟨⟨[(9,false,[.own 1000000000]),(10,false,[dI])],[(1000000000,.root An true)]⟩,
 ⟨[(9,false,[.own 1000000300])],[(1000000300,.root An true)]⟩,none⟩)] Tryz.func204
def da (b:wY) (e:Int) (c:zc):Option (wY×List xC) :=(af b).bind λa =>(cY b e).bind λk =>(cond (!k) (some true) ((kj c).bind λl =>some (!l))).bind λm =>cond m (some (a,([]:List xC))) ((fY b.1 b.2.2.1).bind λi =>(iT (b.2.2.2.2.1,b.2.2.2.2.2.1) e c.2.2.1).bind λd =>(aQ i e).bind λn =>(cond (!n) (some true) (some (!d.2))).bind λo =>cond o ((aH b.2.2.2.2.2.2.2.2.2.1).bind λp =>some ((a.1,a.2.1,a.2.2.1,a.2.2.2.1,a.2.2.2.2.1,a.2.2.2.2.2.1,a.2.2.2.2.2.2.1,a.2.2.2.2.2.2.2.1,a.2.2.2.2.2.2.2.2.1,p,a.2.2.2.2.2.2.2.2.2.2),([]:List xC))) ((iV b.2.2.2.1 d.1 c.2.1 e).bind λf =>(aH b.2.2.2.2.2.2.2.2.2.2).bind λg =>(kk (b.2.2.2.2.1,b.2.2.2.2.2.1) d.1).bind λq =>(shl .i64 1 (IntKind.u64.wrap (e))).bind λr =>let h:=DA .i64 (zA .i64 i q) r; cond (c.1 != 0) ((iW f d.1 c.1).bind λj =>cond (decide (j>=0)) ((shl .i64 1 (IntKind.u64.wrap (j))).bind λs =>(cW b d.1 (zA .i64 h s) c).bind λt =>some ((a.1,a.2.1,a.2.2.1,f,a.2.2.2.2.1,a.2.2.2.2.2.1,a.2.2.2.2.2.2.1,a.2.2.2.2.2.2.2.1,a.2.2.2.2.2.2.2.2.1,a.2.2.2.2.2.2.2.2.2.1,g),t)) ((cW b d.1 h c).bind λu =>some ((a.1,a.2.1,a.2.2.1,f,a.2.2.2.2.1,a.2.2.2.2.2.1,a.2.2.2.2.2.2.1,a.2.2.2.2.2.2.2.1,a.2.2.2.2.2.2.2.2.1,a.2.2.2.2.2.2.2.2.2.1,g),u))) ((cW b d.1 h c).bind λv =>some ((a.1,a.2.1,a.2.2.1,f,a.2.2.2.2.1,a.2.2.2.2.2.1,a.2.2.2.2.2.2.1,a.2.2.2.2.2.2.2.1,a.2.2.2.2.2.2.2.2.1,a.2.2.2.2.2.2.2.2.2.1,g),v))))
def qA:FL:=(121,⟨[.val true xl false,.val false xb false,.val true Am false],[.val true xl (some true),.val false (.one (.sl An)) (some true)],λa=>da a.1 a.2.1 a.2.2⟩)::qz
theorem wU:Gd qA:=xf wT 121 Tryz.f121 [] Tryz.func121
def cX (d:List xa) (b:Int) (c:List xa):Option ((Int×List xa)⊕(List xa)) :=cond (decide (b<(d.length:Int))) ((at? d b).bind λa =>cond a.2.2.2.2 ((app c [a]).bind λe =>some (.inl (wZ (b+1),e))) (cond (decide (a.2.2.2.1<4)) ((app c [(a.1,a.2.1,a.2.2.1,wZ (a.2.2.2.1+1),a.2.2.2.2)]).bind λf =>some (.inl (wZ (b+1),f))) (some (.inl (wZ (b+1),c))))) (some (.inr c))
def iZ (b:List xa):Option (List xa) :=(loop (λa=>cX b a.1 a.2) (0,([]:List xa))).bind λc =>some c
def qB:FL:=(215,⟨[.val false (.one (.sl xv)) false],[.val false (.one (.sl xv)) (some true)],λa=>iZ a⟩)::qA
theorem wV:Gd qB:=xf wU 215 Tryz.f215 [(0,⟨⟨[(3,false,[.own 1000000000]),(4,false,[dI])],[(1000000000,.root xv true)]⟩,
 ⟨[(3,false,[.own 1000000300])],[(1000000300,.root xv true)]⟩,none⟩)] Tryz.func215
def dc (b:wY):Option wY :=(af b).bind λa =>(aZ b).bind λc =>cond (!c) (some a) ((aH b.2.2.2.2.2.2.1).bind λd =>(iZ b.2.2.2.1).bind λe =>(ba (a.1,a.2.1,a.2.2.1,e,a.2.2.2.2.1,a.2.2.2.2.2.1,d,a.2.2.2.2.2.2.2.1,a.2.2.2.2.2.2.2.2.1,a.2.2.2.2.2.2.2.2.2.1,a.2.2.2.2.2.2.2.2.2.2)).bind λf =>some f)
def kq:FL:=(129,⟨[.val true xl false],[.val true xl (some true)],λa=>dc a⟩)::qB
theorem qD:Gd kq:=xf wV 129 Tryz.f129 [] Tryz.func129
def gi (f:wY) (d:Int) (c:BR):Option wY :=(af f).bind λb =>(cY f d).bind λi =>(cond (!i) (some true) ((at? f.2.2.1 d).bind λj =>some (!j.1))).bind λk =>(cond k (some true) ((dW c).bind λl =>some (!l))).bind λm =>cond m (some b) ((ix b.2.2.1.length d).bind λe =>(b.2.2.1[e]?).bind λa =>(ix (b.2.2.1.set e (a.1,a.2.1,true,a.2.2.2.1,a.2.2.2.2.1,a.2.2.2.2.2.1,a.2.2.2.2.2.2.1,a.2.2.2.2.2.2.2)).length d).bind λh =>((b.2.2.1.set e (a.1,a.2.1,true,a.2.2.2.1,a.2.2.2.2.1,a.2.2.2.2.2.1,a.2.2.2.2.2.2.1,a.2.2.2.2.2.2.2))[h]?).bind λg =>(ba (b.1,b.2.1,(b.2.2.1.set e (a.1,a.2.1,true,a.2.2.2.1,a.2.2.2.2.1,a.2.2.2.2.2.1,a.2.2.2.2.2.2.1,a.2.2.2.2.2.2.2)).set h (g.1,g.2.1,g.2.2.1,c.1,c.2.1,c.2.2.1,c.2.2.2.1,c.2.2.2.2),b.2.2.2.1,b.2.2.2.2.1,b.2.2.2.2.2.1,b.2.2.2.2.2.2.1,b.2.2.2.2.2.2.2.1,b.2.2.2.2.2.2.2.2.1,b.2.2.2.2.2.2.2.2.2.1,b.2.2.2.2.2.2.2.2.2.2)).bind λn =>some n)
end
end Go.V.W
