/- The law FnActs: part of the proof that for every input it returns true. No condition. -/
import Derived.Test.YtpidgkkbmlgehaaGreatV4
import Derived.Test.YtpidgkkbmlgehaaGreatProg
import Derived.Test.YtpidgkkbmlgehaaGreatChecked
import Derived.KernelRfl
set_option linter.unusedVariables false
set_option linter.unusedSimpArgs false
namespace Go.V.W
open Go.Proofs
noncomputable section
def us:Nat->Nat->List (Nat×Bool×List wj)->List (Nat×Bool×List wj)|_,0,l=>l|a,n+1,l=>(a,false,[.undef])::us (a+1) n l
@[reducible] def uI:Cs:=.one (.int .i64)
@[reducible] def vr:Cs:=.one .bool
@[reducible] def wv:Cs:=.one (.sl (.one (.int .u8)))
@[reducible] def xk:Cs:=.one (.sl (.one (.int .i64)))
@[reducible] def Iw:Cs:=.one .str
@[reducible] def dI:wj:=.dat (.int .i64)
@[reducible] def dB:wj:=.dat .bool
@[reducible] def dS:wj:=.dat .str
@[reducible] def vI:Cs:=.cons (.int .i64) (.cons (.int .i64) uI)
@[reducible] def zy:Cs:=.cons (.int .i64) (.cons (.int .i64) (.cons (.int .i64) (.cons (.int .i64) uI)))
@[reducible] def wX:Cs:=.cons .bool (.cons (.int .i64) (.cons .bool (.cons (.int .i64) (.cons (.int .i64) (.cons (.int .i64) (.cons (.int .i64) uI))))))
@[reducible] def uY:Cs:=.cons (.int .i64) (.cons (.int .i64) (.cons (.int .i64) (.cons (.int .i64) vr)))
@[reducible] def wL:Cs:=.cons (.sl vI) xk
@[reducible] def uR:Cs:=.cons (.int .i64) (.cons .str (.cons (.sl wX) (.cons (.sl uY) (.cons (.sl vI) (.cons (.sl uI) (.cons (.int .i64) (.cons (.int .i64) (.cons (.int .i64) (.cons (.int .i64) uI)))))))))
@[reducible] def zz:Cs:=.cons (.int .i64) (.cons (.int .i64) (.cons .str xk))
@[reducible] def uU:Cs:=.cons (.sl uI) (.cons (.int .i64) (.cons (.int .i64) (.cons .str xk)))
@[reducible] def wQ:Cs:=.cons (.int .i64) (.cons (.int .i64) (.cons (.int .i64) (.cons (.int .i64) (.one (.sl uU)))))
@[reducible] def z6:Cs:=.cons (.int .i64) (.cons (.sl (.one (.int .u8))) (.cons (.int .i64) (.cons (.int .i64) (.cons (.int .i64) (.cons (.int .i64) (.cons (.int .i64) (.cons (.sl uU) (.cons (.int .i64) (.cons .str (.cons (.sl wX) (.cons (.sl uY) (.cons (.sl vI) (.cons (.sl uI) (.cons (.int .i64) (.cons (.int .i64) (.cons (.int .i64) (.cons (.int .i64) (.cons (.int .i64) (.cons (.int .i64) uI)))))))))))))))))))
@[reducible] def vO:Cs:=.cons (.int .i64) (.cons .str (.cons (.sl wX) (.cons (.sl uY) (.cons (.sl vI) (.cons (.sl uI) (.cons (.int .i64) (.cons (.int .i64) (.cons (.int .i64) (.cons (.int .i64) (.cons (.int .i64) (.cons .str (.cons (.sl z6) (.cons (.int .i64) uI)))))))))))))
@[reducible] def Bp:Cs:=.cons (.sl (.one (.int .u8))) (.cons (.int .i64) vr)
@[reducible] def yW:Cs:=.cons (.int .i64) (.cons (.int .i64) (.cons (.int .i64) (.cons (.int .i64) (.cons (.int .i64) (.one (.sl uU))))))
@[reducible] def AN:Cs:=.cons (.int .i64) (.cons (.int .i64) (.cons (.int .i64) wv))
@[reducible] def AZ:Cs:=.cons (.int .i64) (.cons (.int .i64) (.cons (.int .i64) (.cons (.int .i64) wv)))
@[reducible] def zX:Cs:=.cons (.int .i64) (.cons (.int .i64) (.cons .bool (.cons (.sl (.one (.int .u8))) (.cons (.int .i64) (.cons (.int .i64) (.cons (.int .i64) (.cons (.sl (.one (.int .u8))) (.cons (.int .i64) (.cons (.int .i64) (.cons (.int .i64) (.cons (.int .i64) uI)))))))))))
@[reducible] def vP:Cs:=.cons (.sl (.one (.int .u8))) (.cons (.int .i64) uI)
abbrev uQ:Type:=Int×Int×Int
abbrev Ah:Type:=Int×Int×Int×Int×Int
abbrev Pt:Type:=Bool×Int×Bool×Int×Int×Int×Int×Int
abbrev uF:Type:=Int×Int×Int×Int×Bool
abbrev vv:Type:=List uQ×List Int
abbrev uz:Type:=Int×List UInt8×List Pt×List uF×List uQ×List Int×Int×Int×Int×Int×Int
abbrev yj:Type:=Int×Int×List UInt8×List Int
abbrev uC:Type:=List Int×Int×Int×List UInt8×List Int
abbrev v9:Type:=Int×Int×Int×Int×List uC
abbrev vF:Type:=Int×List Int×Int×Int×Int×Int×Int×List uC×Int×List UInt8×List Pt×List uF×List uQ×List Int×Int×Int×Int×Int×Int×Int×Int
abbrev uN:Type:=Int×List UInt8×List Pt×List uF×List uQ×List Int×Int×Int×Int×Int×Int×List UInt8×List vF×Int×Int
abbrev Bq:Type:=List Int×Int×Bool
abbrev wa:Type:=Int×Int×Int×Int×Int×List uC
abbrev zi:Type:=Int×Int×Int×List Int
abbrev vZ:Type:=Int×Int×Int×Int×List Int
abbrev Act:Type:=Int×Int×Bool×List Int×Int×Int×Int×List Int×Int×Int×Int×Int×Int
abbrev uM:Type:=List Int×Int×Int
def tis:List (Nat×vf):=[(2,⟨false,.one (.int .i64),[],0⟩),
 (3,⟨false,.one (.int .i64),[],0⟩),
 (4,⟨false,.one .bool,[],0⟩),
 (5,⟨false,.one (.int .u8),[],0⟩),
 (6,⟨false,.one (.int .u8),[],0⟩),
 (9,⟨false,.one .str,[],0⟩),
 (10,⟨false,.one .str,[],0⟩),
 (11,⟨false,.one .str,[],0⟩),
 (12,⟨false,.one (.int .u64),[],0⟩),
 (21,⟨false,.one (.int .i32),[],0⟩),
 (22,⟨false,.one (.sl (.one (.int .u8))),[],5⟩),
 (24,⟨false,.one (.sl wX),[],131⟩),
 (25,⟨false,.one (.sl uY),[],133⟩),
 (26,⟨false,.one (.sl vI),[],219⟩),
 (27,⟨false,.one (.sl uI),[],3⟩),
 (28,⟨true,wL,[(26,0),(27,1)],0⟩),
 (29,⟨true,wL,[(26,0),(27,1)],0⟩),
 (30,⟨true,uR,[(3,0),(9,1),(24,2),(25,3),(29,4),(3,6),(3,7),(3,8),(3,9),(3,10)],0⟩),
 (31,⟨true,uR,[(3,0),(9,1),(24,2),(25,3),(29,4),(3,6),(3,7),(3,8),(3,9),(3,10)],0⟩),
 (32,⟨false,.one (.sl uU),[],46⟩),
 (33,⟨true,wQ,[(3,0),(3,1),(3,2),(3,3),(32,4)],0⟩),
 (34,⟨true,wQ,[(3,0),(3,1),(3,2),(3,3),(32,4)],0⟩),
 (43,⟨true,zz,[(3,0),(3,1),(9,2),(27,3)],0⟩),
 (44,⟨true,zz,[(3,0),(3,1),(9,2),(27,3)],0⟩),
 (45,⟨true,uU,[(27,0),(44,1)],0⟩),
 (46,⟨true,uU,[(27,0),(44,1)],0⟩),
 (51,⟨false,.one (.sl wX),[],241⟩),
 (52,⟨false,.one (.sl uY),[],243⟩),
 (53,⟨false,.one (.sl vI),[],308⟩),
 (54,⟨true,wL,[(53,0),(27,1)],0⟩),
 (55,⟨true,wL,[(53,0),(27,1)],0⟩),
 (56,⟨true,uR,[(3,0),(9,1),(51,2),(52,3),(55,4),(3,6),(3,7),(3,8),(3,9),(3,10)],0⟩),
 (57,⟨true,uR,[(3,0),(9,1),(51,2),(52,3),(55,4),(3,6),(3,7),(3,8),(3,9),(3,10)],0⟩),
 (58,⟨false,.one (.sl zX),[],152⟩),
 (63,⟨false,.one (.sl zX),[],101⟩),
 (69,⟨false,.one (.sl z6),[],174⟩),
 (70,⟨true,vO,[(31,0),(9,11),(69,12),(3,13),(3,14)],0⟩),
 (71,⟨true,vO,[(31,0),(9,11),(69,12),(3,13),(3,14)],0⟩),
 (75,⟨false,.one (.sl yW),[],81⟩),
 (80,⟨true,yW,[(3,0),(34,1)],0⟩),
 (81,⟨true,yW,[(3,0),(34,1)],0⟩),
 (92,⟨false,.one (.sl AZ),[],190⟩),
 (96,⟨true,AN,[(3,0),(3,1),(3,2),(22,3)],0⟩),
 (97,⟨true,AN,[(3,0),(3,1),(3,2),(22,3)],0⟩),
 (98,⟨true,zy,[(3,0),(3,1),(3,2),(3,3),(3,4)],0⟩),
 (99,⟨true,zy,[(3,0),(3,1),(3,2),(3,3),(3,4)],0⟩),
 (100,⟨true,zX,[(3,0),(3,1),(4,2),(22,3),(97,4),(99,8)],0⟩),
 (101,⟨true,zX,[(3,0),(3,1),(4,2),(22,3),(97,4),(99,8)],0⟩),
 (108,⟨false,.one (.sl uU),[],284⟩),
 (109,⟨true,wQ,[(3,0),(3,1),(3,2),(3,3),(108,4)],0⟩),
 (110,⟨true,wQ,[(3,0),(3,1),(3,2),(3,3),(108,4)],0⟩),
 (130,⟨true,wX,[(4,0),(3,1),(4,2),(99,3)],0⟩),
 (131,⟨true,wX,[(4,0),(3,1),(4,2),(99,3)],0⟩),
 (132,⟨true,uY,[(3,0),(3,1),(3,2),(3,3),(4,4)],0⟩),
 (133,⟨true,uY,[(3,0),(3,1),(3,2),(3,3),(4,4)],0⟩),
 (149,⟨true,AN,[(3,0),(3,1),(3,2),(22,3)],0⟩),
 (150,⟨true,zy,[(3,0),(3,1),(3,2),(3,3),(3,4)],0⟩),
 (151,⟨true,zX,[(3,0),(3,1),(4,2),(22,3),(149,4),(150,8)],0⟩),
 (152,⟨true,zX,[(3,0),(3,1),(4,2),(22,3),(149,4),(150,8)],0⟩),
 (173,⟨true,z6,[(3,0),(22,1),(3,2),(34,3),(31,8),(3,19),(3,20)],0⟩),
 (174,⟨true,z6,[(3,0),(22,1),(3,2),(34,3),(31,8),(3,19),(3,20)],0⟩),
 (185,⟨false,.one (.sl Iw),[],9⟩),
 (189,⟨true,AZ,[(3,0),(97,1)],0⟩),
 (190,⟨true,AZ,[(3,0),(97,1)],0⟩),
 (201,⟨true,vP,[(22,0),(3,1),(3,2)],0⟩),
 (202,⟨true,vP,[(22,0),(3,1),(3,2)],0⟩),
 (214,⟨false,.one (.sl xk),[],27⟩),
 (218,⟨true,vI,[(3,0),(3,1),(3,2)],0⟩),
 (219,⟨true,vI,[(3,0),(3,1),(3,2)],0⟩),
 (240,⟨true,wX,[(4,0),(3,1),(4,2),(150,3)],0⟩),
 (241,⟨true,wX,[(4,0),(3,1),(4,2),(150,3)],0⟩),
 (243,⟨true,uY,[(3,0),(3,1),(3,2),(3,3),(4,4)],0⟩),
 (260,⟨true,Bp,[(22,0),(3,1),(4,2)],0⟩),
 (261,⟨true,Bp,[(22,0),(3,1),(4,2)],0⟩),
 (270,⟨false,.one (.int .u64),[],0⟩),
 (282,⟨true,zz,[(3,0),(3,1),(9,2),(27,3)],0⟩),
 (283,⟨true,uU,[(27,0),(282,1)],0⟩),
 (284,⟨true,uU,[(27,0),(282,1)],0⟩),
 (308,⟨true,vI,[(3,0),(3,1),(3,2)],0⟩),
 (313,⟨true,Bp,[(22,0),(3,1),(4,2)],0⟩),
 (314,⟨true,Bp,[(22,0),(3,1),(4,2)],0⟩),
 (343,⟨false,.one (.int .i8),[],0⟩),
 (351,⟨false,.one (.int .u32),[],0⟩),
 (352,⟨false,.one (.int .u8),[],0⟩),
 (353,⟨false,.one (.int .u8),[],0⟩),
 (356,⟨false,.one (.int .i32),[],0⟩),
 (357,⟨false,.one (.int .i32),[],0⟩)]
theorem tisT:xm Tryz.prog tis:=xm.of_all (by kernel_rfl)
theorem Tg:Je Tryz.prog tis:=Je.of_all (by kernel_rfl)
theorem tisD:Deep Tryz.prog tis:=Deep.of_all (by kernel_rfl)
theorem S6:Tryz.prog.follows .mixedOrders=true:=by kernel_rfl
def Hg (fn:Func):Code:=match fn.body with|some c=>c|none=>.skip
theorem rS:zW Tryz.prog ⟨tis,[],[],false⟩:=⟨tisT,Tg,(λf F h=>by cases h),(λf M h=>by cases h),(λh=>by cases h)⟩
theorem T0 {l : List (FuncId×Fn)} (g : zW Tryz.prog ⟨tis, l, [], false⟩) (n : FuncId) (f : Func) (ann : List (Nat×uP)) (F : Fn) (h1 : Tryz.prog.funcs[n]?=some f) (h2 : (f.name == "runtime.NumGoroutine")=false := by kernel_rfl) (h3 : f.body=some (Hg f) := by kernel_rfl) (h4 : GX ⟨tis, l, [], false⟩ ann f (Hg f) F.ps F.rs=F.den := by kernel_rfl) : Dh Tryz.prog n F := by
 have h:=Oa (ann:=ann) (ps:=F.ps) (rs:=F.rs) g S6 h1 h2 h3;rw[h4]at h;exact h
abbrev FL:=List (FuncId×Fn)
def Gd (l:FL):Prop:=zW Tryz.prog ⟨tis,l,[],false⟩
theorem uK {l : List (FuncId×Fn)} (g : Gd l) (n : FuncId) (f : Func) (ann : List (Nat×uP)) {F : Fn} (h1 : Tryz.prog.funcs[n]?=some f) (h2 : (f.name == "runtime.NumGoroutine")=false := by kernel_rfl) (h3 : f.body=some (Hg f) := by kernel_rfl) (h4 : GX ⟨tis, l, [], false⟩ ann f (Hg f) F.ps F.rs=F.den := by kernel_rfl) : Gd ((n, F)::l) := zW.cons g (T0 g n f ann F h1 h2 h3 h4)
def jh (code0:List Int):Option Bool :=
 let t2:=decide ((code0.length:Int)>1048576)
 some t2
def mb:FL:=(11,⟨[.val false wv false],[.val false vr (some true)],λa=>jh a⟩)::[]
theorem rT:Gd mb:=uK rS 11 Tryz.f11 [] Tryz.func11
def eh (a0:List Int) (b1:List Int) (t13:Int):Option (Int⊕(Unit⊕Bool)) :=
 cond (decide (t13<(a0.length:Int)))
 ((at? a0 t13).bind λx18 =>
 (at? b1 t13).bind λx22 =>
 cond (x18 != x22) (some (.inr (.inr false))) (some (.inl (uB (t13+1)))))
 (some (.inr (.inl ())))
def ay (a0:List Int) (b1:List Int):Option Bool :=
 cond ((a0.length:Int) != (b1.length:Int))
 (some false)
 ((loop (λz=>eh a0 b1 z) 0).bind (Sum.elim (λd =>
 some true) (λr=>some r)))
def mc:FL:=(19,⟨[.val false xk false,.val false xk false],[.val false vr (some true)],λa=>ay a.1 a.2⟩)::mb
theorem rU:Gd mc:=uK rT 19 Tryz.f19 [(0,⟨⟨[(13,false,[dI])],[]⟩,
 ⟨[],[]⟩,some ⟨[(4,false,[dB])],[]⟩⟩)] Tryz.func19
def ji (a0:List uQ) (b1:List uQ) (t13:Int):Option (Int⊕(Unit⊕Bool)) :=
 cond (decide (t13<(a0.length:Int)))
 ((at? a0 t13).bind λx18 =>
 (at? b1 t13).bind λx22 =>
 cond (!(x18.1==x22.1&&(x18.2.1==x22.2.1&&(x18.2.2==x22.2.2)))) (some (.inr (.inr false))) (some (.inl (uB (t13+1)))))
 (some (.inr (.inl ())))
def ic (a0:List uQ) (b1:List uQ):Option Bool :=
 cond ((a0.length:Int) != (b1.length:Int))
 (some false)
 ((loop (λz=>ji a0 b1 z) 0).bind (Sum.elim (λd =>
 some true) (λr=>some r)))
def md:FL:=(89,⟨[.val false (.one (.sl vI)) false,.val false (.one (.sl vI)) false],[.val false vr (some true)],λa=>ic a.1 a.2⟩)::mc
theorem rV:Gd md:=uK rU 89 Tryz.f89 [(0,⟨⟨[(13,false,[dI])],[]⟩,
 ⟨[],[]⟩,some ⟨[(4,false,[dB])],[]⟩⟩)] Tryz.func89
def ie (p0:uz) (i1:uz) (t60:Int):Option (Int⊕(Unit⊕Bool)) :=
 cond (decide (t60<(p0.2.2.1.length:Int)))
 ((at? p0.2.2.1 t60).bind λx66 =>
 (at? i1.2.2.1 t60).bind λx71 =>
 cond (!(x66.1==x71.1&&(x66.2.1==x71.2.1&&(x66.2.2.1==x71.2.2.1&&(x66.2.2.2.1==x71.2.2.2.1&&(x66.2.2.2.2.1==x71.2.2.2.2.1&&(x66.2.2.2.2.2.1==x71.2.2.2.2.2.1&&(x66.2.2.2.2.2.2.1==x71.2.2.2.2.2.2.1&&(x66.2.2.2.2.2.2.2==x71.2.2.2.2.2.2.2))))))))) (some (.inr (.inr false))) (some (.inl (uB (t60+1)))))
 (some (.inr (.inl ())))
def ig (p0:uz) (i1:uz) (t78:Int):Option (Int⊕(Unit⊕Bool)) :=
 cond (decide (t78<(p0.2.2.2.1.length:Int)))
 ((at? p0.2.2.2.1 t78).bind λx84 =>
 (at? i1.2.2.2.1 t78).bind λx89 =>
 cond (!(x84.1==x89.1&&(x84.2.1==x89.2.1&&(x84.2.2.1==x89.2.2.1&&(x84.2.2.2.1==x89.2.2.2.1&&(x84.2.2.2.2==x89.2.2.2.2)))))) (some (.inr (.inr false))) (some (.inl (uB (t78+1)))))
 (some (.inr (.inl ())))
def cY (p0:uz) (i1:uz):Option Bool :=
 (cond (p0.1 != i1.1) (some true) (some (!(p0.2.1==i1.2.1)))).bind λt18 =>
 (cond t18
 (some true)
 (some ((p0.2.2.1.length:Int) != (i1.2.2.1.length:Int)))).bind λt27 =>
 (cond t27
 (some true)
 (some ((p0.2.2.2.1.length:Int) != (i1.2.2.2.1.length:Int)))).bind λt36 =>
 (cond t36
 (some true)
 ((ic p0.2.2.2.2.1 i1.2.2.2.2.1).bind λt44 =>
 some (!t44))).bind λt46 =>
 (cond t46
 (some true)
 ((ay p0.2.2.2.2.2.1 i1.2.2.2.2.2.1).bind λt54 =>
 some (!t54))).bind λt56 =>
 cond t56
 (some false)
 ((loop (λz=>ie p0 i1 z) 0).bind (Sum.elim (λd =>
 (loop (λz=>ig p0 i1 z) 0).bind (Sum.elim (λd_1 =>
 (cond (p0.2.2.2.2.2.2.1==i1.2.2.2.2.2.2.1) (some (p0.2.2.2.2.2.2.2.1==i1.2.2.2.2.2.2.2.1)) (some false)).bind λt104 =>
 (cond t104
 (some (p0.2.2.2.2.2.2.2.2.1==i1.2.2.2.2.2.2.2.2.1))
 (some false)).bind λt111 =>
 (cond t111
 (some (p0.2.2.2.2.2.2.2.2.2.1==i1.2.2.2.2.2.2.2.2.2.1))
 (some false)).bind λt118 =>
 (cond t118
 (some (p0.2.2.2.2.2.2.2.2.2.2==i1.2.2.2.2.2.2.2.2.2.2))
 (some false)).bind λt125 =>
 some t125) (λr=>some r))) (λr_1=>some r_1)))
def me:FL:=(16,⟨[.val true uR false,.val true uR false],[.val false vr (some true)],λa=>cY a.1 a.2⟩)::md
theorem rW:Gd me:=uK rV 16 Tryz.f16 [(0,⟨⟨[(60,false,[dI])],[]⟩,
 ⟨[],[]⟩,some ⟨[(4,false,[dB])],[]⟩⟩),
 (2,⟨⟨[(78,false,[dI])],[]⟩,
 ⟨[],[]⟩,some ⟨[(4,false,[dB])],[]⟩⟩)] Tryz.func16
def ch (l0:List uF):Option (List uF) :=
 (uV [] l0).bind λzs4 =>
 some zs4
def mf:FL:=(166,⟨[.val false (.one (.sl uY)) false],[.val false (.one (.sl uY)) (some true)],λa=>ch a⟩)::me
theorem rX:Gd mf:=uK rW 166 Tryz.f166 [] Tryz.func166
def bf (l0:List Int):Option (List Int) :=
 (uV [] l0).bind λzs4 =>
 some zs4
def mg:FL:=(78,⟨[.val false xk false],[.val false xk (some true)],λa=>bf a⟩)::mf
theorem rY:Gd mg:=uK rX 78 Tryz.f78 [] Tryz.func78
def ei (v0:vv):Option vv :=
 (uV [] v0.1).bind λzs5 =>
 (bf v0.2).bind λt8 =>
 some (zs5,t8)
def mh:FL:=(167,⟨[.val true wL false],[.val true wL (some true)],λa=>ei a⟩)::mg
theorem rZ:Gd mh:=uK rY 167 Tryz.f167 [] Tryz.func167
def ak (b0:uz):Option uz :=
 (uV [] b0.2.2.1).bind λzs5 =>
 (ch b0.2.2.2.1).bind λt9 =>
 (ei (b0.2.2.2.2.1,b0.2.2.2.2.2.1)).bind λt12 =>
 some (b0.1,b0.2.1,zs5,t9,t12.1,t12.2,b0.2.2.2.2.2.2.1,b0.2.2.2.2.2.2.2.1,b0.2.2.2.2.2.2.2.2.1,b0.2.2.2.2.2.2.2.2.2.1,b0.2.2.2.2.2.2.2.2.2.2)
def mi:FL:=(76,⟨[.val true uR false],[.val true uR (some true)],λa=>ak a⟩)::mh
theorem s5:Gd mi:=uK rZ 76 Tryz.f76 [] Tryz.func76
def ac (n0:Int) (low1:Int) (high2:Int):Option Bool :=
 (cond (decide (n0>=low1)) (some (decide (n0<=high2))) (some false)).bind λt14 =>
 some t14
def mj:FL:=(90,⟨[.val false uI false,.val false uI false,.val false uI false],[.val false vr (some true)],λa=>ac a.1 a.2.1 a.2.2⟩)::mi
theorem s6:Gd mj:=uK s5 90 Tryz.f90 [] Tryz.func90
def bt (n0:Int):Option Bool :=
 (ac n0 0 1000000).bind λt4 =>
 some t4
def ml:FL:=(134,⟨[.val false uI false],[.val false vr (some true)],λa=>bt a⟩)::mj
theorem s7:Gd ml:=uK s6 134 Tryz.f134 [] Tryz.func134
def ci (v0:Ah):Option Bool :=
 (ac v0.1 1 99).bind λt5 =>
 (cond t5
 ((ac v0.2.1 0 100000).bind λt9 =>
 some t9)
 (some false)).bind λt10 =>
 (cond t10
 ((ac v0.2.2.1 0 10).bind λt14 =>
 some t14)
 (some false)).bind λt15 =>
 (cond t15
 ((ac v0.2.2.2.1 1 99).bind λt19 =>
 some t19)
 (some false)).bind λt20 =>
 (cond t20
 ((ac v0.2.2.2.2 0 7).bind λt24 =>
 some t24)
 (some false)).bind λt25 =>
 some t25
def mn:FL:=(275,⟨[.val true zy false],[.val false vr (some true)],λa=>ci a⟩)::ml
theorem s8:Gd mn:=uK s7 275 Tryz.f275 [] Tryz.func275
def fO (p0:Pt):Option Bool :=
 (ac p0.2.1 1 1000).bind λt5 =>
 (cond (!t5)
 (some true)
 ((cond p0.2.2.1 (some (!p0.1)) (some false)).bind λt14 =>
 some t14)).bind λt15 =>
 cond t15
 (some false)
 (cond p0.2.2.1
 ((ci p0.2.2.2).bind λt20 =>
 some t20)
 (let t2:=p0.2.2.2.1==0&&(p0.2.2.2.2.1==0&&(p0.2.2.2.2.2.1==0&&(p0.2.2.2.2.2.2.1==0&&(p0.2.2.2.2.2.2.2==0))))
 some t2))
def mo:FL:=(168,⟨[.val true wX false],[.val false vr (some true)],λa=>fO a⟩)::mn
theorem s9:Gd mo:=uK s8 168 Tryz.f168 [] Tryz.func168
def cZ (e0:uF):Option Bool :=
 (ac e0.1 1 99).bind λt5 =>
 (cond t5
 ((ac e0.2.1 1 9999).bind λt9 =>
 some t9)
 (some false)).bind λt10 =>
 (cond t10
 ((ac e0.2.2.1 0 7).bind λt14 =>
 some t14)
 (some false)).bind λt15 =>
 (cond t15
 ((ac e0.2.2.2.1 0 4).bind λt19 =>
 some t19)
 (some false)).bind λt20 =>
 (cond t20
 ((cond (!e0.2.2.2.2) (some true) (some (e0.2.2.2.1==0))).bind λt29 =>
 some t29)
 (some false)).bind λt30 =>
 some t30
def mp:FL:=(276,⟨[.val true uY false],[.val false vr (some true)],λa=>cZ a⟩)::mo
theorem sa:Gd mp:=uK s9 276 Tryz.f276 [] Tryz.func276
def ej (e0:uF) (tag1:Int) (mac2:Int):Option Bool :=
 (cond (decide (e0.1>tag1))
 (some true)
 ((cond (e0.1==tag1) (some (decide (e0.2.1>mac2))) (some false)).bind λt21 =>
 some t21)).bind λt22 =>
 some t22
def mq:FL:=(277,⟨[.val true uY false,.val false uI false,.val false uI false],[.val false vr (some true)],λa=>ej a.1 a.2.1 a.2.2⟩)::mp
theorem sc:Gd mq:=uK sa 277 Tryz.f277 [] Tryz.func277
def jj (l0:List uF) (t7:Int):Option (Int⊕(Unit⊕Bool)) :=
 cond (decide (t7<(l0.length:Int)))
 ((at? l0 t7).bind λx10 =>
 (cZ x10).bind λt13 =>
 (cond (!t13)
 (some true)
 ((cond (decide (t7>0))
 ((at? l0 (uB (t7-1))).bind λx23 =>
 (at? l0 (uB (t7-1))).bind λx29 =>
 (ej x10 x23.1 x29.2.1).bind λt32 =>
 some (!t32))
 (some false)).bind λt34 =>
 some t34)).bind λt35 =>
 cond t35 (some (.inr (.inr false))) (some (.inl (uB (t7+1)))))
 (some (.inr (.inl ())))
def fP (l0:List uF):Option Bool :=
 (loop (λz=>jj l0 z) 0).bind (Sum.elim (λd =>
 let t2:=decide ((l0.length:Int)<=12)
 some t2) (λr=>some r))
def mr:FL:=(169,⟨[.val false (.one (.sl uY)) false],[.val false vr (some true)],λa=>fP a⟩)::mq
theorem sd:Gd mr:=uK sc 169 Tryz.f169 [(0,⟨⟨(7,false,[dI])::us 16 19 [],[]⟩,
 ⟨[],[]⟩,some ⟨[(2,false,[dB])],[]⟩⟩)] Tryz.func169
def fQ (ports0:Int):Option Int :=
 (shl .i64 1 ports0).bind λt4 =>
 some (uB (t4-1))
def mt:FL:=(278,⟨[.val false uI false],[.val false uI (some true)],λa=>fQ a⟩)::mr
theorem se:Gd mt:=uK sd 278 Tryz.f278 [] Tryz.func278
def aJ (v0:vv) (id1:Int) (t10:Int):Option (Int⊕(Unit⊕Int)) :=
 cond (decide (t10<(v0.1.length:Int)))
 ((at? v0.1 t10).bind λx13 =>
 cond (x13.1==id1) (some (.inr (.inr t10))) (some (.inl (uB (t10+1)))))
 (some (.inr (.inl ())))
def aj (v0:vv) (id1:Int):Option Int :=
 (loop (λz=>aJ v0 id1 z) 0).bind (Sum.elim (λd =>
 some (-1)) (λr=>some r))
def mu:FL:=(279,⟨[.val true wL false,.val false uI false],[.val false uI (some true)],λa=>aj a.1 a.2⟩)::mt
theorem sf:Gd mu:=uK se 279 Tryz.f279 [(0,⟨⟨[(10,false,[dI])],[]⟩,
 ⟨[],[]⟩,some ⟨[(4,false,[dI])],[]⟩⟩)] Tryz.func279
def jk (p0:vv) (i1:Int) (t28:Int):Option (Int⊕(Unit⊕Bool)) :=
 cond (decide (t28<(p0.1.length:Int)))
 ((at? p0.1 t28).bind λx31 =>
 (ac x31.1 1 99).bind λt35 =>
 (cond (!t35)
 (some true)
 ((cond (decide (t28>0))
 ((at? p0.1 (uB (t28-1))).bind λx45 =>
 some (decide (x45.1>=x31.1)))
 (some false)).bind λt51 =>
 some t51)).bind λt52 =>
 (cond t52
 (some true)
 ((fQ i1).bind λt57 =>
 (ac x31.2.1 0 t57).bind λt58 =>
 some (!t58))).bind λt60 =>
 (cond t60 (some true) (some ((Dw .i64 x31.2.2 x31.2.1) != 0))).bind λt68 =>
 cond t68 (some (.inr (.inr false))) (some (.inl (uB (t28+1)))))
 (some (.inr (.inl ())))
def ii (p0:vv) (t73:Int):Option (Int⊕(Unit⊕Bool)) :=
 cond (decide (t73<(p0.2.length:Int)))
 ((at? p0.2 t73).bind λx75 =>
 (aj p0 x75).bind λt79 =>
 cond (decide (t79<0)) (some (.inr (.inr false))) (some (.inl (uB (t73+1)))))
 (some (.inr (.inl ())))
def em (p0:vv) (i1:Int):Option Bool :=
 (ac i1 1 6).bind λt10 =>
 (cond (!t10) (some true) (some ((p0.2.length:Int) != i1))).bind λt18 =>
 (cond t18 (some true) (some (decide ((p0.1.length:Int)>6)))).bind λt24 =>
 cond t24
 (some false)
 ((loop (λz=>jk p0 i1 z) 0).bind (Sum.elim (λd =>
 (loop (λz=>ii p0 z) 0).bind (Sum.elim (λd_1 =>
 some true) (λr=>some r))) (λr_1=>some r_1)))
def mw:FL:=(170,⟨[.val true wL false,.val false uI false],[.val false vr (some true)],λa=>em a.1 a.2⟩)::mu
theorem sg:Gd mw:=uK sf 170 Tryz.f170 [(0,⟨⟨(28,false,[dI])::us 38 14 (us 54 6 (us 62 6 [])),[]⟩,
 ⟨[],[]⟩,some ⟨[(4,false,[dB])],[]⟩⟩),
 (2,⟨⟨[(73,false,[dI])],[]⟩,
 ⟨[],[]⟩,some ⟨[(4,false,[dB])],[]⟩⟩)] Tryz.func170
def jl (p0:uz) (t8:Int):Option (Int⊕(Unit⊕Bool)) :=
 cond (decide (t8<(p0.2.2.1.length:Int)))
 ((at? p0.2.2.1 t8).bind λx10 =>
 (fO x10).bind λt13 =>
 cond (!t13) (some (.inr (.inr false))) (some (.inl (uB (t8+1)))))
 (some (.inr (.inl ())))
def aS (p0:uz):Option Bool :=
 (loop (λz=>jl p0 z) 0).bind (Sum.elim (λd =>
 (ac p0.1 1 99).bind λt18 =>
 (cond (!t18) (some true) (some (decide ((p0.2.1.length:Int)>10)))).bind λt25 =>
 (cond t25
 (some true)
 ((ac (p0.2.2.1.length:Int) 1 6).bind λt30 =>
 some (!t30))).bind λt32 =>
 (cond t32
 (some true)
 ((fP p0.2.2.2.1).bind λt36 =>
 some (!t36))).bind λt38 =>
 (cond t38
 (some true)
 ((em (p0.2.2.2.2.1,p0.2.2.2.2.2.1) (p0.2.2.1.length:Int)).bind λt45 =>
 some (!t45))).bind λt47 =>
 cond t47
 (some false)
 ((bt p0.2.2.2.2.2.2.1).bind λt50 =>
 (cond t50
 ((bt p0.2.2.2.2.2.2.2.1).bind λt54 =>
 some t54)
 (some false)).bind λt55 =>
 (cond t55
 ((bt p0.2.2.2.2.2.2.2.2.1).bind λt59 =>
 some t59)
 (some false)).bind λt60 =>
 (cond t60
 ((bt p0.2.2.2.2.2.2.2.2.2.1).bind λt64 =>
 some t64)
 (some false)).bind λt65 =>
 (cond t65
 ((bt p0.2.2.2.2.2.2.2.2.2.2).bind λt69 =>
 some t69)
 (some false)).bind λt70 =>
 some t70)) (λr=>some r))
def my:FL:=(77,⟨[.val true uR false],[.val false vr (some true)],λa=>aS a⟩)::mw
theorem si:Gd my:=uK sg 77 Tryz.f77 [(0,⟨⟨[(8,false,[dI])],[]⟩,
 ⟨[],[]⟩,some ⟨[(2,false,[dB])],[]⟩⟩)] Tryz.func77
def aU (o0:List Int) (t7:Int):Option (Int⊕(Unit⊕Bool)) :=
 cond (decide (t7<(o0.length:Int)))
 ((at? o0 t7).bind λx9 =>
 (ac x9 0 100000).bind λt12 =>
 cond (!t12) (some (.inr (.inr false))) (some (.inl (uB (t7+1)))))
 (some (.inr (.inl ())))
def am (o0:List Int):Option Bool :=
 (loop (λz=>aU o0 z) 0).bind (Sum.elim (λd =>
 (ac (o0.length:Int) 1 10).bind λt17 =>
 some t17) (λr=>some r))
def mz:FL:=(91,⟨[.val false xk false],[.val false vr (some true)],λa=>am a⟩)::my
theorem sj:Gd mz:=uK si 91 Tryz.f91 [(0,⟨⟨[(7,false,[dI])],[]⟩,
 ⟨[],[]⟩,some ⟨[(2,false,[dB])],[]⟩⟩)] Tryz.func91
def aK (a0:yj) (b1:yj):Option Bool :=
 (cond (a0.1==b1.1) (some (a0.2.1==b1.2.1)) (some false)).bind λt16 =>
 (cond t16 (some (a0.2.2.1==b1.2.2.1)) (some false)).bind λt23 =>
 (cond t23
 ((ay a0.2.2.2 b1.2.2.2).bind λt29 =>
 some t29)
 (some false)).bind λt30 =>
 some t30
def mC:FL:=(20,⟨[.val true zz false,.val true zz false],[.val false vr (some true)],λa=>aK a.1 a.2⟩)::mz
theorem sk:Gd mC:=uK sj 20 Tryz.f20 [] Tryz.func20
def aC (n0:Int):Option Bool :=
 (ac n0 (-2147483648) 2147483647).bind λt4 =>
 some t4
def mD:FL:=(93,⟨[.val false uI false],[.val false vr (some true)],λa=>aC a⟩)::mC
theorem sm:Gd mD:=uK sk 93 Tryz.f93 [] Tryz.func93
def ao (v0:yj):Option Bool :=
 cond (v0.1==2)
 ((aC v0.2.1).bind λt17 =>
 (cond t17
 ((aK v0 (v0.1,v0.2.1,[],[])).bind λt43 =>
 some t43)
 (some false)).bind λt44 =>
 some t44)
 (cond (v0.1==4)
 (let ok4:=decide ((v0.2.2.1.length:Int)<=20)
 (cond ok4
 ((aK v0 (v0.1,0,v0.2.2.1,[])).bind λt43_1 =>
 some t43_1)
 (some false)).bind λt44_1 =>
 some t44_1)
 (cond (v0.1==6)
 ((am v0.2.2.2).bind λt34 =>
 (cond t34
 ((aK v0 (v0.1,0,[],v0.2.2.2)).bind λt43_2 =>
 some t43_2)
 (some false)).bind λt44_2 =>
 some t44_2)
 (cond (v0.1==5)
 (cond (v0.1==5)
 (((aK v0 (v0.1,0,[],[])).bind λt43_3 =>
 some t43_3).bind λt44_3 =>
 some t44_3)
 (some false))
 (cond (v0.1==128)
 (cond (v0.1==128)
 (((aK v0 (v0.1,0,[],[])).bind λt43_4 =>
 some t43_4).bind λt44_4 =>
 some t44_4)
 (some false))
 (cond (v0.1==130)
 (((aK v0 (v0.1,0,[],[])).bind λt43_5 =>
 some t43_5).bind λt44_5 =>
 some t44_5)
 (some false))))))
def mE:FL:=(92,⟨[.val true zz false],[.val false vr (some true)],λa=>ao a⟩)::mD
theorem sn:Gd mE:=uK sm 92 Tryz.f92 [] Tryz.func92
def ij (p0:v9) (t35:Int):Option (Int⊕(Unit⊕Bool)) :=
 cond (decide (t35<(p0.2.2.2.2.length:Int)))
 ((at? p0.2.2.2.2 t35).bind λx38 =>
 (cond (decide (t35>=10))
 (some true)
 ((am x38.1).bind λt45 =>
 some (!t45))).bind λt47 =>
 (cond t47
 (some true)
 ((ao x38.2).bind λt51 =>
 some (!t51))).bind λt53 =>
 cond t53 (some (.inr (.inr false))) (some (.inl (uB (t35+1)))))
 (some (.inr (.inl ())))
def mF (p0:v9) (t35_1:Int):Option (Int⊕(Unit⊕Bool)) :=
 cond (decide (t35_1<(p0.2.2.2.2.length:Int)))
 ((at? p0.2.2.2.2 t35_1).bind λx38_1 =>
 (cond (decide (t35_1>=10))
 (some true)
 ((am x38_1.1).bind λt45_1 =>
 some (!t45_1))).bind λt47_1 =>
 (cond t47_1
 (some true)
 ((ao x38_1.2).bind λt51_1 =>
 some (!t51_1))).bind λt53_1 =>
 cond t53_1 (some (.inr (.inr false))) (some (.inl (uB (t35_1+1)))))
 (some (.inr (.inl ())))
def mG (p0:v9) (t35_2:Int):Option (Int⊕(Unit⊕Bool)) :=
 cond (decide (t35_2<(p0.2.2.2.2.length:Int)))
 ((at? p0.2.2.2.2 t35_2).bind λx38_2 =>
 (cond (decide (t35_2>=10))
 (some true)
 ((am x38_2.1).bind λt45_2 =>
 some (!t45_2))).bind λt47_2 =>
 (cond t47_2
 (some true)
 ((ao x38_2.2).bind λt51_2 =>
 some (!t51_2))).bind λt53_2 =>
 cond t53_2 (some (.inr (.inr false))) (some (.inl (uB (t35_2+1)))))
 (some (.inr (.inl ())))
def mH (p0:v9) (t35_3:Int):Option (Int⊕(Unit⊕Bool)) :=
 cond (decide (t35_3<(p0.2.2.2.2.length:Int)))
 ((at? p0.2.2.2.2 t35_3).bind λx38_3 =>
 (cond (decide (t35_3>=10))
 (some true)
 ((am x38_3.1).bind λt45_3 =>
 some (!t45_3))).bind λt47_3 =>
 (cond t47_3
 (some true)
 ((ao x38_3.2).bind λt51_3 =>
 some (!t51_3))).bind λt53_3 =>
 cond t53_3 (some (.inr (.inr false))) (some (.inl (uB (t35_3+1)))))
 (some (.inr (.inl ())))
def mI (p0:v9) (t35_4:Int):Option (Int⊕(Unit⊕Bool)) :=
 cond (decide (t35_4<(p0.2.2.2.2.length:Int)))
 ((at? p0.2.2.2.2 t35_4).bind λx38_4 =>
 (cond (decide (t35_4>=10))
 (some true)
 ((am x38_4.1).bind λt45_4 =>
 some (!t45_4))).bind λt47_4 =>
 (cond t47_4
 (some true)
 ((ao x38_4.2).bind λt51_4 =>
 some (!t51_4))).bind λt53_4 =>
 cond t53_4 (some (.inr (.inr false))) (some (.inl (uB (t35_4+1)))))
 (some (.inr (.inl ())))
def mJ (p0:v9) (t35_5:Int):Option (Int⊕(Unit⊕Bool)) :=
 cond (decide (t35_5<(p0.2.2.2.2.length:Int)))
 ((at? p0.2.2.2.2 t35_5).bind λx38_5 =>
 (cond (decide (t35_5>=10))
 (some true)
 ((am x38_5.1).bind λt45_5 =>
 some (!t45_5))).bind λt47_5 =>
 (cond t47_5
 (some true)
 ((ao x38_5.2).bind λt51_5 =>
 some (!t51_5))).bind λt53_5 =>
 cond t53_5 (some (.inr (.inr false))) (some (.inl (uB (t35_5+1)))))
 (some (.inr (.inl ())))
def mK (p0:v9) (t35_6:Int):Option (Int⊕(Unit⊕Bool)) :=
 cond (decide (t35_6<(p0.2.2.2.2.length:Int)))
 ((at? p0.2.2.2.2 t35_6).bind λx38_6 =>
 (cond (decide (t35_6>=10))
 (some true)
 ((am x38_6.1).bind λt45_6 =>
 some (!t45_6))).bind λt47_6 =>
 (cond t47_6
 (some true)
 ((ao x38_6.2).bind λt51_6 =>
 some (!t51_6))).bind λt53_6 =>
 cond t53_6 (some (.inr (.inr false))) (some (.inl (uB (t35_6+1)))))
 (some (.inr (.inl ())))
def mL (p0:v9) (t35_7:Int):Option (Int⊕(Unit⊕Bool)) :=
 cond (decide (t35_7<(p0.2.2.2.2.length:Int)))
 ((at? p0.2.2.2.2 t35_7).bind λx38_7 =>
 (cond (decide (t35_7>=10))
 (some true)
 ((am x38_7.1).bind λt45_7 =>
 some (!t45_7))).bind λt47_7 =>
 (cond t47_7
 (some true)
 ((ao x38_7.2).bind λt51_7 =>
 some (!t51_7))).bind λt53_7 =>
 cond t53_7 (some (.inr (.inr false))) (some (.inl (uB (t35_7+1)))))
 (some (.inr (.inl ())))
def mM (p0:v9) (t35_8:Int):Option (Int⊕(Unit⊕Bool)) :=
 cond (decide (t35_8<(p0.2.2.2.2.length:Int)))
 ((at? p0.2.2.2.2 t35_8).bind λx38_8 =>
 (cond (decide (t35_8>=10))
 (some true)
 ((am x38_8.1).bind λt45_8 =>
 some (!t45_8))).bind λt47_8 =>
 (cond t47_8
 (some true)
 ((ao x38_8.2).bind λt51_8 =>
 some (!t51_8))).bind λt53_8 =>
 cond t53_8 (some (.inr (.inr false))) (some (.inl (uB (t35_8+1)))))
 (some (.inr (.inl ())))
def da (p0:v9):Option Bool :=
 cond (p0.1==160)
 (cond (p0.1==160)
 ((cond (p0.2.2.1 != 0) (some true) (some (p0.2.2.2.1 != 0))).bind λt18 =>
 cond t18
 (some false)
 ((loop (λz=>ij p0 z) 0).bind (Sum.elim (λd =>
 (aC p0.2.1).bind λt57 =>
 some t57) (λr=>some r))))
 (cond (p0.1==162)
 (cond (p0.1==162)
 ((ac p0.2.2.1 0 1000).bind λt24 =>
 (cond (!t24)
 (some true)
 ((ac p0.2.2.2.1 0 1000).bind λt29 =>
 some (!t29))).bind λt31 =>
 cond t31
 (some false)
 ((loop (λz=>mF p0 z) 0).bind (Sum.elim (λd_1 =>
 (aC p0.2.1).bind λt57_1 =>
 some t57_1) (λr_1=>some r_1))))
 (some false))
 (cond (p0.1==165)
 ((ac p0.2.2.1 0 1000).bind λt24_1 =>
 (cond (!t24_1)
 (some true)
 ((ac p0.2.2.2.1 0 1000).bind λt29_1 =>
 some (!t29_1))).bind λt31_1 =>
 cond t31_1
 (some false)
 ((loop (λz=>mG p0 z) 0).bind (Sum.elim (λd_2 =>
 (aC p0.2.1).bind λt57_2 =>
 some t57_2) (λr_2=>some r_2))))
 (some false))))
 (cond (p0.1==161)
 (cond (p0.1==161)
 ((cond (p0.2.2.1 != 0) (some true) (some (p0.2.2.2.1 != 0))).bind λt18_1 =>
 cond t18_1
 (some false)
 ((loop (λz=>mH p0 z) 0).bind (Sum.elim (λd_3 =>
 (aC p0.2.1).bind λt57_3 =>
 some t57_3) (λr_3=>some r_3))))
 (cond (p0.1==162)
 (cond (p0.1==162)
 ((ac p0.2.2.1 0 1000).bind λt24_2 =>
 (cond (!t24_2)
 (some true)
 ((ac p0.2.2.2.1 0 1000).bind λt29_2 =>
 some (!t29_2))).bind λt31_2 =>
 cond t31_2
 (some false)
 ((loop (λz=>mI p0 z) 0).bind (Sum.elim (λd_4 =>
 (aC p0.2.1).bind λt57_4 =>
 some t57_4) (λr_4=>some r_4))))
 (some false))
 (cond (p0.1==165)
 ((ac p0.2.2.1 0 1000).bind λt24_3 =>
 (cond (!t24_3)
 (some true)
 ((ac p0.2.2.2.1 0 1000).bind λt29_3 =>
 some (!t29_3))).bind λt31_3 =>
 cond t31_3
 (some false)
 ((loop (λz=>mJ p0 z) 0).bind (Sum.elim (λd_5 =>
 (aC p0.2.1).bind λt57_5 =>
 some t57_5) (λr_5=>some r_5))))
 (some false))))
 (cond (p0.1==163)
 ((cond (p0.2.2.1 != 0) (some true) (some (p0.2.2.2.1 != 0))).bind λt18_2 =>
 cond t18_2
 (some false)
 ((loop (λz=>mK p0 z) 0).bind (Sum.elim (λd_6 =>
 (aC p0.2.1).bind λt57_6 =>
 some t57_6) (λr_6=>some r_6))))
 (cond (p0.1==162)
 (cond (p0.1==162)
 ((ac p0.2.2.1 0 1000).bind λt24_4 =>
 (cond (!t24_4)
 (some true)
 ((ac p0.2.2.2.1 0 1000).bind λt29_4 =>
 some (!t29_4))).bind λt31_4 =>
 cond t31_4
 (some false)
 ((loop (λz=>mL p0 z) 0).bind (Sum.elim (λd_7 =>
 (aC p0.2.1).bind λt57_7 =>
 some t57_7) (λr_7=>some r_7))))
 (some false))
 (cond (p0.1==165)
 ((ac p0.2.2.1 0 1000).bind λt24_5 =>
 (cond (!t24_5)
 (some true)
 ((ac p0.2.2.2.1 0 1000).bind λt29_5 =>
 some (!t29_5))).bind λt31_5 =>
 cond t31_5
 (some false)
 ((loop (λz=>mM p0 z) 0).bind (Sum.elim (λd_8 =>
 (aC p0.2.1).bind λt57_8 =>
 some t57_8) (λr_8=>some r_8))))
 (some false)))))
def mN:FL:=(17,⟨[.val true wQ false],[.val false vr (some true)],λa=>da a⟩)::mE
theorem so:Gd mN:=uK sn 17 Tryz.f17 [(1,⟨⟨(35,false,[dI])::us 43 4 (us 49 4 []),[]⟩,
 ⟨[],[]⟩,some ⟨[(2,false,[dB])],[]⟩⟩)] Tryz.func17
def fR (j0:vF):Option Bool :=
 (ac j0.2.2.1 0 2).bind λt5 =>
 (cond (!t5)
 (some true)
 ((ac j0.2.2.2.2.2.2.2.2.2.2.2.2.2.2.2.2.2.2.2.1 0 (j0.2.2.2.2.2.2.2.1.length:Int)).bind λt14 =>
 some (!t14))).bind λt16 =>
 (cond t16
 (some true)
 ((ac j0.2.2.2.2.2.2.2.2.2.2.2.2.2.2.2.2.2.2.2.2 0 3).bind λt20 =>
 some (!t20))).bind λt22 =>
 cond t22
 (some false)
 ((cond (j0.2.2.1==0)
 (some true)
 ((da (j0.2.2.2.1,j0.2.2.2.2.1,j0.2.2.2.2.2.1,j0.2.2.2.2.2.2.1,j0.2.2.2.2.2.2.2.1)).bind λt29 =>
 (cond t29 (some (j0.2.2.2.1 != 162)) (some false)).bind λt35 =>
 (cond t35
 ((aS (j0.2.2.2.2.2.2.2.2.1,j0.2.2.2.2.2.2.2.2.2.1,j0.2.2.2.2.2.2.2.2.2.2.1,j0.2.2.2.2.2.2.2.2.2.2.2.1,j0.2.2.2.2.2.2.2.2.2.2.2.2.1,j0.2.2.2.2.2.2.2.2.2.2.2.2.2.1,j0.2.2.2.2.2.2.2.2.2.2.2.2.2.2.1,j0.2.2.2.2.2.2.2.2.2.2.2.2.2.2.2.1,j0.2.2.2.2.2.2.2.2.2.2.2.2.2.2.2.2.1,j0.2.2.2.2.2.2.2.2.2.2.2.2.2.2.2.2.2.1,j0.2.2.2.2.2.2.2.2.2.2.2.2.2.2.2.2.2.2.1)).bind λt39 =>
 some t39)
 (some false)).bind λt40 =>
 some t40)).bind λt41 =>
 some t41)
def mO:FL:=(135,⟨[.val true z6 false],[.val false vr (some true)],λa=>fR a⟩)::mN
theorem sq:Gd mO:=uK so 135 Tryz.f135 [] Tryz.func135
def jm (p0:uN) (t36:Int):Option (Int⊕(Unit⊕Bool)) :=
 cond (decide (t36<(p0.2.2.2.2.2.2.2.2.2.2.2.2.1.length:Int)))
 ((at? p0.2.2.2.2.2.2.2.2.2.2.2.2.1 t36).bind λx39 =>
 (ac x39.1 1 p0.2.2.2.2.2.2.2.2.2.2.2.2.2.2).bind λt45 =>
 (cond (!t45)
 (some true)
 ((cond (decide (t36>0))
 ((at? p0.2.2.2.2.2.2.2.2.2.2.2.2.1 (uB (t36-1))).bind λx55 =>
 some (decide (x55.1>=x39.1)))
 (some false)).bind λt61 =>
 some t61)).bind λt62 =>
 (cond t62
 (some true)
 ((fR x39).bind λt65 =>
 some (!t65))).bind λt67 =>
 cond t67 (some (.inr (.inr false))) (some (.inl (uB (t36+1)))))
 (some (.inr (.inl ())))
def ed (p0:uN):Option Bool :=
 (aS (p0.1,p0.2.1,p0.2.2.1,p0.2.2.2.1,p0.2.2.2.2.1,p0.2.2.2.2.2.1,p0.2.2.2.2.2.2.1,p0.2.2.2.2.2.2.2.1,p0.2.2.2.2.2.2.2.2.1,p0.2.2.2.2.2.2.2.2.2.1,p0.2.2.2.2.2.2.2.2.2.2.1)).bind λt7 =>
 (cond (!t7)
 (some true)
 (some (decide ((p0.2.2.2.2.2.2.2.2.2.2.2.1.length:Int)>20)))).bind λt14 =>
 (cond t14
 (some true)
 (some (decide ((p0.2.2.2.2.2.2.2.2.2.2.2.2.1.length:Int)>6)))).bind λt20 =>
 (cond t20
 (some true)
 ((bt p0.2.2.2.2.2.2.2.2.2.2.2.2.2.1).bind λt24 =>
 some (!t24))).bind λt26 =>
 (cond t26
 (some true)
 ((bt p0.2.2.2.2.2.2.2.2.2.2.2.2.2.2).bind λt30 =>
 some (!t30))).bind λt32 =>
 cond t32
 (some false)
 ((loop (λz=>jm p0 z) 0).bind (Sum.elim (λd =>
 some true) (λr=>some r)))
def mP:FL:=(43,⟨[.val true vO false],[.val false vr (some true)],λa=>ed a⟩)::mO
theorem sr:Gd mP:=uK sq 43 Tryz.f43 [(0,⟨⟨(36,false,[dI])::us 48 14 (us 64 3 []),[]⟩,
 ⟨[],[]⟩,some ⟨[(2,false,[dB])],[]⟩⟩)] Tryz.func43
def bu (b0:List Int):Option (List Int) :=
 (uV [] b0).bind λzs4 =>
 some zs4
def mQ:FL:=(131,⟨[.val false wv false],[.val false wv (some true)],λa=>bu a⟩)::mP
theorem su:Gd mQ:=uK sr 131 Tryz.f131 [] Tryz.func131
def il (v0:yj):Option yj :=
 (bf v0.2.2.2).bind λt5 =>
 some (v0.1,v0.2.1,v0.2.2.1,t5)
def mR:FL:=(173,⟨[.val true zz false],[.val true zz (some true)],λa=>il a⟩)::mQ
theorem sv:Gd mR:=uK su 173 Tryz.f173 [] Tryz.func173
def eo (l0:List uC) (t8:Int) (out3:List uC):Option ((Int×List uC)⊕(List uC)) :=
 cond (decide (t8<(l0.length:Int)))
 ((at? l0 t8).bind λx10 =>
 (bf x10.1).bind λt15 =>
 (il x10.2).bind λt18 =>
 (uV out3 [(t15,t18.1,t18.2.1,t18.2.2.1,t18.2.2.2)]).bind λzs21 =>
 some (.inl (uB (t8+1),zs21)))
 (some (.inr out3))
def ep (l0:List uC):Option (List uC) :=
 (loop (λz=>eo l0 z.1 z.2) (0,[])).bind λd =>
 some d
def mS:FL:=(81,⟨[.val false (.one (.sl uU)) false],[.val false (.one (.sl uU)) (some true)],λa=>ep a⟩)::mR
theorem sw:Gd mS:=uK sv 81 Tryz.f81 [(0,⟨⟨[(3,false,[.own 1000000000]),(8,false,[dI])],[(1000000000,.root uU true)]⟩,
 ⟨[(3,false,[.own 1000000300])],[(1000000300,.root uU true)]⟩,none⟩)] Tryz.func81
def fS (p0:v9):Option v9 :=
 (ep p0.2.2.2.2).bind λt5 =>
 some (p0.1,p0.2.1,p0.2.2.1,p0.2.2.2.1,t5)
def mT:FL:=(233,⟨[.val true wQ false],[.val true wQ (some true)],λa=>fS a⟩)::mS
theorem sx:Gd mT:=uK sw 233 Tryz.f233 [] Tryz.func233
def eq (a0:uN) (t13:Int) (jobs3:List vF):Option ((Int×List vF)⊕(List vF)) :=
 cond (decide (t13<(a0.2.2.2.2.2.2.2.2.2.2.2.2.1.length:Int)))
 ((at? a0.2.2.2.2.2.2.2.2.2.2.2.2.1 t13).bind λx15 =>
 (bu x15.2.1).bind λt19 =>
 (fS (x15.2.2.2.1,x15.2.2.2.2.1,x15.2.2.2.2.2.1,x15.2.2.2.2.2.2.1,x15.2.2.2.2.2.2.2.1)).bind λt22 =>
 (ak (x15.2.2.2.2.2.2.2.2.1,x15.2.2.2.2.2.2.2.2.2.1,x15.2.2.2.2.2.2.2.2.2.2.1,x15.2.2.2.2.2.2.2.2.2.2.2.1,x15.2.2.2.2.2.2.2.2.2.2.2.2.1,x15.2.2.2.2.2.2.2.2.2.2.2.2.2.1,x15.2.2.2.2.2.2.2.2.2.2.2.2.2.2.1,x15.2.2.2.2.2.2.2.2.2.2.2.2.2.2.2.1,x15.2.2.2.2.2.2.2.2.2.2.2.2.2.2.2.2.1,x15.2.2.2.2.2.2.2.2.2.2.2.2.2.2.2.2.2.1,x15.2.2.2.2.2.2.2.2.2.2.2.2.2.2.2.2.2.2.1)).bind λt25 =>
 (uV jobs3 [(x15.1,t19,x15.2.2.1,t22.1,t22.2.1,t22.2.2.1,t22.2.2.2.1,t22.2.2.2.2,t25.1,t25.2.1,t25.2.2.1,t25.2.2.2.1,t25.2.2.2.2.1,t25.2.2.2.2.2.1,t25.2.2.2.2.2.2.1,t25.2.2.2.2.2.2.2.1,t25.2.2.2.2.2.2.2.2.1,t25.2.2.2.2.2.2.2.2.2.1,t25.2.2.2.2.2.2.2.2.2.2,x15.2.2.2.2.2.2.2.2.2.2.2.2.2.2.2.2.2.2.2.1,x15.2.2.2.2.2.2.2.2.2.2.2.2.2.2.2.2.2.2.2.2)]).bind λzs32 =>
 some (.inl (uB (t13+1),zs32)))
 (some (.inr jobs3))
def cW (a0:uN):Option uN :=
 (ak (a0.1,a0.2.1,a0.2.2.1,a0.2.2.2.1,a0.2.2.2.2.1,a0.2.2.2.2.2.1,a0.2.2.2.2.2.2.1,a0.2.2.2.2.2.2.2.1,a0.2.2.2.2.2.2.2.2.1,a0.2.2.2.2.2.2.2.2.2.1,a0.2.2.2.2.2.2.2.2.2.2.1)).bind λt8 =>
 (loop (λz=>eq a0 z.1 z.2) (0,[])).bind λd =>
 some (t8.1,t8.2.1,t8.2.2.1,t8.2.2.2.1,t8.2.2.2.2.1,t8.2.2.2.2.2.1,t8.2.2.2.2.2.2.1,t8.2.2.2.2.2.2.2.1,t8.2.2.2.2.2.2.2.2.1,t8.2.2.2.2.2.2.2.2.2.1,t8.2.2.2.2.2.2.2.2.2.2,a0.2.2.2.2.2.2.2.2.2.2.2.1,d,a0.2.2.2.2.2.2.2.2.2.2.2.2.2.1,a0.2.2.2.2.2.2.2.2.2.2.2.2.2.2)
def mU:FL:=(129,⟨[.val true vO false],[.val true vO (some true)],λa=>cW a⟩)::mT
theorem sy:Gd mU:=uK sx 129 Tryz.f129 [(0,⟨⟨[(3,false,[.own 1000000000]),(13,false,[dI])],[(1000000000,.root z6 true)]⟩,
 ⟨[(3,false,[.own 1000000300])],[(1000000300,.root z6 true)]⟩,none⟩)] Tryz.func129
def aD (n0:Int):Option Int :=
 let t2:=min2 (uB (n0+1)) 1000000
 some t2
def mV:FL:=(130,⟨[.val false uI false],[.val false uI (some true)],λa=>aD a⟩)::mU
theorem sA:Gd mV:=uK sy 130 Tryz.f130 [] Tryz.func130
def bv (a0:uN) (b1:List Int):Option uN :=
 (cW a0).bind λt7 =>
 (ed a0).bind λt24 =>
 cond (!t24)
 (some t7)
 ((cond (decide ((a0.2.2.2.2.2.2.2.2.2.2.2.2.1.length:Int)>=6))
 (some true)
 (some (decide (a0.2.2.2.2.2.2.2.2.2.2.2.2.2.2>=1000000)))).bind λt35 =>
 cond t35
 ((aD a0.2.2.2.2.2.2.2.2.2.2.2.2.2.1).bind λt38 =>
 some (t7.1,t7.2.1,t7.2.2.1,t7.2.2.2.1,t7.2.2.2.2.1,t7.2.2.2.2.2.1,t7.2.2.2.2.2.2.1,t7.2.2.2.2.2.2.2.1,t7.2.2.2.2.2.2.2.2.1,t7.2.2.2.2.2.2.2.2.2.1,t7.2.2.2.2.2.2.2.2.2.2.1,t7.2.2.2.2.2.2.2.2.2.2.2.1,t7.2.2.2.2.2.2.2.2.2.2.2.2.1,t38,t7.2.2.2.2.2.2.2.2.2.2.2.2.2.2))
 ((bu b1).bind λt17 =>
 (uV t7.2.2.2.2.2.2.2.2.2.2.2.2.1 ([(uB (t7.2.2.2.2.2.2.2.2.2.2.2.2.2.2+1),t17,0,0,0,0,0,[],0,[],[],[],[],[],0,0,0,0,0,0,0)])).bind λzs20 =>
 some (t7.1,t7.2.1,t7.2.2.1,t7.2.2.2.1,t7.2.2.2.2.1,t7.2.2.2.2.2.1,t7.2.2.2.2.2.2.1,t7.2.2.2.2.2.2.2.1,t7.2.2.2.2.2.2.2.2.1,t7.2.2.2.2.2.2.2.2.2.1,t7.2.2.2.2.2.2.2.2.2.2.1,t7.2.2.2.2.2.2.2.2.2.2.2.1,zs20,t7.2.2.2.2.2.2.2.2.2.2.2.2.2.1,uB (t7.2.2.2.2.2.2.2.2.2.2.2.2.2.2+1))))
def mW:FL:=(38,⟨[.val true vO false,.val false wv false],[.val true vO (some true)],λa=>bv a.1 a.2⟩)::mV
theorem sB:Gd mW:=uK sA 38 Tryz.f38 [] Tryz.func38
def de (p0:List Int) (i1:Int):Option (Int×(List Int)×Int×Bool) :=
 (cond (decide (i1<0)) (some true) (some (decide (i1>(uB ((p0.length:Int)-2)))))).bind λt18 =>
 cond t18
 (some (0,[],0,false))
 ((at? p0 (uB (i1+1))).bind λx22 =>
 cond (decide ((uB (x22))>=128))
 ((cond ((uB (x22)) != 129) (some true) (some (decide ((uB (i1+2))>=(p0.length:Int))))).bind λt36 =>
 (cond t36
 (some true)
 ((at? p0 (uB (i1+2))).bind λx40 =>
 some (decide (x40<128)))).bind λt43 =>
 cond t43
 (some (0,[],0,false))
 ((at? p0 (uB (i1+2))).bind λx46 =>
 (cond (decide ((uB (x46))>250))
 (some true)
 (some (decide ((uB (x46))>(uB ((p0.length:Int)-(uB ((uB (i1+2))+1)))))))).bind λt60 =>
 cond t60
 (some (0,[],0,false))
 ((at? p0 i1).bind λx63 =>
 (cut p0 (uB ((uB (i1+2))+1)) (uB ((uB ((uB (i1+2))+1))+(uB (x46))))).bind λt71 =>
 (bu t71).bind λt72 =>
 let t6:=uB ((uB ((uB (i1+2))+1))+(uB (x46)))
 some (uB (x63),t72,t6,true))))
 ((cond (decide ((uB (x22))>250))
 (some true)
 (some (decide ((uB (x22))>(uB ((p0.length:Int)-(uB (i1+2)))))))).bind λt60_1 =>
 cond t60_1
 (some (0,[],0,false))
 ((at? p0 i1).bind λx63_1 =>
 (cut p0 (uB (i1+2)) (uB ((uB (i1+2))+(uB (x22))))).bind λt71_1 =>
 (bu t71_1).bind λt72_1 =>
 let t6_1:=uB ((uB (i1+2))+(uB (x22)))
 some (uB (x63_1),t72_1,t6_1,true))))
def mX:FL:=(316,⟨[.val false wv false,.val false uI false],[.val false uI (some true),.val false wv (some true),.val false uI (some true),.val false vr (some true)],λa=>de a.1 a.2⟩)::mW
theorem sC:Gd mX:=uK sB 316 Tryz.f316 [] Tryz.func316
def bL (r0:Bq) (tag1:Int):Option (Bq×List Int) :=
 (de r0.1 r0.2.1).bind λt18 =>
 (cond r0.2.2 (some true) (some (!t18.2.2.2))).bind λt30 =>
 (cond t30 (some true) (some (t18.1 != tag1))).bind λt35 =>
 cond t35
 (some ((r0.1,r0.2.1,true),[]))
 (some ((r0.1,t18.2.2.1,r0.2.2),t18.2.1))
def mY:FL:=(318,⟨[.ptr Bp none,.val false uI false],[.val false wv (some true)],λa=>bL a.1 a.2⟩)::mX
theorem sD:Gd mY:=uK sC 318 Tryz.f318 [] Tryz.func318
def aV (n0_1:Int) (k3:Int):Option (Int⊕Int) :=
 (cond (decide (k3<4))
 ((shl .i64 (-1) (uB ((uB (8*k3))-1))).bind λt16 =>
 (shl .i64 1 (uB ((uB (8*k3))-1))).bind λt20 =>
 (ac n0_1 t16 (uB (t20-1))).bind λt22 =>
 some (!t22))
 (some false)).bind λt24 =>
 cond t24 (some (.inl (uB (k3+1)))) (some (.inr k3))
def aE (n0_1:Int) (i5:Int) (out4:List Int):Option ((Int×List Int)⊕(List Int)) :=
 cond (decide (i5>=0))
 ((shr .i64 n0_1 (uB (8*i5))).bind λt37 =>
 (uV out4 [IntKind.u8.wrap (t37)]).bind λzs40 =>
 some (.inl (uB (i5-1),zs40)))
 (some (.inr out4))
def es (n0:Int):Option (List Int) :=
 let n0_1:=max2 (-2147483648) (min2 n0 2147483647)
 (loop (λz=>aV n0_1 z) 1).bind λd =>
 (loop (λz=>aE n0_1 z.1 z.2) (uB (d-1),[])).bind λd_1 =>
 some d_1
def mZ:FL:=(293,⟨[.val false uI false],[.val false wv (some true)],λa=>es a⟩)::mY
theorem sE:Gd mZ:=uK sD 293 Tryz.f293 [(0,⟨⟨(3,false,[dI])::us 12 12 [],[]⟩,
 ⟨[(3,false,[dI])],[]⟩,none⟩),
 (2,⟨⟨[(4,false,[.own 1000002000]),(5,false,[dI])],[(1000002000,.root (.one (.int .u8)) true)]⟩,
 ⟨[(4,false,[.own 1000002300])],[(1000002300,.root (.one (.int .u8)) true)]⟩,none⟩)] Tryz.func293
def eu (t17:List Int) (n4_1:Int) (t19:Int):Option ((Int×Int)⊕Int) :=
 cond (decide (t19<(t17.length:Int)))
 ((at? t17 t19).bind λx21 =>
 let n4_2:=BU .i64 (uB (n4_1*2^8)) (uB (x21))
 some (.inl (n4_2,uB (t19+1))))
 (some (.inr n4_1))
def fT (b0:List Int):Option (Int×Bool) :=
 (ac (b0.length:Int) 1 4).bind λt9 =>
 cond (!t9)
 (some (0,false))
 ((at? b0 0).bind λx12 =>
 let n4:=uB (IntKind.i8.wrap (x12))
 (cut b0 1 (b0.length:Int)).bind λt17 =>
 (loop (λz=>eu t17 z.1 z.2) (n4,0)).bind λd =>
 (es d).bind λt30 =>
 cond ((t30.length:Int) != (b0.length:Int)) (some (0,false)) (some (d,true)))
def na:FL:=(350,⟨[.val false wv false],[.val false uI (some true),.val false vr (some true)],λa=>fT a⟩)::mZ
theorem sF:Gd na:=uK sE 350 Tryz.f350 [(0,⟨⟨[(4,false,[dI]),(19,false,[dI])],[]⟩,
 ⟨[(4,false,[dI])],[]⟩,none⟩)] Tryz.func350
def dg (r0:Bq) (tag1:Int):Option (Bq×Int) :=
 (bL r0 tag1).bind λt10 =>
 (fT t10.2).bind λt11 =>
 (cond t10.1.2.2 (some true) (some (!t11.2))).bind λt22 =>
 some ((t10.1.1,t10.1.2.1,t22),t11.1)
def nb:FL:=(317,⟨[.ptr Bp none,.val false uI false],[.val false uI (some true)],λa=>dg a.1 a.2⟩)::na
theorem sG:Gd nb:=uK sF 317 Tryz.f317 [] Tryz.func317
def dh (tag0:Int) (body1:List Int):Option ((List Int)×Bool) :=
 (ac tag0 0 255).bind λt8 =>
 (cond (!t8) (some true) (some (decide ((body1.length:Int)>250)))).bind λt14 =>
 cond t14
 (some ([],false))
 (cond (decide ((body1.length:Int)>=128))
 ((uV [IntKind.u8.wrap (tag0)] ([129]:List Int)).bind λzs23 =>
 (uV zs23 [IntKind.u8.wrap ((body1.length:Int))]).bind λzs29 =>
 (uV zs29 body1).bind λzs31 =>
 some (zs31,true))
 ((uV [IntKind.u8.wrap (tag0)] [IntKind.u8.wrap ((body1.length:Int))]).bind λzs29_1 =>
 (uV zs29_1 body1).bind λzs31_1 =>
 some (zs31_1,true)))
def nc:FL:=(182,⟨[.val false uI false,.val false wv false],[.val false wv (some true),.val false vr (some true)],λa=>dh a.1 a.2⟩)::nb
theorem sH:Gd nc:=uK sG 182 Tryz.f182 [] Tryz.func182
def bx (b0:List Int) (tag1:Int) (body2:List Int):Option (List Int) :=
 (dh tag1 body2).bind λt12 =>
 (bu b0).bind λt16 =>
 (uV t16 t12.1).bind λzs18 =>
 some zs18
def nd:FL:=(184,⟨[.val false wv false,.val false uI false,.val false wv false],[.val false wv (some true)],λa=>bx a.1 a.2.1 a.2.2⟩)::nc
theorem sI:Gd nd:=uK sH 184 Tryz.f184 [] Tryz.func184
def cj (x14:Int) (k6:Int):Option (Int⊕Int) :=
 (shr .i64 x14 (uB (7*k6))).bind λt19 =>
 cond (decide (t19>127)) (some (.inl (uB (k6+1)))) (some (.inr k6))
def dj (x14:Int) (k6_2:Int) (out3_1:List Int):Option ((Int×List Int)⊕(List Int)) :=
 cond (decide (k6_2>0))
 ((shr .i64 x14 (uB (7*k6_2))).bind λt31 =>
 (uV out3_1 [IntKind.u8.wrap (uB ((xO .i64 t31 127)+128))]).bind λzs36 =>
 some (.inl (uB (k6_2-1),zs36)))
 (some (.inr out3_1))
def ev (o0:List Int) (t12:Int) (out3:List Int):Option ((Int×List Int)⊕(List Int)) :=
 cond (decide (t12<(o0.length:Int)))
 ((at? o0 t12).bind λx14 =>
 (loop (λz=>cj x14 z) 0).bind λd =>
 (loop (λz=>dj x14 z.1 z.2) (d,out3)).bind λd_1 =>
 (uV d_1 [IntKind.u8.wrap (xO .i64 x14 127)]).bind λzs42 =>
 some (.inl (uB (t12+1),zs42)))
 (some (.inr out3))
def dk (o0:List Int):Option (List Int) :=
 (am o0).bind λt8 =>
 cond (!t8)
 (some [])
 ((loop (λz=>ev o0 z.1 z.2) (0,[])).bind λd_2 =>
 some d_2)
def ne:FL:=(185,⟨[.val false xk false],[.val false wv (some true)],λa=>dk a⟩)::nd
theorem sJ:Gd ne:=uK sI 185 Tryz.f185 [(0,⟨⟨[(3,false,[.own 1000000000]),(12,false,[dI])],[(1000000000,.root (.one (.int .u8)) true)]⟩,
 ⟨[(3,false,[.own 1000000300])],[(1000000300,.root (.one (.int .u8)) true)]⟩,none⟩),
 (2,⟨⟨[(6,false,[dI])],[]⟩,
 ⟨[(6,false,[dI])],[]⟩,none⟩),
 (4,⟨⟨[(3,false,[.own 1000004000]),(6,false,[dI])],[(1000004000,.root (.one (.int .u8)) true)]⟩,
 ⟨[(3,false,[.own 1000004300])],[(1000004300,.root (.one (.int .u8)) true)]⟩,none⟩)] Tryz.func185
def ip (b0:List Int) (v1:yj):Option (List Int) :=
 (ao v1).bind λt7 =>
 cond (!t7)
 ((bu b0).bind λt10 =>
 some t10)
 (cond (v1.1==2)
 ((es v1.2.1).bind λt17 =>
 (bx b0 v1.1 t17).bind λt32 =>
 some t32)
 (cond (v1.1==4)
 ((bx b0 v1.1 (xr v1.2.2.1)).bind λt32_1 =>
 some t32_1)
 (cond (v1.1==6)
 ((dk v1.2.2.2).bind λt27 =>
 (bx b0 v1.1 t27).bind λt32_2 =>
 some t32_2)
 ((bx b0 v1.1 []).bind λt32_3 =>
 some t32_3))))
def ng:FL:=(183,⟨[.val false wv false,.val true zz false],[.val false wv (some true)],λa=>ip a.1 a.2⟩)::ne
theorem sK:Gd ng:=uK sJ 183 Tryz.f183 [] Tryz.func183
def ez (out0:List Int) (tag1:Int) (n2:Int):Option (List Int) :=
 (es n2).bind λt10 =>
 (bx out0 tag1 t10).bind λt11 =>
 some t11
def nh:FL:=(186,⟨[.val false wv false,.val false uI false,.val false uI false],[.val false wv (some true)],λa=>ez a.1 a.2.1 a.2.2⟩)::ng
theorem sL:Gd nh:=uK sK 186 Tryz.f186 [] Tryz.func186
def eA (p0:v9) (t18:Int) (t3:List Int):Option ((Int×List Int)⊕((List Int)⊕(List Int))) :=
 cond (decide (t18<(p0.2.2.2.2.length:Int)))
 ((at? p0.2.2.2.2 t18).bind λx20 =>
 (dk x20.1).bind λt25 =>
 (bx [] 6 t25).bind λt26 =>
 (ip t26 x20.2).bind λt29 =>
 (dh 48 t29).bind λt30 =>
 cond (!t30.2)
 (some (.inr (.inr [])))
 ((uV t3 t30.1).bind λzs37 =>
 some (.inl (uB (t18+1),zs37))))
 (some (.inr (.inl t3)))
def fU (p0:v9):Option (List Int) :=
 (da p0).bind λt13 =>
 cond (!t13)
 (some [])
 ((loop (λz=>eA p0 z.1 z.2) (0,[])).bind (Sum.elim (λd =>
 (dh 48 d).bind λt41 =>
 cond (!t41.2)
 (some [])
 ((ez [] 2 p0.2.1).bind λt51 =>
 (ez t51 2 p0.2.2.1).bind λt54 =>
 (ez t54 2 p0.2.2.2.1).bind λt57 =>
 (uV t57 t41.1).bind λzs59 =>
 (dh p0.1 zs59).bind λt60 =>
 cond (!t60.2) (some []) (some t60.1))) (λr=>some r)))
def ni:FL:=(94,⟨[.val true wQ false],[.val false wv (some true)],λa=>fU a⟩)::nh
theorem sM:Gd ni:=uK sL 94 Tryz.f94 [(0,⟨⟨[(3,false,[.own 1000000000]),(18,false,[dI])],[(1000000000,.root (.one (.int .u8)) true)]⟩,
 ⟨[(3,false,[.own 1000000300])],[(1000000300,.root (.one (.int .u8)) true)]⟩,some ⟨[(2,false,[.own 1000000600])],[(1000000600,.root (.one (.int .u8)) true)]⟩⟩)] Tryz.func94
def jn (r0:Bq):Option (Bq×Bool) :=
 (cond (!r0.2.2) (some (r0.2.1==(r0.1.length:Int))) (some false)).bind λt19 =>
 some (r0,t19)
def nj:FL:=(351,⟨[.ptr Bp none],[.val false vr (some true)],λa=>jn a⟩)::ni
theorem sN:Gd nj:=uK sM 351 Tryz.f351 [] Tryz.func351
def ax (b0:List Int) (n5:Int) (t11:Int) (out4:List Int):Option ((Int×Int×List Int)⊕((List Int)⊕(Bool×List Int))) :=
 cond (decide (t11<(b0.length:Int)))
 ((at? b0 t11).bind λx14 =>
 cond (decide (t11>=40))
 (some (.inr (.inr (false,[]))))
 (let n5_1:=BU .i64 (uB ((min2 n5 1048576)*2^7)) (uB (xO .u8 x14 127))
 cond (decide (x14<128))
 ((uV out4 [n5_1]).bind λzs30 =>
 some (.inl (0,uB (t11+1),zs30)))
 (some (.inl (n5_1,uB (t11+1),out4)))))
 (some (.inr (.inl out4)))
def ck (b0:List Int):Option ((List Int)×Bool) :=
 (loop (λz=>ax b0 z.1 z.2.1 z.2.2) (0,0,[])).bind (Sum.elim (λd =>
 (dk d).bind λt33 =>
 (cond ((t33.length:Int)==0) (some true) (some (!((vW t33)==(vW b0))))).bind λt43 =>
 cond t43 (some ([],false)) (some (d,true))) (λr=>some (r.2,r.1)))
def nk:FL:=(366,⟨[.val false wv false],[.val false xk (some true),.val false vr (some true)],λa=>ck a⟩)::nj
theorem sO:Gd nk:=uK sN 366 Tryz.f366 [(0,⟨⟨[(4,false,[.own 1000000000]),(5,false,[dI]),(11,false,[dI])],[(1000000000,.root uI true)]⟩,
 ⟨[(4,false,[.own 1000000300])],[(1000000300,.root uI true)]⟩,some ⟨[(2,false,[.own 1000000600]),(3,false,[dB])],[(1000000600,.root uI true)]⟩⟩)] Tryz.func366
def iq (b0:List Int) (at1:Int):Option (yj×Int×Bool) :=
 (de b0 at1).bind λt15 =>
 cond (!t15.2.2.2)
 (some ((0,0,[],[]),0,false))
 (cond (t15.1==2)
 ((fT t15.2.1).bind λt33 =>
 (cond (!t33.2)
 (some true)
 ((ao (t15.1,t33.1,[],[])).bind λt54 =>
 some (!t54))).bind λt56 =>
 cond t56
 (some ((0,0,[],[]),0,false))
 (some ((t15.1,t33.1,[],[]),t15.2.2.1,true)))
 (cond (t15.1==4)
 ((cond (!t15.2.2.2)
 (some true)
 ((ao (t15.1,0,vW t15.2.1,[])).bind λt54_1 =>
 some (!t54_1))).bind λt56_1 =>
 cond t56_1
 (some ((0,0,[],[]),0,false))
 (some ((t15.1,0,vW t15.2.1,[]),t15.2.2.1,true)))
 (cond (t15.1==6)
 ((ck t15.2.1).bind λt46 =>
 (cond (!t46.2)
 (some true)
 ((ao (t15.1,0,[],t46.1)).bind λt54_2 =>
 some (!t54_2))).bind λt56_2 =>
 cond t56_2
 (some ((0,0,[],[]),0,false))
 (some ((t15.1,0,[],t46.1),t15.2.2.1,true)))
 (let ok10:=(t15.2.1.length:Int)==0
 (cond (!ok10)
 (some true)
 ((ao (t15.1,0,[],[])).bind λt54_3 =>
 some (!t54_3))).bind λt56_3 =>
 cond t56_3
 (some ((0,0,[],[]),0,false))
 (some ((t15.1,0,[],[]),t15.2.2.1,true))))))
def nl:FL:=(367,⟨[.val false wv false,.val false uI false],[.val true zz (some true),.val false uI (some true),.val false vr (some true)],λa=>iq a.1 a.2⟩)::nk
theorem sP:Gd nl:=uK sO 367 Tryz.f367 [] Tryz.func367
def ir (b0:List Int):Option (uC×Bool) :=
 (bL (b0,0,false) 6).bind λt15 =>
 (ck t15.2).bind λt16 =>
 (iq b0 t15.1.2.1).bind λt25 =>
 (cond t15.1.2.2 (some true) (some (!t16.2))).bind λt36 =>
 (cond t36 (some true) (some (!t25.2.2))).bind λt40 =>
 (cond t40 (some true) (some (t25.2.1 != (b0.length:Int)))).bind λt46 =>
 cond t46
 (some (([],0,0,[],[]),false))
 (some ((t16.1,t25.1.1,t25.1.2.1,t25.1.2.2.1,t25.1.2.2.2),true))
def nn:FL:=(352,⟨[.val false wv false],[.val true uU (some true),.val false vr (some true)],λa=>ir a⟩)::nl
theorem sQ:Gd nn:=uK sP 352 Tryz.f352 [] Tryz.func352
def aF (b0:Int) (b1:Int) (b2:Int) (b3:Int) (b0_1:Int) (b1_1:Int) (b2_1:Int) (b3_1:Int) (b0_2:List Int) (b1_2:Int) (b2_2:Bool) (b4:List uC) (b4_1:List uC):Option ((Int×Int×Int×Int×Int×Int×Int×Int×List Int×Int×Bool×List uC×List uC)⊕((Int×Int×Int×Int×Int×Int×Int×Int×List Int×Int×Bool×List uC×List uC)⊕(Bool×Int×Int×Int×Int×List uC))) :=
 cond (decide (b1_2<(b0_2.length:Int)))
 ((bL (b0_2,b1_2,b2_2) 48).bind λt64 =>
 (ir t64.2).bind λt65 =>
 (cond (!t65.2) (some true) (some (decide ((b4_1.length:Int)>=10)))).bind λt75 =>
 cond t75
 (some (.inr (.inr (false,0,0,0,0,[]))))
 ((uV b4_1 [t65.1]).bind λzs81 =>
 some (.inl (b0,b1,b2,b3,b0_1,b1_1,b2_1,b3_1,t64.1.1,t64.1.2.1,t64.1.2.2,b4,zs81))))
 (some (.inr (.inl (b0,b1,b2,b3,b0_1,b1_1,b2_1,b3_1,b0_2,b1_2,b2_2,b4,b4_1))))
def iu (p0:List Int):Option (v9×Bool) :=
 (de p0 0).bind λt16 =>
 (cond (!t16.2.2.2) (some true) (some (t16.2.2.1 != (p0.length:Int)))).bind λt28 =>
 cond t28
 (some ((0,0,0,0,[]),false))
 ((dg (t16.2.1,0,false) 2).bind λt36 =>
 (dg t36.1 2).bind λt39 =>
 (dg t39.1 2).bind λt42 =>
 (bL t42.1 48).bind λt45 =>
 (jn t45.1).bind λt49 =>
 cond (!t49.2)
 (some ((0,0,0,0,[]),false))
 ((loop (λz=>aF z.1 z.2.1 z.2.2.1 z.2.2.2.1 z.2.2.2.2.1 z.2.2.2.2.2.1 z.2.2.2.2.2.2.1 z.2.2.2.2.2.2.2.1 z.2.2.2.2.2.2.2.2.1 z.2.2.2.2.2.2.2.2.2.1 z.2.2.2.2.2.2.2.2.2.2.1 z.2.2.2.2.2.2.2.2.2.2.2.1 z.2.2.2.2.2.2.2.2.2.2.2.2) (0,0,0,0,t16.1,t36.2,t39.2,t42.2,t45.2,0,false,[],[])).bind (Sum.elim (λd =>
 (fU (d.2.2.2.2.1,d.2.2.2.2.2.1,d.2.2.2.2.2.2.1,d.2.2.2.2.2.2.2.1,d.2.2.2.2.2.2.2.2.2.2.2.2)).bind λt84 =>
 (cond ((t84.length:Int)==0) (some true) (some (!((vW t84)==(vW p0))))).bind λt94 =>
 cond t94
 (some ((0,0,0,0,[]),false))
 (some ((d.2.2.2.2.1,d.2.2.2.2.2.1,d.2.2.2.2.2.2.1,d.2.2.2.2.2.2.2.1,d.2.2.2.2.2.2.2.2.2.2.2.2),true))) (λr=>some (r.2,r.1)))))
def np:FL:=(319,⟨[.val false wv false],[.val true wQ (some true),.val false vr (some true)],λa=>iu a⟩)::nn
theorem sR:Gd np:=uK sQ 319 Tryz.f319 [(0,⟨⟨us 71 4 [],[(1024,.box [dI,dI,dI,dI,.own 1000000000]),(1051648,.box [dI,dI,dI,dI,.own 1000000001]),(2363392,.box [.dat (.sl (.one (.int .u8))),dI,dB]),(1000000000,.root uU true),(1000000001,.root uU true)]⟩,
 ⟨[],[(1024,.box [dI,dI,dI,dI,.own 1000000300]),(1051648,.box [dI,dI,dI,dI,.own 1000000301]),(2363392,.box [.dat (.sl (.one (.int .u8))),dI,dB]),(1000000300,.root uU true),(1000000301,.root uU true)]⟩,some ⟨[(3,false,[dB])],[(1024,.box [dI,dI,dI,dI,.own 1000000600]),(1000000600,.root uU true)]⟩⟩)] Tryz.func319
def eB (p0:List UInt8) (i1:List Int):Option (v9×Int) :=
 (de i1 0).bind λt17 =>
 (cond (!t17.2.2.2) (some true) (some (t17.1 != 48))).bind λt27 =>
 (cond t27 (some true) (some (t17.2.2.1 != (i1.length:Int)))).bind λt33 =>
 cond t33
 (some ((0,0,0,0,[]),1))
 ((dg (t17.2.1,0,false) 2).bind λt39 =>
 (bL t39.1 4).bind λt41 =>
 cond t41.1.2.2
 (some ((0,0,0,0,[]),1))
 (cond (t39.2 != 1)
 (some ((0,0,0,0,[]),2))
 (cond (!((vW t41.2)==p0))
 (some ((0,0,0,0,[]),3))
 ((cut t17.2.1 t41.1.2.1 (t17.2.1.length:Int)).bind λt64 =>
 (iu t64).bind λt65 =>
 cond (!t65.2) (some ((0,0,0,0,[]),1)) (some (t65.1,0))))))
def nq:FL:=(236,⟨[.val false Iw false,.val false wv false],[.val true wQ (some true),.val false uI (some true)],λa=>eB a.1 a.2⟩)::np
theorem sS:Gd nq:=uK sR 236 Tryz.f236 [] Tryz.func236
def cm (a0:uN) (k1:Int):Option uN :=
 (wO a0.2.2.2.2.2.2.2.2.2.2.2.2.1.length 0 k1).bind λp =>
 (wO a0.2.2.2.2.2.2.2.2.2.2.2.2.1.length (uB (k1+1)) (a0.2.2.2.2.2.2.2.2.2.2.2.2.1.length:Int)).bind λp_1 =>
 (EZ a0.2.2.2.2.2.2.2.2.2.2.2.2.1 p.1 p.2 p_1.1 p_1.2).bind λzs18 =>
 some (a0.1,a0.2.1,a0.2.2.1,a0.2.2.2.1,a0.2.2.2.2.1,a0.2.2.2.2.2.1,a0.2.2.2.2.2.2.1,a0.2.2.2.2.2.2.2.1,a0.2.2.2.2.2.2.2.2.1,a0.2.2.2.2.2.2.2.2.2.1,a0.2.2.2.2.2.2.2.2.2.2.1,a0.2.2.2.2.2.2.2.2.2.2.2.1,zs18,a0.2.2.2.2.2.2.2.2.2.2.2.2.2.1,a0.2.2.2.2.2.2.2.2.2.2.2.2.2.2)
def nr:FL:=(313,⟨[.ptr vO (some true),.val false uI false],[],λa=>cm a.1 a.2⟩)::nq
theorem sT:Gd nr:=uK sS 313 Tryz.f313 [] Tryz.func313
def fV (a0:uN) (k1:Int):Option uN :=
 (ix a0.2.2.2.2.2.2.2.2.2.2.2.2.1.length k1).bind λj10 =>
 (ak (a0.1,a0.2.1,a0.2.2.1,a0.2.2.2.1,a0.2.2.2.2.1,a0.2.2.2.2.2.1,a0.2.2.2.2.2.2.1,a0.2.2.2.2.2.2.2.1,a0.2.2.2.2.2.2.2.2.1,a0.2.2.2.2.2.2.2.2.2.1,a0.2.2.2.2.2.2.2.2.2.2.1)).bind λt18 =>
 (a0.2.2.2.2.2.2.2.2.2.2.2.2.1[j10]?).bind λx =>
 ((a0.2.2.2.2.2.2.2.2.2.2.2.2.1.set j10 (x.1,x.2.1,1,x.2.2.2.1,x.2.2.2.2.1,x.2.2.2.2.2.1,x.2.2.2.2.2.2.1,x.2.2.2.2.2.2.2.1,x.2.2.2.2.2.2.2.2.1,x.2.2.2.2.2.2.2.2.2.1,x.2.2.2.2.2.2.2.2.2.2.1,x.2.2.2.2.2.2.2.2.2.2.2.1,x.2.2.2.2.2.2.2.2.2.2.2.2.1,x.2.2.2.2.2.2.2.2.2.2.2.2.2.1,x.2.2.2.2.2.2.2.2.2.2.2.2.2.2.1,x.2.2.2.2.2.2.2.2.2.2.2.2.2.2.2.1,x.2.2.2.2.2.2.2.2.2.2.2.2.2.2.2.2.1,x.2.2.2.2.2.2.2.2.2.2.2.2.2.2.2.2.2.1,x.2.2.2.2.2.2.2.2.2.2.2.2.2.2.2.2.2.2.1,x.2.2.2.2.2.2.2.2.2.2.2.2.2.2.2.2.2.2.2.1,x.2.2.2.2.2.2.2.2.2.2.2.2.2.2.2.2.2.2.2.2))[j10]?).bind λx_1 =>
 (((a0.2.2.2.2.2.2.2.2.2.2.2.2.1.set j10 (x.1,x.2.1,1,x.2.2.2.1,x.2.2.2.2.1,x.2.2.2.2.2.1,x.2.2.2.2.2.2.1,x.2.2.2.2.2.2.2.1,x.2.2.2.2.2.2.2.2.1,x.2.2.2.2.2.2.2.2.2.1,x.2.2.2.2.2.2.2.2.2.2.1,x.2.2.2.2.2.2.2.2.2.2.2.1,x.2.2.2.2.2.2.2.2.2.2.2.2.1,x.2.2.2.2.2.2.2.2.2.2.2.2.2.1,x.2.2.2.2.2.2.2.2.2.2.2.2.2.2.1,x.2.2.2.2.2.2.2.2.2.2.2.2.2.2.2.1,x.2.2.2.2.2.2.2.2.2.2.2.2.2.2.2.2.1,x.2.2.2.2.2.2.2.2.2.2.2.2.2.2.2.2.2.1,x.2.2.2.2.2.2.2.2.2.2.2.2.2.2.2.2.2.2.1,x.2.2.2.2.2.2.2.2.2.2.2.2.2.2.2.2.2.2.2.1,x.2.2.2.2.2.2.2.2.2.2.2.2.2.2.2.2.2.2.2.2)).set j10 (x_1.1,x_1.2.1,x_1.2.2.1,x_1.2.2.2.1,x_1.2.2.2.2.1,x_1.2.2.2.2.2.1,x_1.2.2.2.2.2.2.1,x_1.2.2.2.2.2.2.2.1,x_1.2.2.2.2.2.2.2.2.1,x_1.2.2.2.2.2.2.2.2.2.1,x_1.2.2.2.2.2.2.2.2.2.2.1,x_1.2.2.2.2.2.2.2.2.2.2.2.1,x_1.2.2.2.2.2.2.2.2.2.2.2.2.1,x_1.2.2.2.2.2.2.2.2.2.2.2.2.2.1,x_1.2.2.2.2.2.2.2.2.2.2.2.2.2.2.1,x_1.2.2.2.2.2.2.2.2.2.2.2.2.2.2.2.1,x_1.2.2.2.2.2.2.2.2.2.2.2.2.2.2.2.2.1,x_1.2.2.2.2.2.2.2.2.2.2.2.2.2.2.2.2.2.1,x_1.2.2.2.2.2.2.2.2.2.2.2.2.2.2.2.2.2.2.1,0,x_1.2.2.2.2.2.2.2.2.2.2.2.2.2.2.2.2.2.2.2.2))[j10]?).bind λx_2 =>
 some (a0.1,a0.2.1,a0.2.2.1,a0.2.2.2.1,a0.2.2.2.2.1,a0.2.2.2.2.2.1,a0.2.2.2.2.2.2.1,a0.2.2.2.2.2.2.2.1,a0.2.2.2.2.2.2.2.2.1,a0.2.2.2.2.2.2.2.2.2.1,a0.2.2.2.2.2.2.2.2.2.2.1,a0.2.2.2.2.2.2.2.2.2.2.2.1,((a0.2.2.2.2.2.2.2.2.2.2.2.2.1.set j10 (x.1,x.2.1,1,x.2.2.2.1,x.2.2.2.2.1,x.2.2.2.2.2.1,x.2.2.2.2.2.2.1,x.2.2.2.2.2.2.2.1,x.2.2.2.2.2.2.2.2.1,x.2.2.2.2.2.2.2.2.2.1,x.2.2.2.2.2.2.2.2.2.2.1,x.2.2.2.2.2.2.2.2.2.2.2.1,x.2.2.2.2.2.2.2.2.2.2.2.2.1,x.2.2.2.2.2.2.2.2.2.2.2.2.2.1,x.2.2.2.2.2.2.2.2.2.2.2.2.2.2.1,x.2.2.2.2.2.2.2.2.2.2.2.2.2.2.2.1,x.2.2.2.2.2.2.2.2.2.2.2.2.2.2.2.2.1,x.2.2.2.2.2.2.2.2.2.2.2.2.2.2.2.2.2.1,x.2.2.2.2.2.2.2.2.2.2.2.2.2.2.2.2.2.2.1,x.2.2.2.2.2.2.2.2.2.2.2.2.2.2.2.2.2.2.2.1,x.2.2.2.2.2.2.2.2.2.2.2.2.2.2.2.2.2.2.2.2)).set j10 (x_1.1,x_1.2.1,x_1.2.2.1,x_1.2.2.2.1,x_1.2.2.2.2.1,x_1.2.2.2.2.2.1,x_1.2.2.2.2.2.2.1,x_1.2.2.2.2.2.2.2.1,x_1.2.2.2.2.2.2.2.2.1,x_1.2.2.2.2.2.2.2.2.2.1,x_1.2.2.2.2.2.2.2.2.2.2.1,x_1.2.2.2.2.2.2.2.2.2.2.2.1,x_1.2.2.2.2.2.2.2.2.2.2.2.2.1,x_1.2.2.2.2.2.2.2.2.2.2.2.2.2.1,x_1.2.2.2.2.2.2.2.2.2.2.2.2.2.2.1,x_1.2.2.2.2.2.2.2.2.2.2.2.2.2.2.2.1,x_1.2.2.2.2.2.2.2.2.2.2.2.2.2.2.2.2.1,x_1.2.2.2.2.2.2.2.2.2.2.2.2.2.2.2.2.2.1,x_1.2.2.2.2.2.2.2.2.2.2.2.2.2.2.2.2.2.2.1,0,x_1.2.2.2.2.2.2.2.2.2.2.2.2.2.2.2.2.2.2.2.2)).set j10 (x_2.1,x_2.2.1,x_2.2.2.1,x_2.2.2.2.1,x_2.2.2.2.2.1,x_2.2.2.2.2.2.1,x_2.2.2.2.2.2.2.1,x_2.2.2.2.2.2.2.2.1,t18.1,t18.2.1,t18.2.2.1,t18.2.2.2.1,t18.2.2.2.2.1,t18.2.2.2.2.2.1,t18.2.2.2.2.2.2.1,t18.2.2.2.2.2.2.2.1,t18.2.2.2.2.2.2.2.2.1,t18.2.2.2.2.2.2.2.2.2.1,t18.2.2.2.2.2.2.2.2.2.2,x_2.2.2.2.2.2.2.2.2.2.2.2.2.2.2.2.2.2.2.2.1,x_2.2.2.2.2.2.2.2.2.2.2.2.2.2.2.2.2.2.2.2.2),a0.2.2.2.2.2.2.2.2.2.2.2.2.2.1,a0.2.2.2.2.2.2.2.2.2.2.2.2.2.2)
def nu:FL:=(314,⟨[.ptr vO (some true),.val false uI false],[],λa=>fV a.1 a.2⟩)::nr
theorem sU:Gd nu:=uK sT 314 Tryz.f314 [] Tryz.func314
def fW (p0:uN) (i1:Int):Option uN :=
 (ix p0.2.2.2.2.2.2.2.2.2.2.2.2.1.length i1).bind λj16 =>
 (p0.2.2.2.2.2.2.2.2.2.2.2.2.1[j16]?).bind λx18 =>
 (eB p0.2.2.2.2.2.2.2.2.2.2.2.1 x18.2.1).bind λt19 =>
 cond (t19.2==3)
 ((aD p0.2.2.2.2.2.2.2.2.1).bind λt42 =>
 (cm (p0.1,p0.2.1,p0.2.2.1,p0.2.2.2.1,p0.2.2.2.2.1,p0.2.2.2.2.2.1,p0.2.2.2.2.2.2.1,p0.2.2.2.2.2.2.2.1,t42,p0.2.2.2.2.2.2.2.2.2.1,p0.2.2.2.2.2.2.2.2.2.2.1,p0.2.2.2.2.2.2.2.2.2.2.2.1,p0.2.2.2.2.2.2.2.2.2.2.2.2.1,p0.2.2.2.2.2.2.2.2.2.2.2.2.2.1,p0.2.2.2.2.2.2.2.2.2.2.2.2.2.2) i1).bind λt48 =>
 some t48)
 ((cond (t19.2 != 0) (some true) (some (t19.1.1==162))).bind λt56 =>
 cond t56
 ((aD p0.2.2.2.2.2.2.2.1).bind λt63 =>
 (cm (p0.1,p0.2.1,p0.2.2.1,p0.2.2.2.1,p0.2.2.2.2.1,p0.2.2.2.2.2.1,p0.2.2.2.2.2.2.1,t63,p0.2.2.2.2.2.2.2.2.1,p0.2.2.2.2.2.2.2.2.2.1,p0.2.2.2.2.2.2.2.2.2.2.1,p0.2.2.2.2.2.2.2.2.2.2.2.1,p0.2.2.2.2.2.2.2.2.2.2.2.2.1,p0.2.2.2.2.2.2.2.2.2.2.2.2.2.1,p0.2.2.2.2.2.2.2.2.2.2.2.2.2.2) i1).bind λt69 =>
 some t69)
 ((ix p0.2.2.2.2.2.2.2.2.2.2.2.2.1.length i1).bind λj28 =>
 (p0.2.2.2.2.2.2.2.2.2.2.2.2.1[j28]?).bind λx =>
 (fV (p0.1,p0.2.1,p0.2.2.1,p0.2.2.2.1,p0.2.2.2.2.1,p0.2.2.2.2.2.1,p0.2.2.2.2.2.2.1,p0.2.2.2.2.2.2.2.1,p0.2.2.2.2.2.2.2.2.1,p0.2.2.2.2.2.2.2.2.2.1,p0.2.2.2.2.2.2.2.2.2.2.1,p0.2.2.2.2.2.2.2.2.2.2.2.1,p0.2.2.2.2.2.2.2.2.2.2.2.2.1.set j28 (x.1,x.2.1,x.2.2.1,t19.1.1,t19.1.2.1,t19.1.2.2.1,t19.1.2.2.2.1,t19.1.2.2.2.2,x.2.2.2.2.2.2.2.2.1,x.2.2.2.2.2.2.2.2.2.1,x.2.2.2.2.2.2.2.2.2.2.1,x.2.2.2.2.2.2.2.2.2.2.2.1,x.2.2.2.2.2.2.2.2.2.2.2.2.1,x.2.2.2.2.2.2.2.2.2.2.2.2.2.1,x.2.2.2.2.2.2.2.2.2.2.2.2.2.2.1,x.2.2.2.2.2.2.2.2.2.2.2.2.2.2.2.1,x.2.2.2.2.2.2.2.2.2.2.2.2.2.2.2.2.1,x.2.2.2.2.2.2.2.2.2.2.2.2.2.2.2.2.2.1,x.2.2.2.2.2.2.2.2.2.2.2.2.2.2.2.2.2.2.1,x.2.2.2.2.2.2.2.2.2.2.2.2.2.2.2.2.2.2.2.1,x.2.2.2.2.2.2.2.2.2.2.2.2.2.2.2.2.2.2.2.2),p0.2.2.2.2.2.2.2.2.2.2.2.2.2.1,p0.2.2.2.2.2.2.2.2.2.2.2.2.2.2) i1).bind λt32 =>
 some t32))
def nv:FL:=(234,⟨[.ptr vO (some true),.val false uI false],[],λa=>fW a.1 a.2⟩)::nu
theorem sV:Gd nv:=uK sU 234 Tryz.f234 [] Tryz.func234
def aX (p0:v9):Option Bool :=
 (fU p0).bind λt4 =>
 (ac (t4.length:Int) 1 120).bind λt6 =>
 some t6
def nx:FL:=(18,⟨[.val true wQ false],[.val false vr (some true)],λa=>aX a⟩)::nv
theorem sW:Gd nx:=uK sV 18 Tryz.f18 [] Tryz.func18
def aL (v0:yj) (name1:List Int):Option uC :=
 (uV ([1,3,1]:List Int) name1).bind λzs7 =>
 some (zs7,v0.1,v0.2.1,v0.2.2.1,v0.2.2.2)
def ny:FL:=(187,⟨[.val true zz false,.val false xk false],[.val true uU none],λa=>aL a.1 a.2⟩)::nx
theorem sX:Gd ny:=uK sW 187 Tryz.f187 [] Tryz.func187
def bg (n0:Int):Option yj :=
 some (2,n0,[],[])
def nz:FL:=(188,⟨[.val false uI false],[.val true zz (some true)],λa=>bg a⟩)::ny
theorem sY:Gd nz:=uK sX 188 Tryz.f188 [] Tryz.func188
def fX (is0:Bool):Option Int :=
 cond is0 (some 1) (some 0)
def nA:FL:=(294,⟨[.val false vr false],[.val false uI (some true)],λa=>fX a⟩)::nz
theorem sZ:Gd nA:=uK sY 294 Tryz.f294 [] Tryz.func294
def eC (a0:Ah) (b1:Ah):Option Bool :=
 cond (a0.1 != b1.1)
 (some (decide (a0.1<b1.1)))
 (cond (a0.2.1 != b1.2.1)
 (some (decide (a0.2.1<b1.2.1)))
 (cond (a0.2.2.2.1 != b1.2.2.2.1)
 (let t4:=decide (a0.2.2.2.1<b1.2.2.2.1)
 some t4)
 (let t4_1:=decide (a0.2.2.2.2<b1.2.2.2.2)
 some t4_1)))
def nB:FL:=(345,⟨[.val true zy false,.val true zy false],[.val false vr (some true)],λa=>eC a.1 a.2⟩)::nA
theorem ta:Gd nB:=uK sZ 345 Tryz.f345 [] Tryz.func345
def fY (v0:Ah) (cost1:Int):Option (Ah×Bool) :=
 (ci v0).bind λt8 =>
 (cond (!t8)
 (some true)
 ((ac cost1 1 1000).bind λt12 =>
 some (!t12))).bind λt14 =>
 cond t14
 (some (v0,false))
 ((ci (v0.1,uB (v0.2.1+cost1),uB (v0.2.2.1+1),v0.2.2.2.1,v0.2.2.2.2)).bind λt27 =>
 cond (!t27)
 (some (v0,false))
 (some ((v0.1,uB (v0.2.1+cost1),uB (v0.2.2.1+1),v0.2.2.2.1,v0.2.2.2.2),true)))
def nC:FL:=(364,⟨[.val true zy false,.val false uI false],[.val true zy (some true),.val false vr (some true)],λa=>fY a.1 a.2⟩)::nB
theorem tb:Gd nC:=uK ta 364 Tryz.f364 [] Tryz.func364
def eD (p0:Int) (i1:List Pt) (t7:Int) (t18:Int) (b0:Int) (b1:Int) (b2:Int) (b3:Int) (b4:Int) (b0_1:Int) (b1_1:Int) (b2_1:Int) (b3_1:Int) (b4_1:Int):Option ((Int×Int×Int×Int×Int×Int×Int×Int×Int×Int×Int×Int)⊕(Int×Int×Int×Int×Int×Int×Int×Int×Int×Int×Int)) :=
 cond (decide (t18<(i1.length:Int)))
 ((at? i1 t18).bind λx21 =>
 (cond (!x21.1) (some true) (some (!x21.2.2.1))).bind λt30 =>
 cond t30
 (some (.inl (t7,uB (t18+1),b0,b1,b2,b3,b4,b0_1,b1_1,b2_1,b3_1,b4_1)))
 ((fY x21.2.2.2 x21.2.1).bind λt36 =>
 (cond t36.2 (some (decide (t36.1.1<p0))) (some false)).bind λt45 =>
 (cond t45
 ((cond (decide (t7<0))
 (some true)
 ((eC t36.1 (b0_1,b1_1,b2_1,b3_1,b4_1)).bind λt52 =>
 some t52)).bind λt53 =>
 some t53)
 (some false)).bind λt54 =>
 cond t54
 (some (.inl (t18,uB (t18+1),t36.1.1,t36.1.2.1,t36.1.2.2.1,p0,0,t36.1.1,t36.1.2.1,t36.1.2.2.1,t36.1.2.2.2.1,t36.1.2.2.2.2)))
 (some (.inl (t7,uB (t18+1),b0,b1,b2,b3,b4,b0_1,b1_1,b2_1,b3_1,b4_1)))))
 (some (.inr (t7,b0,b1,b2,b3,b4,b0_1,b1_1,b2_1,b3_1,b4_1)))
def bM (p0:Int) (i1:List Pt):Option (Ah×Int) :=
 (loop (λz=>eD p0 i1 z.1 z.2.1 z.2.2.1 z.2.2.2.1 z.2.2.2.2.1 z.2.2.2.2.2.1 z.2.2.2.2.2.2.1 z.2.2.2.2.2.2.2.1 z.2.2.2.2.2.2.2.2.1 z.2.2.2.2.2.2.2.2.2.1 z.2.2.2.2.2.2.2.2.2.2.1 z.2.2.2.2.2.2.2.2.2.2.2) ((-1),0,p0,0,0,p0,0,0,0,0,0,0)).bind λd =>
 some ((d.2.1,d.2.2.1,d.2.2.2.1,d.2.2.2.2.1,d.2.2.2.2.2.1),d.1)
def nD:FL:=(344,⟨[.val false uI false,.val false (.one (.sl wX)) false],[.val true zy (some true),.val false uI (some true)],λa=>bM a.1 a.2⟩)::nC
theorem td:Gd nD:=uK tb 344 Tryz.f344 [(0,⟨⟨(7,false,[dI])::(18,false,[dI])::us 27 3 (us 41 4 (us 47 7 [])),[(266240,.box [dI,dI,dI,dI,dI]),(525312,.box [dI,dI,dI,dI,dI])]⟩,
 ⟨[(7,false,[dI])],[(266240,.box [dI,dI,dI,dI,dI]),(525312,.box [dI,dI,dI,dI,dI])]⟩,none⟩)] Tryz.func344
def fZ (id0:Int) (l1:List Pt) (port2:Int):Option Ah :=
 (bM id0 l1).bind λt12 =>
 some (t12.1.1,t12.1.2.1,t12.1.2.2.1,t12.1.2.2.2.1,port2)
def nE:FL:=(346,⟨[.val false uI false,.val false (.one (.sl wX)) false,.val false uI false],[.val true zy (some true)],λa=>fZ a.1 a.2.1 a.2.2⟩)::nD
theorem te:Gd nE:=uK td 346 Tryz.f346 [] Tryz.func346
def aY (id0:Int) (l1:List Pt) (port2:Int):Option Int :=
 (ac port2 0 (uB ((l1.length:Int)-1))).bind λt13 =>
 (cond (!t13)
 (some true)
 ((at? l1 port2).bind λx18 =>
 some (!x18.1))).bind λt22 =>
 cond t22
 (some 4)
 ((bM id0 l1).bind λt26 =>
 cond (t26.2==port2)
 (some 1)
 ((at? l1 port2).bind λx36 =>
 (cond (!x36.2.2.1)
 (some true)
 ((fZ id0 l1 port2).bind λt44 =>
 (at? l1 port2).bind λx47 =>
 (eC t44 x47.2.2.2).bind λt50 =>
 some t50)).bind λt51 =>
 cond t51 (some 2) (some 3)))
def nF:FL:=(295,⟨[.val false uI false,.val false (.one (.sl wX)) false,.val false uI false],[.val false uI (some true)],λa=>aY a.1 a.2.1 a.2.2⟩)::nE
theorem tg:Gd nF:=uK te 295 Tryz.f295 [] Tryz.func295
def cn (b0:uz) (c1:Int) (p2:Int):Option Int :=
 cond (c1==1)
 ((at? b0.2.2.1 p2).bind λx13 =>
 (fX x13.1).bind λt16 =>
 some t16)
 (cond (c1==2)
 ((at? b0.2.2.1 p2).bind λx22 =>
 some x22.2.1)
 (cond (c1==3)
 ((aY b0.1 b0.2.2.1 p2).bind λt32 =>
 some t32)
 ((at? b0.2.2.2.2.2.1 p2).bind λx37 =>
 some x37)))
def nG:FL:=(189,⟨[.val true uR false,.val false uI false,.val false uI false],[.val false uI (some true)],λa=>cn a.1 a.2.1 a.2.2⟩)::nF
theorem th:Gd nG:=uK tg 189 Tryz.f189 [] Tryz.func189
def nH (p0:uz) (t32:Int) (t3:List uC):Option ((Int×List uC)⊕(List uC)) :=
 cond (decide (t32<([p0.2.2.2.2.2.2.1,p0.2.2.2.2.2.2.2.1,p0.2.2.2.2.2.2.2.2.1,p0.2.2.2.2.2.2.2.2.2.1].length:Int)))
 ((ix [p0.2.2.2.2.2.2.1,p0.2.2.2.2.2.2.2.1,p0.2.2.2.2.2.2.2.2.1,p0.2.2.2.2.2.2.2.2.2.1].length t32).bind λj35 =>
 ([p0.2.2.2.2.2.2.1,p0.2.2.2.2.2.2.2.1,p0.2.2.2.2.2.2.2.2.1,p0.2.2.2.2.2.2.2.2.2.1][j35]?).bind λx36 =>
 (bg x36).bind λt39 =>
 (aL t39 [1,uB (t32+2)]).bind λt43 =>
 (uV t3 [t43]).bind λzs45 =>
 some (.inl (uB (t32+1),zs45)))
 (some (.inr t3))
def bN (p0:uz) (t6:Int) (t54:Int) (t3_3:List uC):Option ((Int×List uC)⊕(List uC)) :=
 cond (decide (t54<(p0.2.2.1.length:Int)))
 ((cn p0 t6 t54).bind λt61 =>
 (bg t61).bind λt62 =>
 (aL t62 [2,t6,uB (t54+1)]).bind λt67 =>
 (uV t3_3 [t67]).bind λzs69 =>
 some (.inl (uB (t54+1),zs69)))
 (some (.inr t3_3))
def co (p0:uz) (t6:Int) (t3_2:List uC):Option ((Int×List uC)⊕(List uC)) :=
 cond (decide (t6<=4))
 ((loop (λz=>bN p0 t6 z.1 z.2) (0,t3_2)).bind λd_1 =>
 some (.inl (uB (t6+1),d_1)))
 (some (.inr t3_2))
def bO (p0:uz) (t8:Int) (t79:Int) (t3_7:List uC):Option ((Int×List uC)⊕(List uC)) :=
 cond (decide (t79<(p0.2.2.2.2.1.length:Int)))
 ((at? p0.2.2.2.2.1 t79).bind λx81 =>
 (ix [1,x81.2.1,x81.2.2].length (uB (t8-1))).bind λj91 =>
 ([1,x81.2.1,x81.2.2][j91]?).bind λx92 =>
 (bg x92).bind λt93 =>
 (aL t93 [3,t8,x81.1]).bind λt98 =>
 (uV t3_7 [t98]).bind λzs100 =>
 some (.inl (uB (t79+1),zs100)))
 (some (.inr t3_7))
def cp (p0:uz) (t8:Int) (t3_6:List uC):Option ((Int×List uC)⊕(List uC)) :=
 cond (decide (t8<=3))
 ((loop (λz=>bO p0 t8 z.1 z.2) (0,t3_6)).bind λd_3 =>
 some (.inl (uB (t8+1),d_3)))
 (some (.inr t3_6))
def bz (p0:uz) (t105:Int) (t3_10:List uC):Option ((Int×List uC)⊕(List uC)) :=
 cond (decide (t105<(p0.2.2.2.1.length:Int)))
 ((at? p0.2.2.2.1 t105).bind λx107 =>
 (bg (uB (x107.2.2.1+1))).bind λt113 =>
 (aL t113 [4,1,x107.1,x107.2.1]).bind λt119 =>
 (uV t3_10 [t119]).bind λzs121 =>
 some (.inl (uB (t105+1),zs121)))
 (some (.inr t3_10))
def bP (p0:uz):Option (List uC) :=
 (aS p0).bind λt14 =>
 cond (!t14)
 (some [])
 ((aL (4,0,p0.2.1,[]) ([1,1]:List Int)).bind λt20 =>
 (loop (λz=>nH p0 z.1 z.2) (0,[t20])).bind λd =>
 (loop (λz=>co p0 z.1 z.2) (1,d)).bind λd_2 =>
 (loop (λz=>cp p0 z.1 z.2) (1,d_2)).bind λd_4 =>
 (loop (λz=>bz p0 z.1 z.2) (0,d_4)).bind λd_5 =>
 some d_5)
def nI:FL:=(95,⟨[.val true uR false],[.val false (.one (.sl uU)) none],λa=>bP a⟩)::nG
theorem tj:Gd nI:=uK th 95 Tryz.f95 [(0,⟨⟨[(3,false,[.own 1000000000]),(32,false,[dI])],[(1000000000,.root uU false)]⟩,
 ⟨[(3,false,[.own 1000000300])],[(1000000300,.root uU false)]⟩,none⟩),
 (2,⟨⟨[(3,false,[.own 1000002000]),(6,false,[dI])],[(1000002000,.root uU false)]⟩,
 ⟨[(3,false,[.own 1000002300])],[(1000002300,.root uU false)]⟩,none⟩),
 (4,⟨⟨[(3,false,[.own 1000004000]),(54,false,[dI])],[(1000004000,.root uU false)]⟩,
 ⟨[(3,false,[.own 1000004300])],[(1000004300,.root uU false)]⟩,none⟩),
 (6,⟨⟨[(3,false,[.own 1000006000]),(8,false,[dI])],[(1000006000,.root uU false)]⟩,
 ⟨[(3,false,[.own 1000006300])],[(1000006300,.root uU false)]⟩,none⟩),
 (8,⟨⟨[(3,false,[.own 1000008000]),(79,false,[dI])],[(1000008000,.root uU false)]⟩,
 ⟨[(3,false,[.own 1000008300])],[(1000008300,.root uU false)]⟩,none⟩),
 (10,⟨⟨[(3,false,[.own 1000010000]),(105,false,[dI])],[(1000010000,.root uU false)]⟩,
 ⟨[(3,false,[.own 1000010300])],[(1000010300,.root uU false)]⟩,none⟩)] Tryz.func95
def bA (o1:List Int) (t8:List uC) (t10:Int) (b0_1:Int) (b1:Int) (b2:List UInt8) (b3:List Int):Option ((Int×Int×Int×List UInt8×List Int)⊕((Int×Int×List UInt8×List Int)⊕(Int×Int×List UInt8×List Int))) :=
 cond (decide (t10<(t8.length:Int)))
 ((at? t8 t10).bind λx12 =>
 (ay x12.1 o1).bind λt17 =>
 cond t17
 (some (.inr (.inr x12.2)))
 (some (.inl (uB (t10+1),b0_1,b1,b2,b3))))
 (some (.inr (.inl (b0_1,b1,b2,b3))))
def cq (b0:uz) (o1:List Int):Option yj :=
 (bP b0).bind λt8 =>
 (loop (λz=>bA o1 t8 z.1 z.2.1 z.2.2.1 z.2.2.2.1 z.2.2.2.2) (0,0,0,[],[])).bind (Sum.elim (λd =>
 some (128,0,[],[])) (λr=>some r))
def nJ:FL:=(21,⟨[.val true uR false,.val false xk false],[.val true zz none],λa=>cq a.1 a.2⟩)::nI
theorem tk:Gd nJ:=uK tj 21 Tryz.f21 [(0,⟨⟨[(10,false,[dI])],[(2048,.box [dI,dI,dS,.own 1000000000]),(1000000000,.root uI true)]⟩,
 ⟨[],[(2048,.box [dI,dI,dS,.own 1000000300]),(1000000300,.root uI true)]⟩,some ⟨[],[(2048,.box [dI,dI,dS,.dat (.sl uI)])]⟩⟩)] Tryz.func21
def eE (a0:List Int) (b1:List Int) (i5:Int):Option (Int⊕(Unit⊕Bool)) :=
 (cond (decide (i5<(a0.length:Int))) (some (decide (i5<(b1.length:Int)))) (some false)).bind λt15 =>
 cond t15
 ((at? a0 i5).bind λx20 =>
 (at? b1 i5).bind λx24 =>
 cond (x20 != x24)
 ((at? a0 i5).bind λx29 =>
 (at? b1 i5).bind λx33 =>
 some (.inr (.inr (decide (x29<x33)))))
 (some (.inl (uB (i5+1)))))
 (some (.inr (.inl ())))
def ga (a0:List Int) (b1:List Int):Option Bool :=
 (loop (λz=>eE a0 b1 z) 0).bind (Sum.elim (λd =>
 let t4:=decide ((a0.length:Int)<(b1.length:Int))
 some t4) (λr=>some r))
def nK:FL:=(96,⟨[.val false xk false,.val false xk false],[.val false vr (some true)],λa=>ga a.1 a.2⟩)::nJ
theorem tn:Gd nK:=uK tk 96 Tryz.f96 [(0,⟨⟨(5,false,[dI])::us 11 4 [],[]⟩,
 ⟨[],[]⟩,some ⟨[(4,false,[dB])],[]⟩⟩)] Tryz.func96
def cr (o1:List Int) (t8:List uC) (t10:Int) (b1:Int) (b2:Int) (b3:List UInt8) (b0_1:List Int) (b4:List Int):Option ((Int×Int×Int×List UInt8×List Int×List Int)⊕((Int×Int×List UInt8×List Int×List Int)⊕(List Int×Int×Int×List UInt8×List Int))) :=
 cond (decide (t10<(t8.length:Int)))
 ((at? t8 t10).bind λx12 =>
 (ga o1 x12.1).bind λt17 =>
 cond t17
 (some (.inr (.inr x12)))
 (some (.inl (uB (t10+1),b1,b2,b3,b0_1,b4))))
 (some (.inr (.inl (b1,b2,b3,b0_1,b4))))
def bB (b0:uz) (o1:List Int):Option uC :=
 (bP b0).bind λt8 =>
 (loop (λz=>cr o1 t8 z.1 z.2.1 z.2.2.1 z.2.2.2.1 z.2.2.2.2.1 z.2.2.2.2.2) (0,0,0,[],[],[])).bind (Sum.elim (λd =>
 (bf o1).bind λt21 =>
 some (t21,130,0,[],[])) (λr=>some r))
def nL:FL:=(22,⟨[.val true uR false,.val false xk false],[.val true uU none],λa=>bB a.1 a.2⟩)::nK
theorem to:Gd nL:=uK tn 22 Tryz.f22 [(0,⟨⟨[(10,false,[dI])],[(2048,.box [.own 1000000000,dI,dI,dS,.own 1000000001]),(1000000000,.root uI true),(1000000001,.root uI true)]⟩,
 ⟨[],[(2048,.box [.own 1000000300,dI,dI,dS,.own 1000000301]),(1000000300,.root uI true),(1000000301,.root uI true)]⟩,some ⟨[],[(2048,.box [.dat (.sl uI),dI,dI,dS,.dat (.sl uI)])]⟩⟩)] Tryz.func22
def eF (p0:uz) (t24:List uC) (t26:Int) (t5:List uC):Option ((Int×List uC)⊕(List uC)) :=
 cond (decide (t26<(t24.length:Int)))
 ((at? t24 t26).bind λx28 =>
 (bB p0 x28.1).bind λt34 =>
 (uV t5 [t34]).bind λzs36 =>
 some (.inl (uB (t26+1),zs36)))
 (some (.inr t5))
def eG (t41:List uC) (t43:Int) (t9:List (List Int)):Option ((Int×List (List Int))⊕(List (List Int))) :=
 cond (decide (t43<(t41.length:Int)))
 ((at? t41 t43).bind λx45 =>
 (uV t9 [x45.1]).bind λzs51 =>
 some (.inl (uB (t43+1),zs51)))
 (some (.inr t9))
def dl (p0:uz) (l:List (List Int)) (t71:Int) (t5_3:List uC) (l_1:List (List Int)):Option ((Int×List uC×List (List Int))⊕(List uC×List (List Int))) :=
 cond (decide (t71<(l.length:Int)))
 (cond (decide ((t5_3.length:Int)>=10))
 (some (.inr (t5_3,l_1)))
 ((ix l_1.length t71).bind λj80 =>
 (l_1[j80]?).bind λx81 =>
 (bB p0 x81).bind λt82 =>
 (ix l_1.length t71).bind λj87 =>
 (l_1[j87]?).bind λx =>
 (uV t5_3 [t82]).bind λzs91 =>
 some (.inl (uB (t71+1),zs91,l_1.set j87 t82.1))))
 (some (.inr (t5_3,l_1)))
def bQ (p0:uz) (i1:v9) (t12:Int) (t5_2:List uC) (l:List (List Int)):Option ((Int×List uC×List (List Int))⊕(List uC×List (List Int))) :=
 (cond (decide (t12<i1.2.2.2.1)) (some (decide ((l.length:Int)>0))) (some false)).bind λt61 =>
 (cond t61 (some (decide ((t5_2.length:Int)<10))) (some false)).bind λt66 =>
 cond t66
 ((loop (λz=>dl p0 l z.1 z.2.1 z.2.2) (0,t5_2,l)).bind λd_2 =>
 some (.inl (uB (t12+1),d_2.1,d_2.2)))
 (some (.inr (t5_2,l)))
def iv (p0:uz) (i1:v9):Option (List uC) :=
 let t6:=min2 i1.2.2.1 (i1.2.2.2.2.length:Int)
 (cut i1.2.2.2.2 0 t6).bind λt24 =>
 (loop (λz=>eF p0 t24 z.1 z.2) (0,[])).bind λd =>
 (cut i1.2.2.2.2 t6 (i1.2.2.2.2.length:Int)).bind λt41 =>
 (loop (λz=>eG t41 z.1 z.2) (0,[])).bind λd_1 =>
 (loop (λz=>bQ p0 i1 z.1 z.2.1 z.2.2) (0,d,d_1)).bind λd_3 =>
 some d_3.1
def nM:FL:=(79,⟨[.val true uR false,.val true wQ false],[.val false (.one (.sl uU)) none],λa=>iv a.1 a.2⟩)::nL
theorem tq:Gd nM:=uK to 79 Tryz.f79 [(0,⟨⟨[(5,false,[.own 1000000000]),(26,false,[dI])],[(1000000000,.root uU false)]⟩,
 ⟨[(5,false,[.own 1000000300])],[(1000000300,.root uU false)]⟩,none⟩),
 (2,⟨⟨[(9,false,[.own 1000002000]),(43,false,[dI])],[(1000002000,.root xk false)]⟩,
 ⟨[(9,false,[.own 1000002300])],[(1000002300,.root xk false)]⟩,none⟩),
 (4,⟨⟨(5,false,[.own 1000004000])::(12,false,[dI])::us 58 3 (us 63 3 []),[(1000004000,.root uU false),(1000002300,.keep xk false)]⟩,
 ⟨[(5,false,[.own 1000004300])],[(1000004300,.root uU false),(1000002300,.keep xk false)]⟩,none⟩),
 (6,⟨⟨[(5,false,[.own 1000006000]),(71,false,[dI])],[(1000006000,.root uU false),(1000002300,.keep xk false)]⟩,
 ⟨[(5,false,[.own 1000006300])],[(1000006300,.root uU false),(1000002300,.keep xk false)]⟩,none⟩)] Tryz.func79
def aZ (o0:List Int) (low1:Int) (high2:Int) (head3:List Int):Option Bool :=
 cond ((o0.length:Int)==(uB ((head3.length:Int)+4)))
 ((cut o0 0 (uB ((o0.length:Int)-1))).bind λt20 =>
 (uV ([1,3,1]:List Int) head3).bind λzs23 =>
 (ay t20 zs23).bind λt24 =>
 (cond t24
 ((at? o0 (uB ((o0.length:Int)-1))).bind λx31 =>
 (ac x31 low1 high2).bind λt35 =>
 some t35)
 (some false)).bind λt36 =>
 some t36)
 ((some false).bind λt36_1 =>
 some t36_1)
def nN:FL:=(335,⟨[.val false xk false,.val false uI false,.val false uI false,.val false xk false],[.val false vr (some true)],λa=>aZ a.1 a.2.1 a.2.2.1 a.2.2.2⟩)::nM
theorem tu:Gd nN:=uK tq 335 Tryz.f335 [] Tryz.func335
def iw (b0:uz) (o1:List Int):Option Bool :=
 (aZ o1 1 1 ([1]:List Int)).bind λt11 =>
 (cond t11
 (some true)
 ((aZ o1 1 (b0.2.2.1.length:Int) ([2,2]:List Int)).bind λt16 =>
 some t16)).bind λt17 =>
 (cond t17
 (some true)
 ((aZ o1 1 (b0.2.2.1.length:Int) ([2,4]:List Int)).bind λt22 =>
 some t22)).bind λt23 =>
 (cond t23
 (some true)
 ((aZ o1 1 99 ([3,1]:List Int)).bind λt27 =>
 some t27)).bind λt28 =>
 cond t28
 (some true)
 ((aZ o1 1 99 ([3,2]:List Int)).bind λt31 =>
 (cond t31
 (some true)
 ((aZ o1 1 99 ([3,3]:List Int)).bind λt35 =>
 some t35)).bind λt36 =>
 (cond t36
 ((at? o1 5).bind λx41 =>
 (aj (b0.2.2.2.2.1,b0.2.2.2.2.2.1) x41).bind λt43 =>
 some (decide (t43>=0)))
 (some false)).bind λt45 =>
 some t45)
def nO:FL:=(280,⟨[.val true uR false,.val false xk false],[.val false vr (some true)],λa=>iw a.1 a.2⟩)::nN
theorem tv:Gd nO:=uK tu 280 Tryz.f280 [] Tryz.func280
def iy (v0:vv) (r1:uQ) (k7:Int):Option (Int⊕Int) :=
 (cond (decide (k7<(v0.1.length:Int)))
 ((at? v0.1 k7).bind λx31 =>
 some (decide (x31.1<=r1.1)))
 (some false)).bind λt37 =>
 cond t37 (some (.inl (uB (k7+1)))) (some (.inr k7))
def gb (v0:vv) (r1:uQ):Option vv :=
 (ei v0).bind λt9 =>
 (aj v0 r1.1).bind λt13 =>
 cond (decide (t13>=0))
 ((ix t9.1.length t13).bind λj20 =>
 (t9.1[j20]?).bind λx =>
 some (t9.1.set j20 r1,t9.2))
 ((loop (λz=>iy v0 r1 z) 0).bind λd =>
 (cut v0.1 0 d).bind λt43 =>
 (uV [] t43).bind λzs44 =>
 (uV zs44 [r1]).bind λzs47 =>
 (cut v0.1 d (v0.1.length:Int)).bind λt51 =>
 (uV zs47 t51).bind λzs52 =>
 some (zs52,t9.2))
def nP:FL:=(360,⟨[.val true wL false,.val true vI false],[.val true wL (some true)],λa=>gb a.1 a.2⟩)::nO
theorem tz:Gd nP:=uK tv 360 Tryz.f360 [(0,⟨⟨(7,false,[dI])::us 28 9 [],[]⟩,
 ⟨[(7,false,[dI])],[]⟩,none⟩)] Tryz.func360
def gd (v0:vv) (id1:Int):Option vv :=
 (ei v0).bind λt8 =>
 (aj v0 id1).bind λt11 =>
 cond (decide (t11>=0))
 ((cut v0.1 0 t11).bind λt17 =>
 (uV [] t17).bind λzs18 =>
 (cut v0.1 (uB (t11+1)) (v0.1.length:Int)).bind λt23 =>
 (uV zs18 t23).bind λzs24 =>
 some (zs24,t8.2))
 (some t8)
def nQ:FL:=(361,⟨[.val true wL false,.val false uI false],[.val true wL (some true)],λa=>gd a.1 a.2⟩)::nP
theorem tA:Gd nQ:=uK tz 361 Tryz.f361 [] Tryz.func361
def iz (p0:uz) (i1:Int) (a2:Int) (a3:Int):Option (uz×Int) :=
 (aj (p0.2.2.2.2.1,p0.2.2.2.2.2.1) a2).bind λt15 =>
 cond (i1==1)
 ((cond (a3==4) (some (decide (t15<0))) (some false)).bind λt24 =>
 (cond t24 (some (decide ((p0.2.2.2.2.1.length:Int)<6))) (some false)).bind λt33 =>
 cond t33
 ((gb (p0.2.2.2.2.1,p0.2.2.2.2.2.1) (a2,0,0)).bind λt41 =>
 some ((p0.1,p0.2.1,p0.2.2.1,p0.2.2.2.1,t41.1,t41.2,p0.2.2.2.2.2.2.1,p0.2.2.2.2.2.2.2.1,p0.2.2.2.2.2.2.2.2.1,p0.2.2.2.2.2.2.2.2.2.1,p0.2.2.2.2.2.2.2.2.2.2),0))
 ((cond (a3==6) (some (decide (t15>=0))) (some false)).bind λt50 =>
 cond t50
 ((gd (p0.2.2.2.2.1,p0.2.2.2.2.2.1) a2).bind λt57 =>
 some ((p0.1,p0.2.1,p0.2.2.1,p0.2.2.2.1,t57.1,t57.2,p0.2.2.2.2.2.2.1,p0.2.2.2.2.2.2.2.1,p0.2.2.2.2.2.2.2.2.1,p0.2.2.2.2.2.2.2.2.2.1,p0.2.2.2.2.2.2.2.2.2.2),0))
 (some (p0,2))))
 ((fQ (p0.2.2.1.length:Int)).bind λt66 =>
 (ac a3 0 t66).bind λt67 =>
 cond (!t67)
 (some (p0,2))
 (cond (i1==2)
 ((ix p0.2.2.2.2.1.length t15).bind λj78 =>
 (p0.2.2.2.2.1[j78]?).bind λx =>
 some ((p0.1,p0.2.1,p0.2.2.1,p0.2.2.2.1,p0.2.2.2.2.1.set j78 (x.1,a3,x.2.2),p0.2.2.2.2.2.1,p0.2.2.2.2.2.2.1,p0.2.2.2.2.2.2.2.1,p0.2.2.2.2.2.2.2.2.1,p0.2.2.2.2.2.2.2.2.2.1,p0.2.2.2.2.2.2.2.2.2.2),0))
 ((ix p0.2.2.2.2.1.length t15).bind λj87 =>
 (p0.2.2.2.2.1[j87]?).bind λx_1 =>
 some ((p0.1,p0.2.1,p0.2.2.1,p0.2.2.2.1,p0.2.2.2.2.1.set j87 (x_1.1,x_1.2.1,a3),p0.2.2.2.2.2.1,p0.2.2.2.2.2.2.1,p0.2.2.2.2.2.2.2.1,p0.2.2.2.2.2.2.2.2.1,p0.2.2.2.2.2.2.2.2.2.1,p0.2.2.2.2.2.2.2.2.2.2),0))))
def nR:FL:=(336,⟨[.ptr uR (some true),.val false uI false,.val false uI false,.val false uI false],[.val false uI (some true)],λa=>iz a.1 a.2.1 a.2.2.1 a.2.2.2⟩)::nQ
theorem tB:Gd nR:=uK tA 336 Tryz.f336 [] Tryz.func336
def jo (p0:uz) (i1:List Int) (a2:yj):Option (uz×Int) :=
 (at? i1 3).bind λx9 =>
 (cond (x9==1) (some (a2.1 != 4)) (some false)).bind λt17 =>
 (cond t17
 (some true)
 ((cond (!(x9==1)) (some (a2.1 != 2)) (some false)).bind λt25 =>
 some t25)).bind λt26 =>
 cond t26
 (some (p0,1))
 (cond (x9==1)
 (cond (decide ((a2.2.2.1.length:Int)>10))
 (some (p0,2))
 (some ((p0.1,a2.2.2.1,p0.2.2.1,p0.2.2.2.1,p0.2.2.2.2.1,p0.2.2.2.2.2.1,p0.2.2.2.2.2.2.1,p0.2.2.2.2.2.2.2.1,p0.2.2.2.2.2.2.2.2.1,p0.2.2.2.2.2.2.2.2.2.1,p0.2.2.2.2.2.2.2.2.2.2),0)))
 ((at? i1 3).bind λx52 =>
 cond (x52==3)
 ((at? i1 4).bind λx57 =>
 (at? i1 5).bind λx60 =>
 (iz p0 x57 x60 a2.2.1).bind λt64 =>
 some t64)
 ((at? i1 4).bind λx67 =>
 cond (x67==2)
 ((ac a2.2.1 1 1000).bind λt72 =>
 cond (!t72)
 (some (p0,2))
 ((at? i1 5).bind λx79 =>
 (ix p0.2.2.1.length (uB (x79-1))).bind λj84 =>
 (p0.2.2.1[j84]?).bind λx =>
 some ((p0.1,p0.2.1,p0.2.2.1.set j84 (x.1,a2.2.1,x.2.2.1,x.2.2.2.1,x.2.2.2.2.1,x.2.2.2.2.2.1,x.2.2.2.2.2.2.1,x.2.2.2.2.2.2.2),p0.2.2.2.1,p0.2.2.2.2.1,p0.2.2.2.2.2.1,p0.2.2.2.2.2.2.1,p0.2.2.2.2.2.2.2.1,p0.2.2.2.2.2.2.2.2.1,p0.2.2.2.2.2.2.2.2.2.1,p0.2.2.2.2.2.2.2.2.2.2),0)))
 ((at? i1 5).bind λx33 =>
 (ix p0.2.2.2.2.2.1.length (uB (x33-1))).bind λj38 =>
 (p0.2.2.2.2.2.1[j38]?).bind λx_1 =>
 some ((p0.1,p0.2.1,p0.2.2.1,p0.2.2.2.1,p0.2.2.2.2.1,p0.2.2.2.2.2.1.set j38 a2.2.1,p0.2.2.2.2.2.2.1,p0.2.2.2.2.2.2.2.1,p0.2.2.2.2.2.2.2.2.1,p0.2.2.2.2.2.2.2.2.2.1,p0.2.2.2.2.2.2.2.2.2.2),0)))))
def nS:FL:=(281,⟨[.ptr uR (some true),.val false xk false,.val true zz false],[.val false uI (some true)],λa=>jo a.1 a.2.1 a.2.2⟩)::nR
theorem tC:Gd nS:=uK tB 281 Tryz.f281 [] Tryz.func281
def dq (l0:List uF) (tag1:Int) (mac2:Int) (t11:Int):Option (Int⊕(Unit⊕Int)) :=
 cond (decide (t11<(l0.length:Int)))
 ((at? l0 t11).bind λx14 =>
 (cond (x14.1==tag1) (some (x14.2.1==mac2)) (some false)).bind λt25 =>
 cond t25 (some (.inr (.inr t11))) (some (.inl (uB (t11+1)))))
 (some (.inr (.inl ())))
def dt (l0:List uF) (tag1:Int) (mac2:Int):Option Int :=
 (loop (λz=>dq l0 tag1 mac2 z) 0).bind (Sum.elim (λd =>
 some (-1)) (λr=>some r))
def nT:FL:=(337,⟨[.val false (.one (.sl uY)) false,.val false uI false,.val false uI false],[.val false uI (some true)],λa=>dt a.1 a.2.1 a.2.2⟩)::nS
theorem tD:Gd nT:=uK tC 337 Tryz.f337 [(0,⟨⟨(11,false,[dI])::us 21 4 [],[]⟩,
 ⟨[],[]⟩,some ⟨[(6,false,[dI])],[]⟩⟩)] Tryz.func337
def iA (b0:uz) (o1:List Int):Option Bool :=
 (aZ o1 2 5 ([1]:List Int)).bind λt11 =>
 (cond t11
 (some true)
 ((aZ o1 1 (b0.2.2.1.length:Int) ([2,1]:List Int)).bind λt16 =>
 some t16)).bind λt17 =>
 (cond t17
 (some true)
 ((aZ o1 1 (b0.2.2.1.length:Int) ([2,3]:List Int)).bind λt22 =>
 some t22)).bind λt23 =>
 cond t23
 (some true)
 ((cond ((o1.length:Int)==7)
 ((cut o1 0 5).bind λt29 =>
 (ay t29 ([1,3,1,4,1]:List Int)).bind λt31 =>
 some t31)
 (some false)).bind λt32 =>
 (cond t32
 ((at? o1 5).bind λx37 =>
 (at? o1 6).bind λx40 =>
 (dt b0.2.2.2.1 x37 x40).bind λt42 =>
 some (decide (t42>=0)))
 (some false)).bind λt44 =>
 some t44)
def nU:FL:=(282,⟨[.val true uR false,.val false xk false],[.val false vr (some true)],λa=>iA a.1 a.2⟩)::nT
theorem tE:Gd nU:=uK tD 282 Tryz.f282 [] Tryz.func282
def du (b0:uz) (x1:uC):Option (uz×Int) :=
 (iw b0 x1.1).bind λt11 =>
 cond t11
 ((jo b0 x1.1 x1.2).bind λt17 =>
 some t17)
 ((iA b0 x1.1).bind λt24 =>
 cond t24 (some (b0,4)) (some (b0,3)))
def nV:FL:=(171,⟨[.ptr uR (some true),.val true uU false],[.val false uI (some true)],λa=>du a.1 a.2⟩)::nU
theorem tF:Gd nV:=uK tE 171 Tryz.f171 [] Tryz.func171
def bh (id0:Int) (l1:List Pt) (bits5:Int) (port6:Int):Option ((Int×Int)⊕Int) :=
 (cond (decide (port6<(l1.length:Int))) (some (decide (port6<6))) (some false)).bind λt15 =>
 cond t15
 ((aY id0 l1 port6).bind λt21 =>
 (cond (t21==1) (some true) (some (t21==2))).bind λt27 =>
 cond t27
 ((shl .i64 1 port6).bind λt30 =>
 some (.inl (BU .i64 bits5 t30,uB (port6+1))))
 (some (.inl (bits5,uB (port6+1)))))
 (some (.inr bits5))
def ge (id0:Int) (l1:List Pt):Option Int :=
 (loop (λz=>bh id0 l1 z.1 z.2) (0,0)).bind λd =>
 some d
def nW:FL:=(283,⟨[.val false uI false,.val false (.one (.sl wX)) false],[.val false uI (some true)],λa=>ge a.1 a.2⟩)::nV
theorem tG:Gd nW:=uK tF 283 Tryz.f283 [(0,⟨⟨[(5,false,[dI]),(6,false,[dI]),(13,false,[.undef]),(14,false,[.undef]),(25,false,[.undef]),(26,false,[.undef])],[]⟩,
 ⟨[(5,false,[dI])],[]⟩,none⟩)] Tryz.func283
def ba (bits0:Int) (port1:Int):Option Bool :=
 (ac port1 0 62).bind λt6 =>
 (cond t6
 ((shr .i64 bits0 port1).bind λt10 =>
 some ((xO .i64 t10 1)==1))
 (some false)).bind λt13 =>
 some t13
def nX:FL:=(284,⟨[.val false uI false,.val false uI false],[.val false vr (some true)],λa=>ba a.1 a.2⟩)::nW
theorem tH:Gd nX:=uK tG 284 Tryz.f284 [] Tryz.func284
def eH (l0:List uF) (port1:Int) (t10:Int) (out5:List uF):Option ((Int×List uF)⊕(List uF)) :=
 cond (decide (t10<(l0.length:Int)))
 ((at? l0 t10).bind λx12 =>
 (cond x12.2.2.2.2 (some true) (some (x12.2.2.1 != port1))).bind λt21 =>
 cond t21
 ((uV out5 [x12]).bind λzs25 =>
 some (.inl (uB (t10+1),zs25)))
 (some (.inl (uB (t10+1),out5))))
 (some (.inr out5))
def iB (l0:List uF) (port1:Int):Option (List uF) :=
 (loop (λz=>eH l0 port1 z.1 z.2) (0,[])).bind λd =>
 some d
def nY:FL:=(285,⟨[.val false (.one (.sl uY)) false,.val false uI false],[.val false (.one (.sl uY)) (some true)],λa=>iB a.1 a.2⟩)::nX
theorem tI:Gd nY:=uK tH 285 Tryz.f285 [(0,⟨⟨(5,false,[.own 1000000000])::(10,false,[dI])::us 17 4 [],[(1000000000,.root uY true)]⟩,
 ⟨[(5,false,[.own 1000000300])],[(1000000300,.root uY true)]⟩,none⟩)] Tryz.func285
def iC (b0:uz) (t20:Int) (t26:Int) (b0_1:Int) (b1:List UInt8) (b6:Int) (b7:Int) (b8:Int) (b9:Int) (b10:Int) (b3:List uF):Option ((Int×Int×List UInt8×Int×Int×Int×Int×Int×List uF)⊕(Int×List UInt8×Int×Int×Int×Int×Int×List uF)) :=
 cond (decide (t26<(b0.2.2.1.length:Int)))
 ((ba t20 t26).bind λt31 =>
 cond (!t31)
 ((iB b3 t26).bind λt39 =>
 some (.inl (uB (t26+1),b0_1,b1,b6,b7,b8,b9,b10,t39)))
 (some (.inl (uB (t26+1),b0_1,b1,b6,b7,b8,b9,b10,b3))))
 (some (.inr (b0_1,b1,b6,b7,b8,b9,b10,b3)))
def aM (b0:uz):Option uz :=
 (aD b0.2.2.2.2.2.2.2.2.2.2).bind λt9 =>
 (ge b0.1 b0.2.2.1).bind λt20 =>
 (loop (λz=>iC b0 t20 z.1 z.2.1 z.2.2.1 z.2.2.2.1 z.2.2.2.2.1 z.2.2.2.2.2.1 z.2.2.2.2.2.2.1 z.2.2.2.2.2.2.2.1 z.2.2.2.2.2.2.2.2) (0,b0.1,b0.2.1,b0.2.2.2.2.2.2.1,b0.2.2.2.2.2.2.2.1,b0.2.2.2.2.2.2.2.2.1,b0.2.2.2.2.2.2.2.2.2.1,t9,b0.2.2.2.1)).bind λd =>
 some (d.1,d.2.1,b0.2.2.1,d.2.2.2.2.2.2.2,b0.2.2.2.2.1,b0.2.2.2.2.2.1,d.2.2.1,d.2.2.2.1,d.2.2.2.2.1,d.2.2.2.2.2.1,d.2.2.2.2.2.2.1)
def nZ:FL:=(172,⟨[.ptr uR (some true)],[],λa=>aM a⟩)::nY
theorem tJ:Gd nZ:=uK tI 172 Tryz.f172 [(0,⟨⟨[(26,false,[dI])],[(1,.box [dI,dS,.same 4,.own 1000000000,.same 6,.same 7,dI,dI,dI,dI,dI]),(1000000000,.root uY true)]⟩,
 ⟨[],[(1,.box [dI,dS,.same 4,.own 1000000300,.same 6,.same 7,dI,dI,dI,dI,dI]),(1000000300,.root uY true)]⟩,none⟩)] Tryz.func172
def gg (p0:uz) (t25:Int) (x28:uC) (t32:List uC) (t34:Int) (b0_2:Int) (b1_2:List UInt8) (b6_2:Int) (b7_2:Int) (b8_2:Int) (b9_2:Int) (b10_2:Int):Option ((Int×Int×List UInt8×Int×Int×Int×Int×Int)⊕((Int×List UInt8×Int×Int×Int×Int×Int)⊕(Int×Int×Int×List UInt8×Int×Int×Int×Int×Int×List Pt×List uF×List uQ×List Int))) :=
 cond (decide (t34<(t32.length:Int)))
 ((at? t32 t34).bind λx36 =>
 (ay x28.1 x36.1).bind λt42 =>
 cond t42
 ((ak p0).bind λt44 =>
 some (.inr (.inr (5,uB (t25+1),t44.1,t44.2.1,t44.2.2.2.2.2.2.1,t44.2.2.2.2.2.2.2.1,t44.2.2.2.2.2.2.2.2.1,t44.2.2.2.2.2.2.2.2.2.1,t44.2.2.2.2.2.2.2.2.2.2,t44.2.2.1,t44.2.2.2.1,t44.2.2.2.2.1,t44.2.2.2.2.2.1))))
 (some (.inl (uB (t34+1),b0_2,b1_2,b6_2,b7_2,b8_2,b9_2,b10_2))))
 (some (.inr (.inl (b0_2,b1_2,b6_2,b7_2,b8_2,b9_2,b10_2))))
def iD (p0:uz) (i1:List uC) (t25:Int) (b0:Int) (b1:List UInt8) (b6:Int) (b7:Int) (b8:Int) (b9:Int) (b10:Int) (b0_1:Int) (b1_1:List UInt8) (b6_1:Int) (b7_1:Int) (b8_1:Int) (b9_1:Int) (b10_1:Int) (b2:List Pt) (b3:List uF) (b4:List uQ) (b5:List Int) (b2_1:List Pt) (b3_1:List uF) (b4_1:List uQ) (b5_1:List Int):Option ((Int×Int×List UInt8×Int×Int×Int×Int×Int×Int×List UInt8×Int×Int×Int×Int×Int×List Pt×List uF×List uQ×List Int×List Pt×List uF×List uQ×List Int)⊕((Int×List UInt8×Int×Int×Int×Int×Int×Int×List UInt8×Int×Int×Int×Int×Int×List Pt×List uF×List uQ×List Int×List Pt×List uF×List uQ×List Int)⊕(Int×Int×Int×List UInt8×Int×Int×Int×Int×Int×List Pt×List uF×List uQ×List Int))) :=
 cond (decide (t25<(i1.length:Int)))
 ((at? i1 t25).bind λx28 =>
 (cut i1 0 t25).bind λt32 =>
 (loop (λz=>gg p0 t25 x28 t32 z.1 z.2.1 z.2.2.1 z.2.2.2.1 z.2.2.2.2.1 z.2.2.2.2.2.1 z.2.2.2.2.2.2.1 z.2.2.2.2.2.2.2) (0,b0,b1,b6,b7,b8,b9,b10)).bind (Sum.elim (λd =>
 (du (b0_1,b1_1,b2_1,b3_1,b4_1,b5_1,b6_1,b7_1,b8_1,b9_1,b10_1) x28).bind λt49 =>
 cond (t49.2 != 0)
 ((ak p0).bind λt53 =>
 some (.inr (.inr (t49.2,uB (t25+1),t53.1,t53.2.1,t53.2.2.2.2.2.2.1,t53.2.2.2.2.2.2.2.1,t53.2.2.2.2.2.2.2.2.1,t53.2.2.2.2.2.2.2.2.2.1,t53.2.2.2.2.2.2.2.2.2.2,t53.2.2.1,t53.2.2.2.1,t53.2.2.2.2.1,t53.2.2.2.2.2.1))))
 (some (.inl (uB (t25+1),d.1,d.2.1,d.2.2.1,d.2.2.2.1,d.2.2.2.2.1,d.2.2.2.2.2.1,d.2.2.2.2.2.2,t49.1.1,t49.1.2.1,t49.1.2.2.2.2.2.2.1,t49.1.2.2.2.2.2.2.2.1,t49.1.2.2.2.2.2.2.2.2.1,t49.1.2.2.2.2.2.2.2.2.2.1,t49.1.2.2.2.2.2.2.2.2.2.2,b2,b3,b4,b5,t49.1.2.2.1,t49.1.2.2.2.1,t49.1.2.2.2.2.1,t49.1.2.2.2.2.2.1)))) (λr=>some (.inr (.inr r)))))
 (some (.inr (.inl (b0,b1,b6,b7,b8,b9,b10,b0_1,b1_1,b6_1,b7_1,b8_1,b9_1,b10_1,b2,b3,b4,b5,b2_1,b3_1,b4_1,b5_1))))
def eI (p0:uz) (i1:List uC):Option (uz×Int×Int) :=
 (ak p0).bind λt14 =>
 cond ((i1.length:Int)==0)
 (some (t14,0,0))
 ((aS p0).bind λt20 =>
 cond (!t20)
 (some (t14,3,1))
 ((loop (λz=>iD p0 i1 z.1 z.2.1 z.2.2.1 z.2.2.2.1 z.2.2.2.2.1 z.2.2.2.2.2.1 z.2.2.2.2.2.2.1 z.2.2.2.2.2.2.2.1 z.2.2.2.2.2.2.2.2.1 z.2.2.2.2.2.2.2.2.2.1 z.2.2.2.2.2.2.2.2.2.2.1 z.2.2.2.2.2.2.2.2.2.2.2.1 z.2.2.2.2.2.2.2.2.2.2.2.2.1 z.2.2.2.2.2.2.2.2.2.2.2.2.2.1 z.2.2.2.2.2.2.2.2.2.2.2.2.2.2.1 z.2.2.2.2.2.2.2.2.2.2.2.2.2.2.2.1 z.2.2.2.2.2.2.2.2.2.2.2.2.2.2.2.2.1 z.2.2.2.2.2.2.2.2.2.2.2.2.2.2.2.2.2.1 z.2.2.2.2.2.2.2.2.2.2.2.2.2.2.2.2.2.2.1 z.2.2.2.2.2.2.2.2.2.2.2.2.2.2.2.2.2.2.2.1 z.2.2.2.2.2.2.2.2.2.2.2.2.2.2.2.2.2.2.2.2.1 z.2.2.2.2.2.2.2.2.2.2.2.2.2.2.2.2.2.2.2.2.2.1 z.2.2.2.2.2.2.2.2.2.2.2.2.2.2.2.2.2.2.2.2.2.2) (0,0,[],0,0,0,0,0,t14.1,t14.2.1,t14.2.2.2.2.2.2.1,t14.2.2.2.2.2.2.2.1,t14.2.2.2.2.2.2.2.2.1,t14.2.2.2.2.2.2.2.2.2.1,t14.2.2.2.2.2.2.2.2.2.2,[],[],[],[],t14.2.2.1,t14.2.2.2.1,t14.2.2.2.2.1,t14.2.2.2.2.2.1)).bind (Sum.elim (λd_1 =>
 (em d_1.2.2.2.2.2.2.2.2.2.2.2.2.2.2.2.2.2.2.2.2 (d_1.2.2.2.2.2.2.2.2.2.2.2.2.2.2.2.2.2.2.1.length:Int)).bind λt63 =>
 cond (!t63)
 ((ak p0).bind λt66 =>
 some (t66,5,(i1.length:Int)))
 ((aM (d_1.2.2.2.2.2.2.2.1,d_1.2.2.2.2.2.2.2.2.1,d_1.2.2.2.2.2.2.2.2.2.2.2.2.2.2.2.2.2.2.1,d_1.2.2.2.2.2.2.2.2.2.2.2.2.2.2.2.2.2.2.2.1,d_1.2.2.2.2.2.2.2.2.2.2.2.2.2.2.2.2.2.2.2.2.1,d_1.2.2.2.2.2.2.2.2.2.2.2.2.2.2.2.2.2.2.2.2.2,d_1.2.2.2.2.2.2.2.2.2.1,d_1.2.2.2.2.2.2.2.2.2.2.1,d_1.2.2.2.2.2.2.2.2.2.2.2.1,d_1.2.2.2.2.2.2.2.2.2.2.2.2.1,d_1.2.2.2.2.2.2.2.2.2.2.2.2.2.1)).bind λt69 =>
 some (t69,0,0))) (λr_1=>some ((r_1.2.2.1,r_1.2.2.2.1,r_1.2.2.2.2.2.2.2.2.2.1,r_1.2.2.2.2.2.2.2.2.2.2.1,r_1.2.2.2.2.2.2.2.2.2.2.2.1,r_1.2.2.2.2.2.2.2.2.2.2.2.2,r_1.2.2.2.2.1,r_1.2.2.2.2.2.1,r_1.2.2.2.2.2.2.1,r_1.2.2.2.2.2.2.2.1,r_1.2.2.2.2.2.2.2.2.1),r_1.1,r_1.2.1)))))
def o4:FL:=(80,⟨[.val true uR false,.val false (.one (.sl uU)) false],[.val true uR (some true),.val false uI (some true),.val false uI (some true)],λa=>eI a.1 a.2⟩)::nZ
theorem tK:Gd o4:=uK tJ 80 Tryz.f80 [(0,⟨⟨[(25,false,[dI])],[(2048,.box [dI,dS,.own 1000000000,.own 1000000001,.own 1000000002,.own 1000000003,dI,dI,dI,dI,dI]),(265216,.box [dI,dS,.own 1000000004,.own 1000000005,.own 1000000006,.own 1000000007,dI,dI,dI,dI,dI]),(1000000000,.root wX true),(1000000001,.root uY true),(1000000002,.root vI true),(1000000003,.root uI true),(1000000004,.root wX true),(1000000005,.root uY true),(1000000006,.root vI true),(1000000007,.root uI true)]⟩,
 ⟨[],[(2048,.box [dI,dS,.own 1000000300,.own 1000000301,.own 1000000302,.own 1000000303,dI,dI,dI,dI,dI]),(265216,.box [dI,dS,.own 1000000304,.own 1000000305,.own 1000000306,.own 1000000307,dI,dI,dI,dI,dI]),(1000000300,.root wX true),(1000000301,.root uY true),(1000000302,.root vI true),(1000000303,.root uI true),(1000000304,.root wX true),(1000000305,.root uY true),(1000000306,.root vI true),(1000000307,.root uI true)]⟩,some ⟨[(5,false,[dI]),(6,false,[dI])],[(2048,.box [dI,dS,.own 1000000600,.own 1000000601,.own 1000000602,.own 1000000603,dI,dI,dI,dI,dI]),(1000000600,.root wX true),(1000000601,.root uY true),(1000000602,.root vI true),(1000000603,.root uI true)]⟩⟩),
 (2,⟨⟨[(34,false,[dI])],[(2048,.box [dI,dS,.same 1000000000,.same 1000000001,.same 1000000002,.same 1000000003,dI,dI,dI,dI,dI])]⟩,
 ⟨[],[(2048,.box [dI,dS,.same 1000000000,.same 1000000001,.same 1000000002,.same 1000000003,dI,dI,dI,dI,dI])]⟩,some ⟨[(5,false,[dI]),(6,false,[dI])],[(2048,.box [dI,dS,.own 1000002600,.own 1000002601,.own 1000002602,.own 1000002603,dI,dI,dI,dI,dI]),(1000002600,.root wX true),(1000002601,.root uY true),(1000002602,.root vI true),(1000002603,.root uI true)]⟩⟩)] Tryz.func80
def gh (p0:uz) (i1:v9) (t54:Int) (b0:Int) (b1:Int) (b2:Int) (b3:Int) (b4:List uC):Option ((Int×Int×Int×Int×Int×List uC)⊕(Int×Int×Int×Int×List uC)) :=
 cond (decide (t54<(i1.2.2.2.2.length:Int)))
 ((at? i1.2.2.2.2 t54).bind λx56 =>
 (bf x56.1).bind λt62 =>
 (cq p0 x56.1).bind λt66 =>
 (uV b4 [(t62,t66.1,t66.2.1,t66.2.2.1,t66.2.2.2)]).bind λzs69 =>
 some (.inl (uB (t54+1),b0,b1,b2,b3,zs69)))
 (some (.inr (b0,b1,b2,b3,b4)))
def o5 (i1:v9) (b0_2:Int) (b1_2:List UInt8) (b6:Int) (b7:Int) (b8:Int) (b9:Int) (b10:Int) (b0_3:Int) (b1_3:Int) (b2_2:Int) (b3_2:Int) (b0_4:Int) (b1_4:List UInt8) (b6_1:Int) (b7_1:Int) (b8_1:Int) (b9_1:Int) (b10_1:Int) (b0_5:Int) (b1_5:Int) (b2_3:Int) (b3_3:Int) (b4_2:List uC) (b2_4:List Pt) (b3_4:List uF) (b4_3:List uQ) (b5:List Int) (b4_4:List uC) (b2_5:List Pt) (b3_5:List uF) (b4_5:List uQ) (b5_1:List Int):Option ((Int×List UInt8×Int×Int×Int×Int×Int×Int×Int×Int×Int×Int×List UInt8×Int×Int×Int×Int×Int×Int×Int×Int×Int×List uC×List Pt×List uF×List uQ×List Int×List uC×List Pt×List uF×List uQ×List Int)⊕((Int×List UInt8×Int×Int×Int×Int×Int×Int×Int×Int×Int×Int×List UInt8×Int×Int×Int×Int×Int×Int×Int×Int×Int×List uC×List Pt×List uF×List uQ×List Int×List uC×List Pt×List uF×List uQ×List Int)⊕(Bool×Int×List UInt8×Int×Int×Int×Int×Int×Int×Int×Int×Int×List uC×List Pt×List uF×List uQ×List Int))) :=
 (cond (i1.1==165) (some (decide ((b4_2.length:Int)>0))) (some false)).bind λt109 =>
 cond t109
 ((cut b4_2 0 (uB ((b4_2.length:Int)-1))).bind λt116 =>
 (aX (b0_5,b1_5,b2_3,b3_3,t116)).bind λt119 =>
 cond t119
 (some (.inr (.inr (true,b0_4,b1_4,b6_1,b7_1,b8_1,b9_1,b10_1,b0_5,b1_5,b2_3,b3_3,t116,b2_5,b3_5,b4_5,b5_1))))
 (some (.inl (b0_2,b1_2,b6,b7,b8,b9,b10,b0_3,b1_3,b2_2,b3_2,b0_4,b1_4,b6_1,b7_1,b8_1,b9_1,b10_1,b0_5,b1_5,b2_3,b3_3,t116,b2_4,b3_4,b4_3,b5,b4_4,b2_5,b3_5,b4_5,b5_1))))
 (some (.inr (.inl (b0_2,b1_2,b6,b7,b8,b9,b10,b0_3,b1_3,b2_2,b3_2,b0_4,b1_4,b6_1,b7_1,b8_1,b9_1,b10_1,b0_5,b1_5,b2_3,b3_3,b4_2,b2_4,b3_4,b4_3,b5,b4_4,b2_5,b3_5,b4_5,b5_1))))
def gi (p0:uz) (i1:v9) (t77:Int) (b0_10:Int) (b1_10:Int) (b2_10:Int) (b3_10:Int) (b4_10:List uC):Option ((Int×Int×Int×Int×Int×List uC)⊕(Int×Int×Int×Int×List uC)) :=
 cond (decide (t77<(i1.2.2.2.2.length:Int)))
 ((at? i1.2.2.2.2 t77).bind λx79 =>
 (bB p0 x79.1).bind λt86 =>
 (uV b4_10 [t86]).bind λzs88 =>
 some (.inl (uB (t77+1),b0_10,b1_10,b2_10,b3_10,zs88)))
 (some (.inr (b0_10,b1_10,b2_10,b3_10,b4_10)))
def o7 (i1:v9) (b0_12:Int) (b1_12:List UInt8) (b6_4:Int) (b7_4:Int) (b8_4:Int) (b9_4:Int) (b10_4:Int) (b0_13:Int) (b1_13:Int) (b2_12:Int) (b3_12:Int) (b0_14:Int) (b1_14:List UInt8) (b6_5:Int) (b7_5:Int) (b8_5:Int) (b9_5:Int) (b10_5:Int) (b0_15:Int) (b1_15:Int) (b2_13:Int) (b3_13:Int) (b4_12:List uC) (b2_14:List Pt) (b3_14:List uF) (b4_13:List uQ) (b5_4:List Int) (b4_14:List uC) (b2_15:List Pt) (b3_15:List uF) (b4_15:List uQ) (b5_5:List Int):Option ((Int×List UInt8×Int×Int×Int×Int×Int×Int×Int×Int×Int×Int×List UInt8×Int×Int×Int×Int×Int×Int×Int×Int×Int×List uC×List Pt×List uF×List uQ×List Int×List uC×List Pt×List uF×List uQ×List Int)⊕((Int×List UInt8×Int×Int×Int×Int×Int×Int×Int×Int×Int×Int×List UInt8×Int×Int×Int×Int×Int×Int×Int×Int×Int×List uC×List Pt×List uF×List uQ×List Int×List uC×List Pt×List uF×List uQ×List Int)⊕(Bool×Int×List UInt8×Int×Int×Int×Int×Int×Int×Int×Int×Int×List uC×List Pt×List uF×List uQ×List Int))) :=
 (cond (i1.1==165) (some (decide ((b4_12.length:Int)>0))) (some false)).bind λt109_1 =>
 cond t109_1
 ((cut b4_12 0 (uB ((b4_12.length:Int)-1))).bind λt116_1 =>
 (aX (b0_15,b1_15,b2_13,b3_13,t116_1)).bind λt119_1 =>
 cond t119_1
 (some (.inr (.inr (true,b0_14,b1_14,b6_5,b7_5,b8_5,b9_5,b10_5,b0_15,b1_15,b2_13,b3_13,t116_1,b2_15,b3_15,b4_15,b5_5))))
 (some (.inl (b0_12,b1_12,b6_4,b7_4,b8_4,b9_4,b10_4,b0_13,b1_13,b2_12,b3_12,b0_14,b1_14,b6_5,b7_5,b8_5,b9_5,b10_5,b0_15,b1_15,b2_13,b3_13,t116_1,b2_14,b3_14,b4_13,b5_4,b4_14,b2_15,b3_15,b4_15,b5_5))))
 (some (.inr (.inl (b0_12,b1_12,b6_4,b7_4,b8_4,b9_4,b10_4,b0_13,b1_13,b2_12,b3_12,b0_14,b1_14,b6_5,b7_5,b8_5,b9_5,b10_5,b0_15,b1_15,b2_13,b3_13,b4_12,b2_14,b3_14,b4_13,b5_4,b4_14,b2_15,b3_15,b4_15,b5_5))))
def gj (i1:v9) (b0_20:Int) (b1_20:List UInt8) (b6_8:Int) (b7_8:Int) (b8_8:Int) (b9_8:Int) (b10_8:Int) (b0_21:Int) (b1_21:Int) (b2_20:Int) (b3_20:Int) (b0_22:Int) (b1_22:List UInt8) (b6_9:Int) (b7_9:Int) (b8_9:Int) (b9_9:Int) (b10_9:Int) (b0_23:Int) (b1_23:Int) (b2_21:Int) (b3_21:Int) (b4_20:List uC) (b2_22:List Pt) (b3_22:List uF) (b4_21:List uQ) (b5_8:List Int) (b4_22:List uC) (b2_23:List Pt) (b3_23:List uF) (b4_23:List uQ) (b5_9:List Int):Option ((Int×List UInt8×Int×Int×Int×Int×Int×Int×Int×Int×Int×Int×List UInt8×Int×Int×Int×Int×Int×Int×Int×Int×Int×List uC×List Pt×List uF×List uQ×List Int×List uC×List Pt×List uF×List uQ×List Int)⊕((Int×List UInt8×Int×Int×Int×Int×Int×Int×Int×Int×Int×Int×List UInt8×Int×Int×Int×Int×Int×Int×Int×Int×Int×List uC×List Pt×List uF×List uQ×List Int×List uC×List Pt×List uF×List uQ×List Int)⊕(Bool×Int×List UInt8×Int×Int×Int×Int×Int×Int×Int×Int×Int×List uC×List Pt×List uF×List uQ×List Int))) :=
 (cond (i1.1==165) (some (decide ((b4_20.length:Int)>0))) (some false)).bind λt109_2 =>
 cond t109_2
 ((cut b4_20 0 (uB ((b4_20.length:Int)-1))).bind λt116_2 =>
 (aX (b0_23,b1_23,b2_21,b3_21,t116_2)).bind λt119_2 =>
 cond t119_2
 (some (.inr (.inr (true,b0_22,b1_22,b6_9,b7_9,b8_9,b9_9,b10_9,b0_23,b1_23,b2_21,b3_21,t116_2,b2_23,b3_23,b4_23,b5_9))))
 (some (.inl (b0_20,b1_20,b6_8,b7_8,b8_8,b9_8,b10_8,b0_21,b1_21,b2_20,b3_20,b0_22,b1_22,b6_9,b7_9,b8_9,b9_9,b10_9,b0_23,b1_23,b2_21,b3_21,t116_2,b2_22,b3_22,b4_21,b5_8,b4_22,b2_23,b3_23,b4_23,b5_9))))
 (some (.inr (.inl (b0_20,b1_20,b6_8,b7_8,b8_8,b9_8,b10_8,b0_21,b1_21,b2_20,b3_20,b0_22,b1_22,b6_9,b7_9,b8_9,b9_9,b10_9,b0_23,b1_23,b2_21,b3_21,b4_20,b2_22,b3_22,b4_21,b5_8,b4_22,b2_23,b3_23,b4_23,b5_9))))
def o8 (i1:v9) (b0_28:Int) (b1_28:List UInt8) (b6_12:Int) (b7_12:Int) (b8_12:Int) (b9_12:Int) (b10_12:Int) (b0_29:Int) (b1_29:Int) (b2_28:Int) (b3_28:Int) (b0_30:Int) (b1_30:List UInt8) (b6_13:Int) (b7_13:Int) (b8_13:Int) (b9_13:Int) (b10_13:Int) (b0_31:Int) (b1_31:Int) (b2_29:Int) (b3_29:Int) (b4_28:List uC) (b2_30:List Pt) (b3_30:List uF) (b4_29:List uQ) (b5_12:List Int) (b4_30:List uC) (b2_31:List Pt) (b3_31:List uF) (b4_31:List uQ) (b5_13:List Int):Option ((Int×List UInt8×Int×Int×Int×Int×Int×Int×Int×Int×Int×Int×List UInt8×Int×Int×Int×Int×Int×Int×Int×Int×Int×List uC×List Pt×List uF×List uQ×List Int×List uC×List Pt×List uF×List uQ×List Int)⊕((Int×List UInt8×Int×Int×Int×Int×Int×Int×Int×Int×Int×Int×List UInt8×Int×Int×Int×Int×Int×Int×Int×Int×Int×List uC×List Pt×List uF×List uQ×List Int×List uC×List Pt×List uF×List uQ×List Int)⊕(Bool×Int×List UInt8×Int×Int×Int×Int×Int×Int×Int×Int×Int×List uC×List Pt×List uF×List uQ×List Int))) :=
 (cond (i1.1==165) (some (decide ((b4_28.length:Int)>0))) (some false)).bind λt109_3 =>
 cond t109_3
 ((cut b4_28 0 (uB ((b4_28.length:Int)-1))).bind λt116_3 =>
 (aX (b0_31,b1_31,b2_29,b3_29,t116_3)).bind λt119_3 =>
 cond t119_3
 (some (.inr (.inr (true,b0_30,b1_30,b6_13,b7_13,b8_13,b9_13,b10_13,b0_31,b1_31,b2_29,b3_29,t116_3,b2_31,b3_31,b4_31,b5_13))))
 (some (.inl (b0_28,b1_28,b6_12,b7_12,b8_12,b9_12,b10_12,b0_29,b1_29,b2_28,b3_28,b0_30,b1_30,b6_13,b7_13,b8_13,b9_13,b10_13,b0_31,b1_31,b2_29,b3_29,t116_3,b2_30,b3_30,b4_29,b5_12,b4_30,b2_31,b3_31,b4_31,b5_13))))
 (some (.inr (.inl (b0_28,b1_28,b6_12,b7_12,b8_12,b9_12,b10_12,b0_29,b1_29,b2_28,b3_28,b0_30,b1_30,b6_13,b7_13,b8_13,b9_13,b10_13,b0_31,b1_31,b2_29,b3_29,b4_28,b2_30,b3_30,b4_29,b5_12,b4_30,b2_31,b3_31,b4_31,b5_13))))
def dv (p0:uz) (i1:v9):Option (uz×v9×Bool) :=
 (ak p0).bind λt14 =>
 (aS p0).bind λt16 =>
 (cond (!t16)
 (some true)
 ((da i1).bind λt20 =>
 some (!t20))).bind λt22 =>
 (cond t22 (some true) (some (i1.1==162))).bind λt27 =>
 cond t27
 (some (t14,(0,0,0,0,[]),false))
 (cond (i1.1==160)
 ((loop (λz=>gh p0 i1 z.1 z.2.1 z.2.2.1 z.2.2.2.1 z.2.2.2.2.1 z.2.2.2.2.2) (0,162,i1.2.1,0,0,[])).bind λd =>
 (aX d).bind λt98 =>
 cond t98
 (some (t14,d,true))
 ((loop (λz=>o5 i1 z.1 z.2.1 z.2.2.1 z.2.2.2.1 z.2.2.2.2.1 z.2.2.2.2.2.1 z.2.2.2.2.2.2.1 z.2.2.2.2.2.2.2.1 z.2.2.2.2.2.2.2.2.1 z.2.2.2.2.2.2.2.2.2.1 z.2.2.2.2.2.2.2.2.2.2.1 z.2.2.2.2.2.2.2.2.2.2.2.1 z.2.2.2.2.2.2.2.2.2.2.2.2.1 z.2.2.2.2.2.2.2.2.2.2.2.2.2.1 z.2.2.2.2.2.2.2.2.2.2.2.2.2.2.1 z.2.2.2.2.2.2.2.2.2.2.2.2.2.2.2.1 z.2.2.2.2.2.2.2.2.2.2.2.2.2.2.2.2.1 z.2.2.2.2.2.2.2.2.2.2.2.2.2.2.2.2.2.1 z.2.2.2.2.2.2.2.2.2.2.2.2.2.2.2.2.2.2.1 z.2.2.2.2.2.2.2.2.2.2.2.2.2.2.2.2.2.2.2.1 z.2.2.2.2.2.2.2.2.2.2.2.2.2.2.2.2.2.2.2.2.1 z.2.2.2.2.2.2.2.2.2.2.2.2.2.2.2.2.2.2.2.2.2.1 z.2.2.2.2.2.2.2.2.2.2.2.2.2.2.2.2.2.2.2.2.2.2.1 z.2.2.2.2.2.2.2.2.2.2.2.2.2.2.2.2.2.2.2.2.2.2.2.1 z.2.2.2.2.2.2.2.2.2.2.2.2.2.2.2.2.2.2.2.2.2.2.2.2.1 z.2.2.2.2.2.2.2.2.2.2.2.2.2.2.2.2.2.2.2.2.2.2.2.2.2.1 z.2.2.2.2.2.2.2.2.2.2.2.2.2.2.2.2.2.2.2.2.2.2.2.2.2.2.1 z.2.2.2.2.2.2.2.2.2.2.2.2.2.2.2.2.2.2.2.2.2.2.2.2.2.2.2.1 z.2.2.2.2.2.2.2.2.2.2.2.2.2.2.2.2.2.2.2.2.2.2.2.2.2.2.2.2.1 z.2.2.2.2.2.2.2.2.2.2.2.2.2.2.2.2.2.2.2.2.2.2.2.2.2.2.2.2.2.1 z.2.2.2.2.2.2.2.2.2.2.2.2.2.2.2.2.2.2.2.2.2.2.2.2.2.2.2.2.2.2.1 z.2.2.2.2.2.2.2.2.2.2.2.2.2.2.2.2.2.2.2.2.2.2.2.2.2.2.2.2.2.2.2) (0,[],0,0,0,0,0,0,0,0,0,t14.1,t14.2.1,t14.2.2.2.2.2.2.1,t14.2.2.2.2.2.2.2.1,t14.2.2.2.2.2.2.2.2.1,t14.2.2.2.2.2.2.2.2.2.1,t14.2.2.2.2.2.2.2.2.2.2,d.1,d.2.1,d.2.2.1,d.2.2.2.1,d.2.2.2.2,[],[],[],[],[],t14.2.2.1,t14.2.2.2.1,t14.2.2.2.2.1,t14.2.2.2.2.2.1)).bind (Sum.elim (λd_1 =>
 (ak p0).bind λt123 =>
 some (t123,(162,i1.2.1,7,0,[]),true)) (λr=>some ((r.2.1,r.2.2.1,r.2.2.2.2.2.2.2.2.2.2.2.2.2.1,r.2.2.2.2.2.2.2.2.2.2.2.2.2.2.1,r.2.2.2.2.2.2.2.2.2.2.2.2.2.2.2.1,r.2.2.2.2.2.2.2.2.2.2.2.2.2.2.2.2,r.2.2.2.1,r.2.2.2.2.1,r.2.2.2.2.2.1,r.2.2.2.2.2.2.1,r.2.2.2.2.2.2.2.1),(r.2.2.2.2.2.2.2.2.1,r.2.2.2.2.2.2.2.2.2.1,r.2.2.2.2.2.2.2.2.2.2.1,r.2.2.2.2.2.2.2.2.2.2.2.1,r.2.2.2.2.2.2.2.2.2.2.2.2.1),r.1)))))
 (cond (i1.1==161)
 ((loop (λz=>gi p0 i1 z.1 z.2.1 z.2.2.1 z.2.2.2.1 z.2.2.2.2.1 z.2.2.2.2.2) (0,162,i1.2.1,0,0,[])).bind λd_2 =>
 (aX d_2).bind λt98_1 =>
 cond t98_1
 (some (t14,d_2,true))
 ((loop (λz=>o7 i1 z.1 z.2.1 z.2.2.1 z.2.2.2.1 z.2.2.2.2.1 z.2.2.2.2.2.1 z.2.2.2.2.2.2.1 z.2.2.2.2.2.2.2.1 z.2.2.2.2.2.2.2.2.1 z.2.2.2.2.2.2.2.2.2.1 z.2.2.2.2.2.2.2.2.2.2.1 z.2.2.2.2.2.2.2.2.2.2.2.1 z.2.2.2.2.2.2.2.2.2.2.2.2.1 z.2.2.2.2.2.2.2.2.2.2.2.2.2.1 z.2.2.2.2.2.2.2.2.2.2.2.2.2.2.1 z.2.2.2.2.2.2.2.2.2.2.2.2.2.2.2.1 z.2.2.2.2.2.2.2.2.2.2.2.2.2.2.2.2.1 z.2.2.2.2.2.2.2.2.2.2.2.2.2.2.2.2.2.1 z.2.2.2.2.2.2.2.2.2.2.2.2.2.2.2.2.2.2.1 z.2.2.2.2.2.2.2.2.2.2.2.2.2.2.2.2.2.2.2.1 z.2.2.2.2.2.2.2.2.2.2.2.2.2.2.2.2.2.2.2.2.1 z.2.2.2.2.2.2.2.2.2.2.2.2.2.2.2.2.2.2.2.2.2.1 z.2.2.2.2.2.2.2.2.2.2.2.2.2.2.2.2.2.2.2.2.2.2.1 z.2.2.2.2.2.2.2.2.2.2.2.2.2.2.2.2.2.2.2.2.2.2.2.1 z.2.2.2.2.2.2.2.2.2.2.2.2.2.2.2.2.2.2.2.2.2.2.2.2.1 z.2.2.2.2.2.2.2.2.2.2.2.2.2.2.2.2.2.2.2.2.2.2.2.2.2.1 z.2.2.2.2.2.2.2.2.2.2.2.2.2.2.2.2.2.2.2.2.2.2.2.2.2.2.1 z.2.2.2.2.2.2.2.2.2.2.2.2.2.2.2.2.2.2.2.2.2.2.2.2.2.2.2.1 z.2.2.2.2.2.2.2.2.2.2.2.2.2.2.2.2.2.2.2.2.2.2.2.2.2.2.2.2.1 z.2.2.2.2.2.2.2.2.2.2.2.2.2.2.2.2.2.2.2.2.2.2.2.2.2.2.2.2.2.1 z.2.2.2.2.2.2.2.2.2.2.2.2.2.2.2.2.2.2.2.2.2.2.2.2.2.2.2.2.2.2.1 z.2.2.2.2.2.2.2.2.2.2.2.2.2.2.2.2.2.2.2.2.2.2.2.2.2.2.2.2.2.2.2) (0,[],0,0,0,0,0,0,0,0,0,t14.1,t14.2.1,t14.2.2.2.2.2.2.1,t14.2.2.2.2.2.2.2.1,t14.2.2.2.2.2.2.2.2.1,t14.2.2.2.2.2.2.2.2.2.1,t14.2.2.2.2.2.2.2.2.2.2,d_2.1,d_2.2.1,d_2.2.2.1,d_2.2.2.2.1,d_2.2.2.2.2,[],[],[],[],[],t14.2.2.1,t14.2.2.2.1,t14.2.2.2.2.1,t14.2.2.2.2.2.1)).bind (Sum.elim (λd_3 =>
 (ak p0).bind λt123_1 =>
 some (t123_1,(162,i1.2.1,7,0,[]),true)) (λr_1=>some ((r_1.2.1,r_1.2.2.1,r_1.2.2.2.2.2.2.2.2.2.2.2.2.2.1,r_1.2.2.2.2.2.2.2.2.2.2.2.2.2.2.1,r_1.2.2.2.2.2.2.2.2.2.2.2.2.2.2.2.1,r_1.2.2.2.2.2.2.2.2.2.2.2.2.2.2.2.2,r_1.2.2.2.1,r_1.2.2.2.2.1,r_1.2.2.2.2.2.1,r_1.2.2.2.2.2.2.1,r_1.2.2.2.2.2.2.2.1),(r_1.2.2.2.2.2.2.2.2.1,r_1.2.2.2.2.2.2.2.2.2.1,r_1.2.2.2.2.2.2.2.2.2.2.1,r_1.2.2.2.2.2.2.2.2.2.2.2.1,r_1.2.2.2.2.2.2.2.2.2.2.2.2.1),r_1.1)))))
 (cond (i1.1==165)
 ((iv p0 i1).bind λt95 =>
 (aX (162,i1.2.1,0,0,t95)).bind λt98_2 =>
 cond t98_2
 (some (t14,(162,i1.2.1,0,0,t95),true))
 ((loop (λz=>gj i1 z.1 z.2.1 z.2.2.1 z.2.2.2.1 z.2.2.2.2.1 z.2.2.2.2.2.1 z.2.2.2.2.2.2.1 z.2.2.2.2.2.2.2.1 z.2.2.2.2.2.2.2.2.1 z.2.2.2.2.2.2.2.2.2.1 z.2.2.2.2.2.2.2.2.2.2.1 z.2.2.2.2.2.2.2.2.2.2.2.1 z.2.2.2.2.2.2.2.2.2.2.2.2.1 z.2.2.2.2.2.2.2.2.2.2.2.2.2.1 z.2.2.2.2.2.2.2.2.2.2.2.2.2.2.1 z.2.2.2.2.2.2.2.2.2.2.2.2.2.2.2.1 z.2.2.2.2.2.2.2.2.2.2.2.2.2.2.2.2.1 z.2.2.2.2.2.2.2.2.2.2.2.2.2.2.2.2.2.1 z.2.2.2.2.2.2.2.2.2.2.2.2.2.2.2.2.2.2.1 z.2.2.2.2.2.2.2.2.2.2.2.2.2.2.2.2.2.2.2.1 z.2.2.2.2.2.2.2.2.2.2.2.2.2.2.2.2.2.2.2.2.1 z.2.2.2.2.2.2.2.2.2.2.2.2.2.2.2.2.2.2.2.2.2.1 z.2.2.2.2.2.2.2.2.2.2.2.2.2.2.2.2.2.2.2.2.2.2.1 z.2.2.2.2.2.2.2.2.2.2.2.2.2.2.2.2.2.2.2.2.2.2.2.1 z.2.2.2.2.2.2.2.2.2.2.2.2.2.2.2.2.2.2.2.2.2.2.2.2.1 z.2.2.2.2.2.2.2.2.2.2.2.2.2.2.2.2.2.2.2.2.2.2.2.2.2.1 z.2.2.2.2.2.2.2.2.2.2.2.2.2.2.2.2.2.2.2.2.2.2.2.2.2.2.1 z.2.2.2.2.2.2.2.2.2.2.2.2.2.2.2.2.2.2.2.2.2.2.2.2.2.2.2.1 z.2.2.2.2.2.2.2.2.2.2.2.2.2.2.2.2.2.2.2.2.2.2.2.2.2.2.2.2.1 z.2.2.2.2.2.2.2.2.2.2.2.2.2.2.2.2.2.2.2.2.2.2.2.2.2.2.2.2.2.1 z.2.2.2.2.2.2.2.2.2.2.2.2.2.2.2.2.2.2.2.2.2.2.2.2.2.2.2.2.2.2.1 z.2.2.2.2.2.2.2.2.2.2.2.2.2.2.2.2.2.2.2.2.2.2.2.2.2.2.2.2.2.2.2) (0,[],0,0,0,0,0,0,0,0,0,t14.1,t14.2.1,t14.2.2.2.2.2.2.1,t14.2.2.2.2.2.2.2.1,t14.2.2.2.2.2.2.2.2.1,t14.2.2.2.2.2.2.2.2.2.1,t14.2.2.2.2.2.2.2.2.2.2,162,i1.2.1,0,0,t95,[],[],[],[],[],t14.2.2.1,t14.2.2.2.1,t14.2.2.2.2.1,t14.2.2.2.2.2.1)).bind (Sum.elim (λd_4 =>
 (ak p0).bind λt123_2 =>
 some (t123_2,(162,i1.2.1,7,0,[]),true)) (λr_2=>some ((r_2.2.1,r_2.2.2.1,r_2.2.2.2.2.2.2.2.2.2.2.2.2.2.1,r_2.2.2.2.2.2.2.2.2.2.2.2.2.2.2.1,r_2.2.2.2.2.2.2.2.2.2.2.2.2.2.2.2.1,r_2.2.2.2.2.2.2.2.2.2.2.2.2.2.2.2.2,r_2.2.2.2.1,r_2.2.2.2.2.1,r_2.2.2.2.2.2.1,r_2.2.2.2.2.2.2.1,r_2.2.2.2.2.2.2.2.1),(r_2.2.2.2.2.2.2.2.2.1,r_2.2.2.2.2.2.2.2.2.2.1,r_2.2.2.2.2.2.2.2.2.2.2.1,r_2.2.2.2.2.2.2.2.2.2.2.2.1,r_2.2.2.2.2.2.2.2.2.2.2.2.2.1),r_2.1)))))
 ((eI p0 i1.2.2.2.2).bind λt39 =>
 (ep i1.2.2.2.2).bind λt47 =>
 (aX (162,i1.2.1,t39.2.1,t39.2.2,t47)).bind λt98_3 =>
 cond t98_3
 (some (t39.1,(162,i1.2.1,t39.2.1,t39.2.2,t47),true))
 ((loop (λz=>o8 i1 z.1 z.2.1 z.2.2.1 z.2.2.2.1 z.2.2.2.2.1 z.2.2.2.2.2.1 z.2.2.2.2.2.2.1 z.2.2.2.2.2.2.2.1 z.2.2.2.2.2.2.2.2.1 z.2.2.2.2.2.2.2.2.2.1 z.2.2.2.2.2.2.2.2.2.2.1 z.2.2.2.2.2.2.2.2.2.2.2.1 z.2.2.2.2.2.2.2.2.2.2.2.2.1 z.2.2.2.2.2.2.2.2.2.2.2.2.2.1 z.2.2.2.2.2.2.2.2.2.2.2.2.2.2.1 z.2.2.2.2.2.2.2.2.2.2.2.2.2.2.2.1 z.2.2.2.2.2.2.2.2.2.2.2.2.2.2.2.2.1 z.2.2.2.2.2.2.2.2.2.2.2.2.2.2.2.2.2.1 z.2.2.2.2.2.2.2.2.2.2.2.2.2.2.2.2.2.2.1 z.2.2.2.2.2.2.2.2.2.2.2.2.2.2.2.2.2.2.2.1 z.2.2.2.2.2.2.2.2.2.2.2.2.2.2.2.2.2.2.2.2.1 z.2.2.2.2.2.2.2.2.2.2.2.2.2.2.2.2.2.2.2.2.2.1 z.2.2.2.2.2.2.2.2.2.2.2.2.2.2.2.2.2.2.2.2.2.2.1 z.2.2.2.2.2.2.2.2.2.2.2.2.2.2.2.2.2.2.2.2.2.2.2.1 z.2.2.2.2.2.2.2.2.2.2.2.2.2.2.2.2.2.2.2.2.2.2.2.2.1 z.2.2.2.2.2.2.2.2.2.2.2.2.2.2.2.2.2.2.2.2.2.2.2.2.2.1 z.2.2.2.2.2.2.2.2.2.2.2.2.2.2.2.2.2.2.2.2.2.2.2.2.2.2.1 z.2.2.2.2.2.2.2.2.2.2.2.2.2.2.2.2.2.2.2.2.2.2.2.2.2.2.2.1 z.2.2.2.2.2.2.2.2.2.2.2.2.2.2.2.2.2.2.2.2.2.2.2.2.2.2.2.2.1 z.2.2.2.2.2.2.2.2.2.2.2.2.2.2.2.2.2.2.2.2.2.2.2.2.2.2.2.2.2.1 z.2.2.2.2.2.2.2.2.2.2.2.2.2.2.2.2.2.2.2.2.2.2.2.2.2.2.2.2.2.2.1 z.2.2.2.2.2.2.2.2.2.2.2.2.2.2.2.2.2.2.2.2.2.2.2.2.2.2.2.2.2.2.2) (0,[],0,0,0,0,0,0,0,0,0,t39.1.1,t39.1.2.1,t39.1.2.2.2.2.2.2.1,t39.1.2.2.2.2.2.2.2.1,t39.1.2.2.2.2.2.2.2.2.1,t39.1.2.2.2.2.2.2.2.2.2.1,t39.1.2.2.2.2.2.2.2.2.2.2,162,i1.2.1,t39.2.1,t39.2.2,t47,[],[],[],[],[],t39.1.2.2.1,t39.1.2.2.2.1,t39.1.2.2.2.2.1,t39.1.2.2.2.2.2.1)).bind (Sum.elim (λd_5 =>
 (ak p0).bind λt123_3 =>
 some (t123_3,(162,i1.2.1,7,0,[]),true)) (λr_3=>some ((r_3.2.1,r_3.2.2.1,r_3.2.2.2.2.2.2.2.2.2.2.2.2.2.1,r_3.2.2.2.2.2.2.2.2.2.2.2.2.2.2.1,r_3.2.2.2.2.2.2.2.2.2.2.2.2.2.2.2.1,r_3.2.2.2.2.2.2.2.2.2.2.2.2.2.2.2.2,r_3.2.2.2.1,r_3.2.2.2.2.1,r_3.2.2.2.2.2.1,r_3.2.2.2.2.2.2.1,r_3.2.2.2.2.2.2.2.1),(r_3.2.2.2.2.2.2.2.2.1,r_3.2.2.2.2.2.2.2.2.2.1,r_3.2.2.2.2.2.2.2.2.2.2.1,r_3.2.2.2.2.2.2.2.2.2.2.2.1,r_3.2.2.2.2.2.2.2.2.2.2.2.2.1),r_3.1))))))))
def o9:FL:=(13,⟨[.val true uR false,.val true wQ false],[.val true uR (some true),.val true wQ none,.val false vr (some true)],λa=>dv a.1 a.2⟩)::o4
theorem tL:Gd o9:=uK tK 13 Tryz.f13 [(1,⟨⟨[(54,false,[dI])],[(1052672,.box [dI,dI,dI,dI,.own 1000001000]),(1000001000,.root uU false)]⟩,
 ⟨[],[(1052672,.box [dI,dI,dI,dI,.own 1000001300]),(1000001300,.root uU false)]⟩,none⟩),
 (3,⟨⟨[(77,false,[dI])],[(1052672,.box [dI,dI,dI,dI,.own 1000003000]),(1000003000,.root uU false)]⟩,
 ⟨[],[(1052672,.box [dI,dI,dI,dI,.own 1000003300]),(1000003300,.root uU false)]⟩,none⟩),
 (5,⟨⟨us 105 4 [],[(3072,.box [dI,dS,.own 1000005000,.own 1000005001,.own 1000005002,.own 1000005003,dI,dI,dI,dI,dI]),(4096,.box [dI,dI,dI,dI,.own 1000005004]),(265216,.box [dI,dS,.own 1000005005,.own 1000005006,.own 1000005007,.own 1000005008,dI,dI,dI,dI,dI]),(1052672,.box [dI,dI,dI,dI,.dat (.sl uU)]),(1000005000,.root wX true),(1000005001,.root uY true),(1000005002,.root vI true),(1000005003,.root uI true),(1000005004,.root uU true),(1000005005,.root wX true),(1000005006,.root uY true),(1000005007,.root vI true),(1000005008,.root uI true)]⟩,
 ⟨[],[(3072,.box [dI,dS,.own 1000005300,.own 1000005301,.own 1000005302,.own 1000005303,dI,dI,dI,dI,dI]),(4096,.box [dI,dI,dI,dI,.own 1000005304]),(265216,.box [dI,dS,.own 1000005305,.own 1000005306,.own 1000005307,.own 1000005308,dI,dI,dI,dI,dI]),(1052672,.box [dI,dI,dI,dI,.dat (.sl uU)]),(1000005300,.root wX true),(1000005301,.root uY true),(1000005302,.root vI true),(1000005303,.root uI true),(1000005304,.root uU true),(1000005305,.root wX true),(1000005306,.root uY true),(1000005307,.root vI true),(1000005308,.root uI true)]⟩,some ⟨[(6,false,[dB])],[(3072,.box [dI,dS,.own 1000005600,.own 1000005601,.own 1000005602,.own 1000005603,dI,dI,dI,dI,dI]),(4096,.box [dI,dI,dI,dI,.dat (.sl uU)]),(1000005600,.root wX true),(1000005601,.root uY true),(1000005602,.root vI true),(1000005603,.root uI true)]⟩⟩)] Tryz.func13
def gk (p0:v9):Option v9 :=
 (ep p0.2.2.2.2).bind λt8 =>
 (aX (162,p0.2.1,6,1,t8)).bind λt11 =>
 cond (!t11) (some (162,p0.2.1,7,0,[])) (some (162,p0.2.1,6,1,t8))
def oa:FL:=(315,⟨[.val true wQ false],[.val true wQ (some true)],λa=>gk a⟩)::o9
theorem tM:Gd oa:=uK tL 315 Tryz.f315 [] Tryz.func315
def gl (p0:uN) (i1:Int):Option (uN×List wa) :=
 (ix p0.2.2.2.2.2.2.2.2.2.2.2.2.1.length i1).bind λj12 =>
 (p0.2.2.2.2.2.2.2.2.2.2.2.2.1[j12]?).bind λx13 =>
 cond (x13.2.2.2.1 != 163)
 ((dv (x13.2.2.2.2.2.2.2.2.1,x13.2.2.2.2.2.2.2.2.2.1,x13.2.2.2.2.2.2.2.2.2.2.1,x13.2.2.2.2.2.2.2.2.2.2.2.1,x13.2.2.2.2.2.2.2.2.2.2.2.2.1,x13.2.2.2.2.2.2.2.2.2.2.2.2.2.1,x13.2.2.2.2.2.2.2.2.2.2.2.2.2.2.1,x13.2.2.2.2.2.2.2.2.2.2.2.2.2.2.2.1,x13.2.2.2.2.2.2.2.2.2.2.2.2.2.2.2.2.1,x13.2.2.2.2.2.2.2.2.2.2.2.2.2.2.2.2.2.1,x13.2.2.2.2.2.2.2.2.2.2.2.2.2.2.2.2.2.2.1) (x13.2.2.2.1,x13.2.2.2.2.1,x13.2.2.2.2.2.1,x13.2.2.2.2.2.2.1,x13.2.2.2.2.2.2.2.1)).bind λt41 =>
 (cm p0 i1).bind λt81 =>
 some (t81,[(x13.1,t41.2.1.1,t41.2.1.2.1,t41.2.1.2.2.1,t41.2.1.2.2.2.1,t41.2.1.2.2.2.2)]))
 (let t46:=p0.2.2.2.2.2.2.2.2.2.2.1==x13.2.2.2.2.2.2.2.2.2.2.2.2.2.2.2.2.2.2.1
 cond t46
 ((dv (p0.1,p0.2.1,p0.2.2.1,p0.2.2.2.1,p0.2.2.2.2.1,p0.2.2.2.2.2.1,p0.2.2.2.2.2.2.1,p0.2.2.2.2.2.2.2.1,p0.2.2.2.2.2.2.2.2.1,p0.2.2.2.2.2.2.2.2.2.1,p0.2.2.2.2.2.2.2.2.2.2.1) (x13.2.2.2.1,x13.2.2.2.2.1,x13.2.2.2.2.2.1,x13.2.2.2.2.2.2.1,x13.2.2.2.2.2.2.2.1)).bind λt64 =>
 (cm (t64.1.1,t64.1.2.1,t64.1.2.2.1,t64.1.2.2.2.1,t64.1.2.2.2.2.1,t64.1.2.2.2.2.2.1,t64.1.2.2.2.2.2.2.1,t64.1.2.2.2.2.2.2.2.1,t64.1.2.2.2.2.2.2.2.2.1,t64.1.2.2.2.2.2.2.2.2.2.1,t64.1.2.2.2.2.2.2.2.2.2.2,p0.2.2.2.2.2.2.2.2.2.2.2.1,p0.2.2.2.2.2.2.2.2.2.2.2.2.1,p0.2.2.2.2.2.2.2.2.2.2.2.2.2.1,p0.2.2.2.2.2.2.2.2.2.2.2.2.2.2) i1).bind λt81_1 =>
 some (t81_1,[(x13.1,t64.2.1.1,t64.2.1.2.1,t64.2.1.2.2.1,t64.2.1.2.2.2.1,t64.2.1.2.2.2.2)]))
 (let t71:=decide (x13.2.2.2.2.2.2.2.2.2.2.2.2.2.2.2.2.2.2.2.2>=3)
 cond t71
 ((gk (x13.2.2.2.1,x13.2.2.2.2.1,x13.2.2.2.2.2.1,x13.2.2.2.2.2.2.1,x13.2.2.2.2.2.2.2.1)).bind λt77 =>
 (cm p0 i1).bind λt81_2 =>
 some (t81_2,[(x13.1,t77.1,t77.2.1,t77.2.2.1,t77.2.2.2.1,t77.2.2.2.2)]))
 ((ix p0.2.2.2.2.2.2.2.2.2.2.2.2.1.length i1).bind λj22 =>
 (p0.2.2.2.2.2.2.2.2.2.2.2.2.1[j22]?).bind λx24 =>
 (ix p0.2.2.2.2.2.2.2.2.2.2.2.2.1.length i1).bind λj26 =>
 (p0.2.2.2.2.2.2.2.2.2.2.2.2.1[j26]?).bind λx =>
 (fV (p0.1,p0.2.1,p0.2.2.1,p0.2.2.2.1,p0.2.2.2.2.1,p0.2.2.2.2.2.1,p0.2.2.2.2.2.2.1,p0.2.2.2.2.2.2.2.1,p0.2.2.2.2.2.2.2.2.1,p0.2.2.2.2.2.2.2.2.2.1,p0.2.2.2.2.2.2.2.2.2.2.1,p0.2.2.2.2.2.2.2.2.2.2.2.1,p0.2.2.2.2.2.2.2.2.2.2.2.2.1.set j26 (x.1,x.2.1,x.2.2.1,x.2.2.2.1,x.2.2.2.2.1,x.2.2.2.2.2.1,x.2.2.2.2.2.2.1,x.2.2.2.2.2.2.2.1,x.2.2.2.2.2.2.2.2.1,x.2.2.2.2.2.2.2.2.2.1,x.2.2.2.2.2.2.2.2.2.2.1,x.2.2.2.2.2.2.2.2.2.2.2.1,x.2.2.2.2.2.2.2.2.2.2.2.2.1,x.2.2.2.2.2.2.2.2.2.2.2.2.2.1,x.2.2.2.2.2.2.2.2.2.2.2.2.2.2.1,x.2.2.2.2.2.2.2.2.2.2.2.2.2.2.2.1,x.2.2.2.2.2.2.2.2.2.2.2.2.2.2.2.2.1,x.2.2.2.2.2.2.2.2.2.2.2.2.2.2.2.2.2.1,x.2.2.2.2.2.2.2.2.2.2.2.2.2.2.2.2.2.2.1,x.2.2.2.2.2.2.2.2.2.2.2.2.2.2.2.2.2.2.2.1,uB (x24.2.2.2.2.2.2.2.2.2.2.2.2.2.2.2.2.2.2.2.2+1)),p0.2.2.2.2.2.2.2.2.2.2.2.2.2.1,p0.2.2.2.2.2.2.2.2.2.2.2.2.2.2) i1).bind λt30 =>
 some (t30,[]))))
def ob:FL:=(235,⟨[.ptr vO (some true),.val false uI false],[.val false (.one (.sl yW)) none],λa=>gl a.1 a.2⟩)::oa
theorem tN:Gd ob:=uK tM 235 Tryz.f235 [] Tryz.func235
def eg (a0:uN) (k1:Int):Option (uN×List wa) :=
 (ix a0.2.2.2.2.2.2.2.2.2.2.2.2.1.length k1).bind λj11 =>
 (a0.2.2.2.2.2.2.2.2.2.2.2.2.1[j11]?).bind λx19 =>
 cond (x19.2.2.1==0)
 ((fW a0 k1).bind λt23 =>
 some (t23,[]))
 ((a0.2.2.2.2.2.2.2.2.2.2.2.2.1[j11]?).bind λx28 =>
 cond (x28.2.2.1==2)
 ((gl a0 k1).bind λt32 =>
 some t32)
 ((a0.2.2.2.2.2.2.2.2.2.2.2.2.1[j11]?).bind λx37 =>
 (a0.2.2.2.2.2.2.2.2.2.2.2.2.1[j11]?).bind λx42 =>
 let t33:=decide (x37.2.2.2.2.2.2.2.2.2.2.2.2.2.2.2.2.2.2.2.1<(x42.2.2.2.2.2.2.2.1.length:Int))
 cond t33
 ((a0.2.2.2.2.2.2.2.2.2.2.2.2.1[j11]?).bind λx48 =>
 (a0.2.2.2.2.2.2.2.2.2.2.2.2.1[j11]?).bind λx =>
 some ((a0.1,a0.2.1,a0.2.2.1,a0.2.2.2.1,a0.2.2.2.2.1,a0.2.2.2.2.2.1,a0.2.2.2.2.2.2.1,a0.2.2.2.2.2.2.2.1,a0.2.2.2.2.2.2.2.2.1,a0.2.2.2.2.2.2.2.2.2.1,a0.2.2.2.2.2.2.2.2.2.2.1,a0.2.2.2.2.2.2.2.2.2.2.2.1,a0.2.2.2.2.2.2.2.2.2.2.2.2.1.set j11 (x.1,x.2.1,x.2.2.1,x.2.2.2.1,x.2.2.2.2.1,x.2.2.2.2.2.1,x.2.2.2.2.2.2.1,x.2.2.2.2.2.2.2.1,x.2.2.2.2.2.2.2.2.1,x.2.2.2.2.2.2.2.2.2.1,x.2.2.2.2.2.2.2.2.2.2.1,x.2.2.2.2.2.2.2.2.2.2.2.1,x.2.2.2.2.2.2.2.2.2.2.2.2.1,x.2.2.2.2.2.2.2.2.2.2.2.2.2.1,x.2.2.2.2.2.2.2.2.2.2.2.2.2.2.1,x.2.2.2.2.2.2.2.2.2.2.2.2.2.2.2.1,x.2.2.2.2.2.2.2.2.2.2.2.2.2.2.2.2.1,x.2.2.2.2.2.2.2.2.2.2.2.2.2.2.2.2.2.1,x.2.2.2.2.2.2.2.2.2.2.2.2.2.2.2.2.2.2.1,uB (x48.2.2.2.2.2.2.2.2.2.2.2.2.2.2.2.2.2.2.2.1+1),x.2.2.2.2.2.2.2.2.2.2.2.2.2.2.2.2.2.2.2.2),a0.2.2.2.2.2.2.2.2.2.2.2.2.2.1,a0.2.2.2.2.2.2.2.2.2.2.2.2.2.2),[]))
 ((a0.2.2.2.2.2.2.2.2.2.2.2.2.1[j11]?).bind λx_1 =>
 some ((a0.1,a0.2.1,a0.2.2.1,a0.2.2.2.1,a0.2.2.2.2.1,a0.2.2.2.2.2.1,a0.2.2.2.2.2.2.1,a0.2.2.2.2.2.2.2.1,a0.2.2.2.2.2.2.2.2.1,a0.2.2.2.2.2.2.2.2.2.1,a0.2.2.2.2.2.2.2.2.2.2.1,a0.2.2.2.2.2.2.2.2.2.2.2.1,a0.2.2.2.2.2.2.2.2.2.2.2.2.1.set j11 (x_1.1,x_1.2.1,2,x_1.2.2.2.1,x_1.2.2.2.2.1,x_1.2.2.2.2.2.1,x_1.2.2.2.2.2.2.1,x_1.2.2.2.2.2.2.2.1,x_1.2.2.2.2.2.2.2.2.1,x_1.2.2.2.2.2.2.2.2.2.1,x_1.2.2.2.2.2.2.2.2.2.2.1,x_1.2.2.2.2.2.2.2.2.2.2.2.1,x_1.2.2.2.2.2.2.2.2.2.2.2.2.1,x_1.2.2.2.2.2.2.2.2.2.2.2.2.2.1,x_1.2.2.2.2.2.2.2.2.2.2.2.2.2.2.1,x_1.2.2.2.2.2.2.2.2.2.2.2.2.2.2.2.1,x_1.2.2.2.2.2.2.2.2.2.2.2.2.2.2.2.2.1,x_1.2.2.2.2.2.2.2.2.2.2.2.2.2.2.2.2.2.1,x_1.2.2.2.2.2.2.2.2.2.2.2.2.2.2.2.2.2.2.1,x_1.2.2.2.2.2.2.2.2.2.2.2.2.2.2.2.2.2.2.2.1,x_1.2.2.2.2.2.2.2.2.2.2.2.2.2.2.2.2.2.2.2.2),a0.2.2.2.2.2.2.2.2.2.2.2.2.2.1,a0.2.2.2.2.2.2.2.2.2.2.2.2.2.2),[]))))
def oc:FL:=(132,⟨[.ptr vO (some true),.val false uI false],[.val false (.one (.sl yW)) none],λa=>eg a.1 a.2⟩)::ob
theorem tO:Gd oc:=uK tN 132 Tryz.f132 [] Tryz.func132
def ct (b0:uz) (port1:Int):Option Bool :=
 (aS b0).bind λt6 =>
 (cond t6
 ((ac port1 0 (uB ((b0.2.2.1.length:Int)-1))).bind λt13 =>
 some t13)
 (some false)).bind λt14 =>
 some t14
def od:FL:=(303,⟨[.val true uR false,.val false uI false],[.val false vr (some true)],λa=>ct a.1 a.2⟩)::oc
theorem tP:Gd od:=uK tO 303 Tryz.f303 [] Tryz.func303
def iE (f0:zi):Option Bool :=
 (ac f0.1 0 9999).bind λt5 =>
 (cond t5
 ((ac f0.2.1 1 9999).bind λt9 =>
 some t9)
 (some false)).bind λt10 =>
 (cond t10
 ((ac f0.2.2.1 0 99).bind λt14 =>
 some t14)
 (some false)).bind λt15 =>
 (cond t15 (some (decide ((f0.2.2.2.length:Int)<=20))) (some false)).bind λt21 =>
 some t21
def oe:FL:=(304,⟨[.val true AN false],[.val false vr (some true)],λa=>iE a⟩)::od
theorem tQ:Gd oe:=uK tP 304 Tryz.f304 [] Tryz.func304
def iF (v0:vv) (port1:Int) (tag2:Int):Option (Int×Bool) :=
 (ac port1 0 (uB ((v0.2.length:Int)-1))).bind λt15 =>
 cond (!t15)
 (some (0,false))
 (cond (tag2==0)
 ((at? v0.2 port1).bind λx23 =>
 (aj v0 x23).bind λt27 =>
 (cond (decide (t27<0))
 (some true)
 ((at? v0.1 t27).bind λx34 =>
 (ba x34.2.1 port1).bind λt38 =>
 some (!t38))).bind λt40 =>
 cond t40 (some (0,false)) (some (x23,true)))
 ((aj v0 tag2).bind λt27_1 =>
 (cond (decide (t27_1<0))
 (some true)
 ((at? v0.1 t27_1).bind λx34_1 =>
 (ba x34_1.2.1 port1).bind λt38_1 =>
 some (!t38_1))).bind λt40_1 =>
 cond t40_1 (some (0,false)) (some (tag2,true))))
def og:FL:=(305,⟨[.val true wL false,.val false uI false,.val false uI false],[.val false uI (some true),.val false vr (some true)],λa=>iF a.1 a.2.1 a.2.2⟩)::oe
theorem tR:Gd og:=uK tQ 305 Tryz.f305 [] Tryz.func305
def eJ (l0:List uF) (e1:uF) (k8:Int):Option (Int⊕Int) :=
 (cond (decide (k8<(l0.length:Int)))
 ((at? l0 k8).bind λx35 =>
 (ej x35 e1.1 e1.2.1).bind λt41 =>
 some (!t41))
 (some false)).bind λt43 =>
 cond t43 (some (.inl (uB (k8+1)))) (some (.inr k8))
def gm (l0:List uF) (e1:uF):Option ((List uF)×Bool) :=
 (ch l0).bind λt10 =>
 (dt l0 e1.1 e1.2.1).bind λt16 =>
 cond (decide (t16>=0))
 ((ix t10.length t16).bind λj22 =>
 (t10[j22]?).bind λx =>
 some (t10.set j22 e1,true))
 (cond (decide ((l0.length:Int)>=12))
 (some (t10,false))
 ((loop (λz=>eJ l0 e1 z) 0).bind λd =>
 (cut l0 0 d).bind λt48 =>
 (ch t48).bind λt49 =>
 (uV t49 [e1]).bind λzs52 =>
 (cut l0 d (l0.length:Int)).bind λt55 =>
 (uV zs52 t55).bind λzs56 =>
 some (zs56,true)))
def oh:FL:=(349,⟨[.val false (.one (.sl uY)) false,.val true uY false],[.val false (.one (.sl uY)) (some true),.val false vr (some true)],λa=>gm a.1 a.2⟩)::og
theorem tS:Gd oh:=uK tR 349 Tryz.f349 [(0,⟨⟨(8,false,[dI])::us 33 10 [],[]⟩,
 ⟨[(8,false,[dI])],[]⟩,none⟩)] Tryz.func349
def iG (l0:List uF) (tag1:Int) (mac2:Int) (port3:Int):Option (List uF) :=
 (dt l0 tag1 mac2).bind λt20 =>
 (fP l0).bind λt22 =>
 (cond (!t22)
 (some true)
 ((cZ (tag1,mac2,port3,0,false)).bind λt26 =>
 some (!t26))).bind λt28 =>
 (cond t28
 (some true)
 ((cond (decide (t20>=0))
 ((at? l0 t20).bind λx35 =>
 some x35.2.2.2.2)
 (some false)).bind λt38 =>
 some t38)).bind λt39 =>
 cond t39
 ((ch l0).bind λt41 =>
 some t41)
 ((gm l0 (tag1,mac2,port3,0,false)).bind λt45 =>
 some t45.1)
def oi:FL:=(306,⟨[.val false (.one (.sl uY)) false,.val false uI false,.val false uI false,.val false uI false],[.val false (.one (.sl uY)) (some true)],λa=>iG a.1 a.2.1 a.2.2.1 a.2.2.2⟩)::oh
theorem tT:Gd oi:=uK tS 306 Tryz.f306 [] Tryz.func306
def iH (l0:List uF) (tag1:Int) (mac2:Int):Option Int :=
 (dt l0 tag1 mac2).bind λt11 =>
 cond (decide (t11<0))
 (some (-1))
 ((at? l0 t11).bind λx16 =>
 some x16.2.2.1)
def oj:FL:=(307,⟨[.val false (.one (.sl uY)) false,.val false uI false,.val false uI false],[.val false uI (some true)],λa=>iH a.1 a.2.1 a.2.2⟩)::oi
theorem tU:Gd oj:=uK tT 307 Tryz.f307 [] Tryz.func307
def eK (v0:vv) (id1:Int):Option Int :=
 (aj v0 id1).bind λt8 =>
 cond (decide (t8<0))
 (some 0)
 ((at? v0.1 t8).bind λx14 =>
 some x14.2.1)
def om:FL:=(308,⟨[.val true wL false,.val false uI false],[.val false uI (some true)],λa=>eK a.1 a.2⟩)::oj
theorem tV:Gd om:=uK tU 308 Tryz.f308 [] Tryz.func308
def eL (f0:zi) (tag1:Int):Option zi :=
 (bu f0.2.2.2).bind λt7 =>
 some (f0.1,f0.2.1,tag1,t7)
def oo:FL:=(309,⟨[.val true AN false,.val false uI false],[.val true AN (some true)],λa=>eL a.1 a.2⟩)::om
theorem tW:Gd oo:=uK tV 309 Tryz.f309 [] Tryz.func309
def eM (v0:vv) (id1:Int) (port2:Int):Option Int :=
 (aj v0 id1).bind λt10 =>
 (cond (decide (t10<0))
 (some true)
 ((at? v0.1 t10).bind λx17 =>
 (ba x17.2.2 port2).bind λt21 =>
 some t21)).bind λt22 =>
 cond t22 (some 0) (some id1)
def oq:FL:=(310,⟨[.val true wL false,.val false uI false,.val false uI false],[.val false uI (some true)],λa=>eM a.1 a.2.1 a.2.2⟩)::oo
theorem tX:Gd oq:=uK tW 310 Tryz.f310 [] Tryz.func310
def eN (p0:uz) (i1:Int) (a2:zi) (t31:Int) (t38:Int×Bool) (t74:Int) (t78:Int) (t13:List vZ):Option ((Int×List vZ)⊕(List vZ)) :=
 cond (decide (t78<(p0.2.2.1.length:Int)))
 ((cond (t78 != i1)
 ((eK (p0.2.2.2.2.1,p0.2.2.2.2.2.1) t38.1).bind λt89 =>
 (ba (xO .i64 t31 t89) t78).bind λt92 =>
 some t92)
 (some false)).bind λt93 =>
 (cond t93
 ((cond (decide (t74<0)) (some true) (some (t74==t78))).bind λt101 =>
 some t101)
 (some false)).bind λt102 =>
 cond t102
 ((eM (p0.2.2.2.2.1,p0.2.2.2.2.2.1) t38.1 t78).bind λt110 =>
 (eL a2 t110).bind λt111 =>
 (uV t13 [(t78,t111.1,t111.2.1,t111.2.2.1,t111.2.2.2)]).bind λzs114 =>
 some (.inl (uB (t78+1),zs114)))
 (some (.inl (uB (t78+1),t13))))
 (some (.inr t13))
def eO (p0:uz) (i1:Int) (a2:zi) (t31:Int) (t38:Int×Bool) (t78_1:Int) (t13_2:List vZ):Option ((Int×List vZ)⊕(List vZ)) :=
 cond (decide (t78_1<(p0.2.2.1.length:Int)))
 ((cond (t78_1 != i1)
 ((eK (p0.2.2.2.2.1,p0.2.2.2.2.2.1) t38.1).bind λt89_1 =>
 (ba (xO .i64 t31 t89_1) t78_1).bind λt92_1 =>
 some t92_1)
 (some false)).bind λt93_1 =>
 (cond t93_1
 ((cond (decide ((-1)<0)) (some true) (some ((-1)==t78_1))).bind λt101_1 =>
 some t101_1)
 (some false)).bind λt102_1 =>
 cond t102_1
 ((eM (p0.2.2.2.2.1,p0.2.2.2.2.2.1) t38.1 t78_1).bind λt110_1 =>
 (eL a2 t110_1).bind λt111_1 =>
 (uV t13_2 [(t78_1,t111_1.1,t111_1.2.1,t111_1.2.2.1,t111_1.2.2.2)]).bind λzs114_1 =>
 some (.inl (uB (t78_1+1),zs114_1)))
 (some (.inl (uB (t78_1+1),t13_2))))
 (some (.inr t13_2))
def eP (p0:uz) (i1:Int) (a2:zi):Option (uz×List vZ) :=
 (ak p0).bind λt16 =>
 (ct p0 i1).bind λt19 =>
 (cond (!t19)
 (some true)
 ((iE a2).bind λt23 =>
 some (!t23))).bind λt25 =>
 cond t25
 (some (t16,[]))
 ((ge p0.1 p0.2.2.1).bind λt31 =>
 (iF (p0.2.2.2.2.1,p0.2.2.2.2.2.1) i1 a2.2.2.1).bind λt38 =>
 (ba t31 i1).bind λt43 =>
 (cond (!t43) (some true) (some (!t38.2))).bind λt48 =>
 cond t48
 ((aD p0.2.2.2.2.2.2.2.2.2.1).bind λt51 =>
 some ((t16.1,t16.2.1,t16.2.2.1,t16.2.2.2.1,t16.2.2.2.2.1,t16.2.2.2.2.2.1,t16.2.2.2.2.2.2.1,t16.2.2.2.2.2.2.2.1,t16.2.2.2.2.2.2.2.2.1,t51,t16.2.2.2.2.2.2.2.2.2.2),[]))
 ((iG p0.2.2.2.1 t38.1 a2.2.1 i1).bind λt60 =>
 (aD p0.2.2.2.2.2.2.2.2.2.2).bind λt64 =>
 cond (a2.1 != 0)
 ((iH t60 t38.1 a2.1).bind λt74 =>
 (loop (λz=>eN p0 i1 a2 t31 t38 t74 z.1 z.2) (0,[])).bind λd =>
 some ((t16.1,t16.2.1,t16.2.2.1,t60,t16.2.2.2.2.1,t16.2.2.2.2.2.1,t16.2.2.2.2.2.2.1,t16.2.2.2.2.2.2.2.1,t16.2.2.2.2.2.2.2.2.1,t16.2.2.2.2.2.2.2.2.2.1,t64),d))
 ((loop (λz=>eO p0 i1 a2 t31 t38 z.1 z.2) (0,[])).bind λd_1 =>
 some ((t16.1,t16.2.1,t16.2.2.1,t60,t16.2.2.2.2.1,t16.2.2.2.2.2.1,t16.2.2.2.2.2.2.1,t16.2.2.2.2.2.2.2.1,t16.2.2.2.2.2.2.2.2.1,t16.2.2.2.2.2.2.2.2.2.1,t64),d_1))))
def ot:FL:=(216,⟨[.val true uR false,.val false uI false,.val true AN false],[.val true uR (some true),.val false (.one (.sl AZ)) (some true)],λa=>eP a.1 a.2.1 a.2.2⟩)::oq
theorem tY:Gd ot:=uK tX 216 Tryz.f216 [(0,⟨⟨(13,false,[.own 1000000000])::(78,false,[dI])::us 85 8 (us 95 7 []),[(1000000000,.root AZ true)]⟩,
 ⟨[(13,false,[.own 1000000300])],[(1000000300,.root AZ true)]⟩,none⟩)] Tryz.func216
def eQ (b0:uz) (port1:Int) (v2:Ah):Option uz :=
 (ak b0).bind λt9 =>
 (ct b0 port1).bind λt12 =>
 (cond t12
 ((at? b0.2.2.1 port1).bind λx17 =>
 some x17.1)
 (some false)).bind λt20 =>
 (cond t20
 ((ci v2).bind λt23 =>
 some t23)
 (some false)).bind λt24 =>
 cond t24
 ((ix t9.2.2.1.length port1).bind λj32 =>
 (t9.2.2.1[j32]?).bind λx =>
 (ix (t9.2.2.1.set j32 (x.1,x.2.1,true,x.2.2.2.1,x.2.2.2.2.1,x.2.2.2.2.2.1,x.2.2.2.2.2.2.1,x.2.2.2.2.2.2.2)).length port1).bind λj34 =>
 ((t9.2.2.1.set j32 (x.1,x.2.1,true,x.2.2.2.1,x.2.2.2.2.1,x.2.2.2.2.2.1,x.2.2.2.2.2.2.1,x.2.2.2.2.2.2.2))[j34]?).bind λx_1 =>
 (aM (t9.1,t9.2.1,(t9.2.2.1.set j32 (x.1,x.2.1,true,x.2.2.2.1,x.2.2.2.2.1,x.2.2.2.2.2.1,x.2.2.2.2.2.2.1,x.2.2.2.2.2.2.2)).set j34 (x_1.1,x_1.2.1,x_1.2.2.1,v2.1,v2.2.1,v2.2.2.1,v2.2.2.2.1,v2.2.2.2.2),t9.2.2.2.1,t9.2.2.2.2.1,t9.2.2.2.2.2.1,t9.2.2.2.2.2.2.1,t9.2.2.2.2.2.2.2.1,t9.2.2.2.2.2.2.2.2.1,t9.2.2.2.2.2.2.2.2.2.1,t9.2.2.2.2.2.2.2.2.2.2)).bind λt36 =>
 some t36)
 (some t9)
def ou:FL:=(217,⟨[.val true uR false,.val false uI false,.val true zy false],[.val true uR (some true)],λa=>eQ a.1 a.2.1 a.2.2⟩)::ot
theorem tZ:Gd ou:=uK tY 217 Tryz.f217 [] Tryz.func217
def eR (b0:uz) (port1:Int) (up2:Bool):Option uz :=
 (ak b0).bind λt9 =>
 (ct b0 port1).bind λt12 =>
 cond t12
 ((at? b0.2.2.1 port1).bind λx20 =>
 (ix t9.2.2.1.length port1).bind λj24 =>
 (t9.2.2.1[j24]?).bind λx =>
 (aM (t9.1,t9.2.1,t9.2.2.1.set j24 (up2,x20.2.1,false,0,0,0,0,0),t9.2.2.2.1,t9.2.2.2.2.1,t9.2.2.2.2.2.1,t9.2.2.2.2.2.2.1,t9.2.2.2.2.2.2.2.1,t9.2.2.2.2.2.2.2.2.1,t9.2.2.2.2.2.2.2.2.2.1,t9.2.2.2.2.2.2.2.2.2.2)).bind λt25 =>
 some t25)
 (some t9)
def ov:FL:=(218,⟨[.val true uR false,.val false uI false,.val false vr false],[.val true uR (some true)],λa=>eR a.1 a.2.1 a.2.2⟩)::ou
theorem u0:Gd ov:=uK tZ 218 Tryz.f218 [] Tryz.func218
def dw (l0:List uF) (t8:Int) (out3:List uF):Option ((Int×List uF)⊕(List uF)) :=
 cond (decide (t8<(l0.length:Int)))
 ((at? l0 t8).bind λx10 =>
 cond (!x10.2.2.2.2)
 (cond (decide (x10.2.2.2.1>=4))
 (some (.inl (uB (t8+1),out3)))
 ((uV out3 [(x10.1,x10.2.1,x10.2.2.1,uB (x10.2.2.2.1+1),x10.2.2.2.2)]).bind λzs25 =>
 some (.inl (uB (t8+1),zs25))))
 ((uV out3 [x10]).bind λzs25_1 =>
 some (.inl (uB (t8+1),zs25_1))))
 (some (.inr out3))
def iI (l0:List uF):Option (List uF) :=
 (loop (λz=>dw l0 z.1 z.2) (0,[])).bind λd =>
 some d
def ow:FL:=(311,⟨[.val false (.one (.sl uY)) false],[.val false (.one (.sl uY)) (some true)],λa=>iI a⟩)::ov
theorem u4:Gd ow:=uK u0 311 Tryz.f311 [(0,⟨⟨[(3,false,[.own 1000000000]),(8,false,[dI])],[(1000000000,.root uY true)]⟩,
 ⟨[(3,false,[.own 1000000300])],[(1000000300,.root uY true)]⟩,none⟩)] Tryz.func311
def eS (b0:uz):Option uz :=
 (ak b0).bind λt5 =>
 (aS b0).bind λt7 =>
 cond t7
 ((aD b0.2.2.2.2.2.2.1).bind λt10 =>
 (iI b0.2.2.2.1).bind λt14 =>
 (aM (t5.1,t5.2.1,t5.2.2.1,t14,t5.2.2.2.2.1,t5.2.2.2.2.2.1,t10,t5.2.2.2.2.2.2.2.1,t5.2.2.2.2.2.2.2.2.1,t5.2.2.2.2.2.2.2.2.2.1,t5.2.2.2.2.2.2.2.2.2.2)).bind λt16 =>
 some t16)
 (some t5)
def ox:FL:=(219,⟨[.val true uR false],[.val true uR (some true)],λa=>eS a⟩)::ow
theorem u5:Gd ox:=uK u4 219 Tryz.f219 [] Tryz.func219
def cf (p0:uN) (i1:Act):Option (uN×(List vZ)×List wa) :=
 cond (i1.1==1)
 ((bv p0 i1.2.2.2.1).bind λt18 =>
 some (t18,[],[]))
 (cond (i1.1==2)
 ((ac i1.2.1 0 (uB ((p0.2.2.2.2.2.2.2.2.2.2.2.2.1.length:Int)-1))).bind λt30 =>
 cond t30
 ((eg p0 i1.2.1).bind λt34 =>
 some (t34.1,[],t34.2))
 (some (p0,[],[])))
 (cond (i1.1==3)
 ((eP (p0.1,p0.2.1,p0.2.2.1,p0.2.2.2.1,p0.2.2.2.2.1,p0.2.2.2.2.2.1,p0.2.2.2.2.2.2.1,p0.2.2.2.2.2.2.2.1,p0.2.2.2.2.2.2.2.2.1,p0.2.2.2.2.2.2.2.2.2.1,p0.2.2.2.2.2.2.2.2.2.2.1) i1.2.1 (i1.2.2.2.2.1,i1.2.2.2.2.2.1,i1.2.2.2.2.2.2.1,i1.2.2.2.2.2.2.2.1)).bind λt46 =>
 some ((t46.1.1,t46.1.2.1,t46.1.2.2.1,t46.1.2.2.2.1,t46.1.2.2.2.2.1,t46.1.2.2.2.2.2.1,t46.1.2.2.2.2.2.2.1,t46.1.2.2.2.2.2.2.2.1,t46.1.2.2.2.2.2.2.2.2.1,t46.1.2.2.2.2.2.2.2.2.2.1,t46.1.2.2.2.2.2.2.2.2.2.2,p0.2.2.2.2.2.2.2.2.2.2.2.1,p0.2.2.2.2.2.2.2.2.2.2.2.2.1,p0.2.2.2.2.2.2.2.2.2.2.2.2.2.1,p0.2.2.2.2.2.2.2.2.2.2.2.2.2.2),t46.2,[]))
 (cond (i1.1==4)
 ((eQ (p0.1,p0.2.1,p0.2.2.1,p0.2.2.2.1,p0.2.2.2.2.1,p0.2.2.2.2.2.1,p0.2.2.2.2.2.2.1,p0.2.2.2.2.2.2.2.1,p0.2.2.2.2.2.2.2.2.1,p0.2.2.2.2.2.2.2.2.2.1,p0.2.2.2.2.2.2.2.2.2.2.1) i1.2.1 i1.2.2.2.2.2.2.2.2).bind λt65 =>
 some ((t65.1,t65.2.1,t65.2.2.1,t65.2.2.2.1,t65.2.2.2.2.1,t65.2.2.2.2.2.1,t65.2.2.2.2.2.2.1,t65.2.2.2.2.2.2.2.1,t65.2.2.2.2.2.2.2.2.1,t65.2.2.2.2.2.2.2.2.2.1,t65.2.2.2.2.2.2.2.2.2.2,p0.2.2.2.2.2.2.2.2.2.2.2.1,p0.2.2.2.2.2.2.2.2.2.2.2.2.1,p0.2.2.2.2.2.2.2.2.2.2.2.2.2.1,p0.2.2.2.2.2.2.2.2.2.2.2.2.2.2),[],[]))
 (cond (i1.1==5)
 ((eR (p0.1,p0.2.1,p0.2.2.1,p0.2.2.2.1,p0.2.2.2.2.1,p0.2.2.2.2.2.1,p0.2.2.2.2.2.2.1,p0.2.2.2.2.2.2.2.1,p0.2.2.2.2.2.2.2.2.1,p0.2.2.2.2.2.2.2.2.2.1,p0.2.2.2.2.2.2.2.2.2.2.1) i1.2.1 i1.2.2.1).bind λt79 =>
 some ((t79.1,t79.2.1,t79.2.2.1,t79.2.2.2.1,t79.2.2.2.2.1,t79.2.2.2.2.2.1,t79.2.2.2.2.2.2.1,t79.2.2.2.2.2.2.2.1,t79.2.2.2.2.2.2.2.2.1,t79.2.2.2.2.2.2.2.2.2.1,t79.2.2.2.2.2.2.2.2.2.2,p0.2.2.2.2.2.2.2.2.2.2.2.1,p0.2.2.2.2.2.2.2.2.2.2.2.2.1,p0.2.2.2.2.2.2.2.2.2.2.2.2.2.1,p0.2.2.2.2.2.2.2.2.2.2.2.2.2.2),[],[]))
 (cond (i1.1==6)
 ((eS (p0.1,p0.2.1,p0.2.2.1,p0.2.2.2.1,p0.2.2.2.2.1,p0.2.2.2.2.2.1,p0.2.2.2.2.2.2.1,p0.2.2.2.2.2.2.2.1,p0.2.2.2.2.2.2.2.2.1,p0.2.2.2.2.2.2.2.2.2.1,p0.2.2.2.2.2.2.2.2.2.2.1)).bind λt89 =>
 some ((t89.1,t89.2.1,t89.2.2.1,t89.2.2.2.1,t89.2.2.2.2.1,t89.2.2.2.2.2.1,t89.2.2.2.2.2.2.1,t89.2.2.2.2.2.2.2.1,t89.2.2.2.2.2.2.2.2.1,t89.2.2.2.2.2.2.2.2.2.1,t89.2.2.2.2.2.2.2.2.2.2,p0.2.2.2.2.2.2.2.2.2.2.2.1,p0.2.2.2.2.2.2.2.2.2.2.2.2.1,p0.2.2.2.2.2.2.2.2.2.2.2.2.2.1,p0.2.2.2.2.2.2.2.2.2.2.2.2.2.2),[],[]))
 (some (p0,[],[])))))))
def oy:FL:=(114,⟨[.ptr vO (some true),.val true zX false],[.val false (.one (.sl AZ)) (some true),.val false (.one (.sl yW)) none],λa=>cf a.1 a.2⟩)::ox
theorem u6:Gd oy:=uK u5 114 Tryz.f114 [] Tryz.func114
def iJ (l1:List Act) (t13:Int) (b0_1:Int) (b1:List UInt8) (b6:Int) (b7:Int) (b8:Int) (b9:Int) (b10:Int) (b11:List UInt8) (b13:Int) (b14:Int) (b2:List Pt) (b3:List uF) (b4:List uQ) (b5:List Int) (b12:List vF):Option ((Int×Int×List UInt8×Int×Int×Int×Int×Int×List UInt8×Int×Int×List Pt×List uF×List uQ×List Int×List vF)⊕(Int×List UInt8×Int×Int×Int×Int×Int×List UInt8×Int×Int×List Pt×List uF×List uQ×List Int×List vF)) :=
 cond (decide (t13<(l1.length:Int)))
 ((at? l1 t13).bind λx16 =>
 (cond (decide (t13<60))
 ((ac x16.1 3 6).bind λt23 =>
 some t23)
 (some false)).bind λt24 =>
 cond t24
 ((cf (b0_1,b1,b2,b3,b4,b5,b6,b7,b8,b9,b10,b11,b12,b13,b14) x16).bind λt26 =>
 some (.inl (uB (t13+1),t26.1.1,t26.1.2.1,t26.1.2.2.2.2.2.2.1,t26.1.2.2.2.2.2.2.2.1,t26.1.2.2.2.2.2.2.2.2.1,t26.1.2.2.2.2.2.2.2.2.2.1,t26.1.2.2.2.2.2.2.2.2.2.2.1,t26.1.2.2.2.2.2.2.2.2.2.2.2.1,t26.1.2.2.2.2.2.2.2.2.2.2.2.2.2.1,t26.1.2.2.2.2.2.2.2.2.2.2.2.2.2.2,t26.1.2.2.1,t26.1.2.2.2.1,t26.1.2.2.2.2.1,t26.1.2.2.2.2.2.1,t26.1.2.2.2.2.2.2.2.2.2.2.2.2.1)))
 (some (.inl (uB (t13+1),b0_1,b1,b6,b7,b8,b9,b10,b11,b13,b14,b2,b3,b4,b5,b12))))
 (some (.inr (b0_1,b1,b6,b7,b8,b9,b10,b11,b13,b14,b2,b3,b4,b5,b12)))
def fN (b0:uz) (l1:List Act):Option uz :=
 (ak b0).bind λt9 =>
 (loop (λz=>iJ l1 z.1 z.2.1 z.2.2.1 z.2.2.2.1 z.2.2.2.2.1 z.2.2.2.2.2.1 z.2.2.2.2.2.2.1 z.2.2.2.2.2.2.2.1 z.2.2.2.2.2.2.2.2.1 z.2.2.2.2.2.2.2.2.2.1 z.2.2.2.2.2.2.2.2.2.2.1 z.2.2.2.2.2.2.2.2.2.2.2.1 z.2.2.2.2.2.2.2.2.2.2.2.2.1 z.2.2.2.2.2.2.2.2.2.2.2.2.2.1 z.2.2.2.2.2.2.2.2.2.2.2.2.2.2.1 z.2.2.2.2.2.2.2.2.2.2.2.2.2.2.2) (0,t9.1,t9.2.1,t9.2.2.2.2.2.2.1,t9.2.2.2.2.2.2.2.1,t9.2.2.2.2.2.2.2.2.1,t9.2.2.2.2.2.2.2.2.2.1,t9.2.2.2.2.2.2.2.2.2.2,[],0,0,t9.2.2.1,t9.2.2.2.1,t9.2.2.2.2.1,t9.2.2.2.2.2.1,[])).bind λd =>
 some (d.1,d.2.1,d.2.2.2.2.2.2.2.2.2.2.1,d.2.2.2.2.2.2.2.2.2.2.2.1,d.2.2.2.2.2.2.2.2.2.2.2.2.1,d.2.2.2.2.2.2.2.2.2.2.2.2.2.1,d.2.2.1,d.2.2.2.1,d.2.2.2.2.1,d.2.2.2.2.2.1,d.2.2.2.2.2.2.1)
def oz:FL:=(31,⟨[.val true uR false,.val false (.one (.sl zX)) false],[.val true uR (some true)],λa=>fN a.1 a.2⟩)::oy
theorem u7:Gd oz:=uK u6 31 Tryz.f31 [(0,⟨⟨(13,false,[dI])::us 21 3 [],[(266240,.box [dI,dS,.own 1000000000,.own 1000000001,.own 1000000002,.own 1000000003,dI,dI,dI,dI,dI,dS,.own 1000000004,dI,dI]),(1000000000,.root wX true),(1000000001,.root uY true),(1000000002,.root vI true),(1000000003,.root uI true),(1000000004,.root z6 true)]⟩,
 ⟨[],[(266240,.box [dI,dS,.own 1000000300,.own 1000000301,.own 1000000302,.own 1000000303,dI,dI,dI,dI,dI,dS,.own 1000000304,dI,dI]),(1000000300,.root wX true),(1000000301,.root uY true),(1000000302,.root vI true),(1000000303,.root uI true),(1000000304,.root z6 true)]⟩,none⟩)] Tryz.func31
def cg (b0:uz) (word1:List UInt8):Option uN :=
 (aS b0).bind λt6 =>
 (cond (!t6) (some true) (some (decide ((word1.length:Int)>20)))).bind λt12 =>
 cond t12
 (some (0,[],[],[],[],[],0,0,0,0,0,[],[],0,0))
 ((ak b0).bind λt15 =>
 some (t15.1,t15.2.1,t15.2.2.1,t15.2.2.2.1,t15.2.2.2.2.1,t15.2.2.2.2.2.1,t15.2.2.2.2.2.2.1,t15.2.2.2.2.2.2.2.1,t15.2.2.2.2.2.2.2.2.1,t15.2.2.2.2.2.2.2.2.2.1,t15.2.2.2.2.2.2.2.2.2.2,word1,[],0,0))
def oA:FL:=(53,⟨[.val true uR false,.val false Iw false],[.val true vO (some true)],λa=>cg a.1 a.2⟩)::oz
theorem u9:Gd oA:=uK u7 53 Tryz.f53 [] Tryz.func53
def eT (a0:List uC) (b1:List uC) (t13:Int):Option (Int⊕(Unit⊕Bool)) :=
 cond (decide (t13<(a0.length:Int)))
 ((at? a0 t13).bind λx18 =>
 (at? b1 t13).bind λx23 =>
 (ay x18.1 x23.1).bind λt26 =>
 (cond (!t26)
 (some true)
 ((at? a0 t13).bind λx31 =>
 (at? b1 t13).bind λx36 =>
 (aK x31.2 x36.2).bind λt39 =>
 some (!t39))).bind λt41 =>
 cond t41 (some (.inr (.inr false))) (some (.inl (uB (t13+1)))))
 (some (.inr (.inl ())))
def iK (a0:List uC) (b1:List uC):Option Bool :=
 cond ((a0.length:Int) != (b1.length:Int))
 (some false)
 ((loop (λz=>eT a0 b1 z) 0).bind (Sum.elim (λd =>
 some true) (λr=>some r)))
def oC:FL:=(88,⟨[.val false (.one (.sl uU)) false,.val false (.one (.sl uU)) false],[.val false vr (some true)],λa=>iK a.1 a.2⟩)::oA
theorem ua:Gd oC:=uK u9 88 Tryz.f88 [(0,⟨⟨(13,false,[dI])::us 29 12 [],[]⟩,
 ⟨[],[]⟩,some ⟨[(4,false,[dB])],[]⟩⟩)] Tryz.func88
def eU (a0:v9) (b1:v9):Option Bool :=
 (cond (a0.1==b1.1) (some (a0.2.1==b1.2.1)) (some false)).bind λt16 =>
 (cond t16 (some (a0.2.2.1==b1.2.2.1)) (some false)).bind λt23 =>
 (cond t23 (some (a0.2.2.2.1==b1.2.2.2.1)) (some false)).bind λt30 =>
 (cond t30
 ((iK a0.2.2.2.2 b1.2.2.2.2).bind λt36 =>
 some t36)
 (some false)).bind λt37 =>
 some t37
def oD:FL:=(15,⟨[.val true wQ false,.val true wQ false],[.val false vr (some true)],λa=>eU a.1 a.2⟩)::oC
theorem ub:Gd oD:=uK ua 15 Tryz.f15 [] Tryz.func15
def eV (a0:List Int) (b1:List Int) (i5:Int):Option (Int⊕(Unit⊕Bool)) :=
 cond (decide (i5<(a0.length:Int)))
 ((at? a0 i5).bind λx19 =>
 (at? b1 i5).bind λx23 =>
 cond (x19 != x23) (some (.inr (.inr false))) (some (.inl (uB (i5+1)))))
 (some (.inr (.inl ())))
def iL (a0:List Int) (b1:List Int):Option Bool :=
 cond ((a0.length:Int) != (b1.length:Int))
 (some false)
 ((loop (λz=>eV a0 b1 z) 0).bind (Sum.elim (λd =>
 some true) (λr=>some r)))
def oE:FL:=(245,⟨[.val false wv false,.val false wv false],[.val false vr (some true)],λa=>iL a.1 a.2⟩)::oD
theorem uc:Gd oE:=uK ub 245 Tryz.f245 [(0,⟨⟨[(5,false,[dI])],[]⟩,
 ⟨[],[]⟩,some ⟨[(4,false,[dB])],[]⟩⟩)] Tryz.func245
def eW (p0:List vF) (i1:List vF) (t5:Int):Option (Int⊕(Unit⊕Bool)) :=
 cond (decide (t5<(p0.length:Int)))
 ((at? p0 t5).bind λx21 =>
 (at? i1 t5).bind λx25 =>
 (cond (x21.1 != x25.1)
 (some true)
 ((iL x21.2.1 x25.2.1).bind λt37 =>
 some (!t37))).bind λt39 =>
 (cond t39 (some true) (some (x21.2.2.1 != x25.2.2.1))).bind λt46 =>
 (cond t46
 (some true)
 ((eU (x21.2.2.2.1,x21.2.2.2.2.1,x21.2.2.2.2.2.1,x21.2.2.2.2.2.2.1,x21.2.2.2.2.2.2.2.1) (x25.2.2.2.1,x25.2.2.2.2.1,x25.2.2.2.2.2.1,x25.2.2.2.2.2.2.1,x25.2.2.2.2.2.2.2.1)).bind λt52 =>
 some (!t52))).bind λt54 =>
 (cond t54
 (some true)
 ((cY (x21.2.2.2.2.2.2.2.2.1,x21.2.2.2.2.2.2.2.2.2.1,x21.2.2.2.2.2.2.2.2.2.2.1,x21.2.2.2.2.2.2.2.2.2.2.2.1,x21.2.2.2.2.2.2.2.2.2.2.2.2.1,x21.2.2.2.2.2.2.2.2.2.2.2.2.2.1,x21.2.2.2.2.2.2.2.2.2.2.2.2.2.2.1,x21.2.2.2.2.2.2.2.2.2.2.2.2.2.2.2.1,x21.2.2.2.2.2.2.2.2.2.2.2.2.2.2.2.2.1,x21.2.2.2.2.2.2.2.2.2.2.2.2.2.2.2.2.2.1,x21.2.2.2.2.2.2.2.2.2.2.2.2.2.2.2.2.2.2.1) (x25.2.2.2.2.2.2.2.2.1,x25.2.2.2.2.2.2.2.2.2.1,x25.2.2.2.2.2.2.2.2.2.2.1,x25.2.2.2.2.2.2.2.2.2.2.2.1,x25.2.2.2.2.2.2.2.2.2.2.2.2.1,x25.2.2.2.2.2.2.2.2.2.2.2.2.2.1,x25.2.2.2.2.2.2.2.2.2.2.2.2.2.2.1,x25.2.2.2.2.2.2.2.2.2.2.2.2.2.2.2.1,x25.2.2.2.2.2.2.2.2.2.2.2.2.2.2.2.2.1,x25.2.2.2.2.2.2.2.2.2.2.2.2.2.2.2.2.2.1,x25.2.2.2.2.2.2.2.2.2.2.2.2.2.2.2.2.2.2.1)).bind λt60 =>
 some (!t60))).bind λt62 =>
 (cond t62
 (some true)
 (some (x21.2.2.2.2.2.2.2.2.2.2.2.2.2.2.2.2.2.2.2.1 != x25.2.2.2.2.2.2.2.2.2.2.2.2.2.2.2.2.2.2.2.1))).bind λt69 =>
 (cond t69
 (some true)
 (some (x21.2.2.2.2.2.2.2.2.2.2.2.2.2.2.2.2.2.2.2.2 != x25.2.2.2.2.2.2.2.2.2.2.2.2.2.2.2.2.2.2.2.2))).bind λt76 =>
 cond t76 (some (.inr (.inr false))) (some (.inl (uB (t5+1)))))
 (some (.inr (.inl ())))
def iM (p0:List vF) (i1:List vF):Option Bool :=
 cond ((p0.length:Int) != (i1.length:Int))
 (some false)
 ((loop (λz=>eW p0 i1 z) 0).bind (Sum.elim (λd =>
 some true) (λr=>some r)))
def oF:FL:=(142,⟨[.val false (.one (.sl z6)) false,.val false (.one (.sl z6)) false],[.val false vr (some true)],λa=>iM a.1 a.2⟩)::oE
theorem ud:Gd oF:=uK uc 142 Tryz.f142 [(0,⟨⟨(5,false,[dI])::us 33 6 (us 41 5 (us 48 6 (us 56 6 (us 64 5 (us 71 5 []))))),[]⟩,
 ⟨[],[]⟩,some ⟨[(4,false,[dB])],[]⟩⟩)] Tryz.func142
def fL (a0:uN) (b1:uN):Option Bool :=
 (cY (a0.1,a0.2.1,a0.2.2.1,a0.2.2.2.1,a0.2.2.2.2.1,a0.2.2.2.2.2.1,a0.2.2.2.2.2.2.1,a0.2.2.2.2.2.2.2.1,a0.2.2.2.2.2.2.2.2.1,a0.2.2.2.2.2.2.2.2.2.1,a0.2.2.2.2.2.2.2.2.2.2.1) (b1.1,b1.2.1,b1.2.2.1,b1.2.2.2.1,b1.2.2.2.2.1,b1.2.2.2.2.2.1,b1.2.2.2.2.2.2.1,b1.2.2.2.2.2.2.2.1,b1.2.2.2.2.2.2.2.2.1,b1.2.2.2.2.2.2.2.2.2.1,b1.2.2.2.2.2.2.2.2.2.2.1)).bind λt9 =>
 (cond t9
 (some (a0.2.2.2.2.2.2.2.2.2.2.2.1==b1.2.2.2.2.2.2.2.2.2.2.2.1))
 (some false)).bind λt16 =>
 (cond t16
 ((iM a0.2.2.2.2.2.2.2.2.2.2.2.2.1 b1.2.2.2.2.2.2.2.2.2.2.2.2.1).bind λt22 =>
 some t22)
 (some false)).bind λt23 =>
 (cond t23
 (some (a0.2.2.2.2.2.2.2.2.2.2.2.2.2.1==b1.2.2.2.2.2.2.2.2.2.2.2.2.2.1))
 (some false)).bind λt30 =>
 (cond t30
 (some (a0.2.2.2.2.2.2.2.2.2.2.2.2.2.2==b1.2.2.2.2.2.2.2.2.2.2.2.2.2.2))
 (some false)).bind λt37 =>
 some t37
def oG:FL:=(54,⟨[.val true vO false,.val true vO false],[.val false vr (some true)],λa=>fL a.1 a.2⟩)::oF
theorem ue:Gd oG:=uK ud 54 Tryz.f54 [] Tryz.func54
def eX (a0:List wa) (b1:List wa) (i5:Int):Option (Int⊕(Unit⊕Bool)) :=
 cond (decide (i5<(a0.length:Int)))
 ((at? a0 i5).bind λx19 =>
 (at? b1 i5).bind λx24 =>
 (cond (x19.1 != x24.1)
 (some true)
 ((at? a0 i5).bind λx31 =>
 (at? b1 i5).bind λx36 =>
 (eU x31.2 x36.2).bind λt39 =>
 some (!t39))).bind λt41 =>
 cond t41 (some (.inr (.inr false))) (some (.inl (uB (i5+1)))))
 (some (.inr (.inl ())))
def fM (a0:List wa) (b1:List wa):Option Bool :=
 cond ((a0.length:Int) != (b1.length:Int))
 (some false)
 ((loop (λz=>eX a0 b1 z) 0).bind (Sum.elim (λd =>
 some true) (λr=>some r)))
def oH:FL:=(55,⟨[.val false (.one (.sl yW)) false,.val false (.one (.sl yW)) false],[.val false vr (some true)],λa=>fM a.1 a.2⟩)::oG
theorem uf:Gd oH:=uK ue 55 Tryz.f55 [(0,⟨⟨(5,false,[dI])::us 29 12 [],[]⟩,
 ⟨[],[]⟩,some ⟨[(4,false,[dB])],[]⟩⟩)] Tryz.func55
def dx (code0:List Int) (h3_1:Int) (i4:Int):Option ((Int×Int)⊕Int) :=
 (cond (decide (i4<(code0.length:Int))) (some (decide (i4<4000))) (some false)).bind λt15 =>
 cond t15
 ((at? code0 i4).bind λx22 =>
 let h3_2:=xO .i64 (uB ((uB ((uB (h3_1*137))+(uB (x22))))+11)) 1073741823
 some (.inl (h3_2,uB (i4+1))))
 (some (.inr h3_1))
def fH (code0:List Int):Option uM :=
 let h3:=uB (762762+(code0.length:Int))
 (loop (λz=>dx code0 z.1 z.2) (h3,0)).bind λd =>
 some (code0,0,d)
def oI:FL:=(73,⟨[.val false wv false],[.ptr vP none],λa=>fH a⟩)::oH
theorem ug:Gd oI:=uK uf 73 Tryz.f73 [(0,⟨⟨[(3,false,[dI]),(4,false,[dI]),(13,false,[.undef]),(14,false,[.undef])],[]⟩,
 ⟨[(3,false,[dI])],[]⟩,none⟩)] Tryz.func73
def bK (code0:List Int) (most1:Int):Option Int :=
 let n5:=uB (3+(uB ((code0.length:Int).tdiv 12)))
 cond (decide (n5>most1)) (some most1) (some n5)
def oJ:FL:=(127,⟨[.val false wv false,.val false uI false],[.val false uI (some true)],λa=>bK a.1 a.2⟩)::oI
theorem uh:Gd oJ:=uK ug 127 Tryz.f127 [] Tryz.func127
def ae (x0:Int) (least1:Int) (most2:Int):Option Bool :=
 (cond (decide (x0>=least1)) (some (decide (x0<=most2))) (some false)).bind λt14 =>
 some t14
def oK:FL:=(103,⟨[.val false uI false,.val false uI false,.val false uI false],[.val false vr (some true)],λa=>ae a.1 a.2.1 a.2.2⟩)::oJ
theorem ui:Gd oK:=uK uh 103 Tryz.f103 [] Tryz.func103
def fh (v0:Ah):Option Bool :=
 (ae v0.1 1 99).bind λt5 =>
 (cond t5
 ((ae v0.2.1 0 100000).bind λt9 =>
 some t9)
 (some false)).bind λt10 =>
 (cond t10
 ((ae v0.2.2.1 0 10).bind λt14 =>
 some t14)
 (some false)).bind λt15 =>
 (cond t15
 ((ae v0.2.2.2.1 1 99).bind λt19 =>
 some t19)
 (some false)).bind λt20 =>
 (cond t20
 ((ae v0.2.2.2.2 0 7).bind λt24 =>
 some t24)
 (some false)).bind λt25 =>
 some t25
def oL:FL:=(247,⟨[.val true zy false],[.val false vr (some true)],λa=>fh a⟩)::oK
theorem uj:Gd oL:=uK ui 247 Tryz.f247 [] Tryz.func247
def gn (p0:Pt):Option Bool :=
 (ae p0.2.1 1 1000).bind λt5 =>
 (cond (!t5)
 (some true)
 ((cond (!p0.1) (some p0.2.2.1) (some false)).bind λt14 =>
 some t14)).bind λt15 =>
 cond t15
 (some false)
 (cond (!p0.2.2.1)
 (let t2:=p0.2.2.2.1==0&&(p0.2.2.2.2.1==0&&(p0.2.2.2.2.2.1==0&&(p0.2.2.2.2.2.2.1==0&&(p0.2.2.2.2.2.2.2==0))))
 some t2)
 ((fh p0.2.2.2).bind λt25 =>
 some t25))
def oM:FL:=(147,⟨[.val true wX false],[.val false vr (some true)],λa=>gn a⟩)::oL
theorem uk:Gd oM:=uK uj 147 Tryz.f147 [] Tryz.func147
def cC (e0:uF):Option Bool :=
 (ae e0.1 1 99).bind λt5 =>
 (cond t5
 ((ae e0.2.1 1 9999).bind λt9 =>
 some t9)
 (some false)).bind λt10 =>
 (cond t10
 ((ae e0.2.2.1 0 7).bind λt14 =>
 some t14)
 (some false)).bind λt15 =>
 (cond t15
 ((ae e0.2.2.2.1 0 4).bind λt19 =>
 some t19)
 (some false)).bind λt20 =>
 (cond t20
 ((cond (!e0.2.2.2.2) (some true) (some (e0.2.2.2.1==0))).bind λt29 =>
 some t29)
 (some false)).bind λt30 =>
 some t30
def oN:FL:=(248,⟨[.val true uY false],[.val false vr (some true)],λa=>cC a⟩)::oM
theorem ul:Gd oN:=uK uk 248 Tryz.f248 [] Tryz.func248
def bU (e0:uF) (tag1:Int) (mac2:Int):Option Bool :=
 cond (e0.1 != tag1) (some (decide (e0.1<tag1))) (some (decide (e0.2.1<mac2)))
def oO:FL:=(249,⟨[.val true uY false,.val false uI false,.val false uI false],[.val false vr (some true)],λa=>bU a.1 a.2.1 a.2.2⟩)::oN
theorem um:Gd oO:=uK ul 249 Tryz.f249 [] Tryz.func249
def jp (l0:List uF) (i3:Int):Option (Int⊕(Unit⊕Bool)) :=
 cond (decide (i3<(l0.length:Int)))
 ((at? l0 i3).bind λx12 =>
 (cC x12).bind λt14 =>
 (cond (!t14)
 (some true)
 ((cond (decide (i3>0))
 ((at? l0 (uB (i3-1))).bind λx23 =>
 (at? l0 i3).bind λx27 =>
 (at? l0 i3).bind λx32 =>
 (bU x23 x27.1 x32.2.1).bind λt35 =>
 some (!t35))
 (some false)).bind λt37 =>
 some t37)).bind λt38 =>
 cond t38 (some (.inr (.inr false))) (some (.inl (uB (i3+1)))))
 (some (.inr (.inl ())))
def cB (l0:List uF):Option Bool :=
 (loop (λz=>jp l0 z) 0).bind (Sum.elim (λd =>
 let t2:=decide ((l0.length:Int)<=12)
 some t2) (λr=>some r))
def oP:FL:=(148,⟨[.val false (.one (.sl uY)) false],[.val false vr (some true)],λa=>cB a⟩)::oO
theorem un:Gd oP:=uK um 148 Tryz.f148 [(0,⟨⟨(3,false,[dI])::us 17 21 [],[]⟩,
 ⟨[],[]⟩,some ⟨[(2,false,[dB])],[]⟩⟩)] Tryz.func148
def uo (v0:vv) (id1:Int) (i5:Int):Option (Int⊕(Unit⊕Int)) :=
 cond (decide (i5<(v0.1.length:Int)))
 ((at? v0.1 i5).bind λx16 =>
 cond (x16.1==id1) (some (.inr (.inr i5))) (some (.inl (uB (i5+1)))))
 (some (.inr (.inl ())))
def bp (v0:vv) (id1:Int):Option Int :=
 (loop (λz=>uo v0 id1 z) 0).bind (Sum.elim (λd =>
 some (-1)) (λr=>some r))
def oQ:FL:=(250,⟨[.val true wL false,.val false uI false],[.val false uI (some true)],λa=>bp a.1 a.2⟩)::oP
theorem uq:Gd oQ:=uK un 250 Tryz.f250 [(0,⟨⟨[(5,false,[dI])],[]⟩,
 ⟨[],[]⟩,some ⟨[(4,false,[dI])],[]⟩⟩)] Tryz.func250
def jq (p0:vv) (t27:Int) (t6:Int):Option (Int⊕(Unit⊕Bool)) :=
 cond (decide (t6<(p0.1.length:Int)))
 ((at? p0.1 t6).bind λx39 =>
 (ae x39.1 1 99).bind λt43 =>
 (cond (!t43)
 (some true)
 ((ae x39.2.1 0 (uB (t27-1))).bind λt49 =>
 some (!t49))).bind λt51 =>
 (cond t51
 (some true)
 ((ae x39.2.2 0 (uB (t27-1))).bind λt56 =>
 some (!t56))).bind λt58 =>
 (cond t58 (some true) (some ((xO .i64 x39.2.2 x39.2.1) != x39.2.2))).bind λt68 =>
 (cond t68
 (some true)
 ((cond (decide (t6>0))
 ((at? p0.1 (uB (t6-1))).bind λx77 =>
 some (decide (x77.1>=x39.1)))
 (some false)).bind λt83 =>
 some t83)).bind λt84 =>
 cond t84 (some (.inr (.inr false))) (some (.inl (uB (t6+1)))))
 (some (.inr (.inl ())))
def oR (p0:vv) (t8:Int):Option (Int⊕(Unit⊕Bool)) :=
 cond (decide (t8<(p0.2.length:Int)))
 ((at? p0.2 t8).bind λx96 =>
 (bp p0 x96).bind λt98 =>
 cond (decide (t98<0)) (some (.inr (.inr false))) (some (.inl (uB (t8+1)))))
 (some (.inr (.inl ())))
def aP (p0:vv) (i1:Int):Option Bool :=
 (ae i1 1 6).bind λt10 =>
 (cond (!t10) (some true) (some ((p0.2.length:Int) != i1))).bind λt18 =>
 (cond t18 (some true) (some (decide ((p0.1.length:Int)>6)))).bind λt24 =>
 cond t24
 (some false)
 ((shl .i64 1 (IntKind.u64.wrap (i1))).bind λt27 =>
 (loop (λz=>jq p0 t27 z) 0).bind (Sum.elim (λd =>
 (loop (λz=>oR p0 z) 0).bind (Sum.elim (λd_1 =>
 some true) (λr=>some r))) (λr_1=>some r_1)))
def oS:FL:=(149,⟨[.val true wL false,.val false uI false],[.val false vr (some true)],λa=>aP a.1 a.2⟩)::oQ
theorem ur:Gd oS:=uK uq 149 Tryz.f149 [(0,⟨⟨(6,false,[dI])::us 46 5 (us 53 5 (us 60 8 (us 70 14 []))),[]⟩,
 ⟨[],[]⟩,some ⟨[(4,false,[dB])],[]⟩⟩),
 (2,⟨⟨[(8,false,[dI])],[]⟩,
 ⟨[],[]⟩,some ⟨[(4,false,[dB])],[]⟩⟩)] Tryz.func149
def iN (b0:uz):Option Bool :=
 (ae b0.2.2.2.2.2.2.1 0 1000000).bind λt5 =>
 (cond t5
 ((ae b0.2.2.2.2.2.2.2.1 0 1000000).bind λt9 =>
 some t9)
 (some false)).bind λt10 =>
 (cond t10
 ((ae b0.2.2.2.2.2.2.2.2.1 0 1000000).bind λt14 =>
 some t14)
 (some false)).bind λt15 =>
 (cond t15
 ((ae b0.2.2.2.2.2.2.2.2.2.1 0 1000000).bind λt19 =>
 some t19)
 (some false)).bind λt20 =>
 (cond t20
 ((ae b0.2.2.2.2.2.2.2.2.2.2 0 1000000).bind λt24 =>
 some t24)
 (some false)).bind λt25 =>
 some t25
def oT:FL:=(150,⟨[.val true uR false],[.val false vr (some true)],λa=>iN a⟩)::oS
theorem ut:Gd oT:=uK ur 150 Tryz.f150 [] Tryz.func150
def jr (b0:uz) (i3:Int):Option (Int⊕(Unit⊕Bool)) :=
 cond (decide (i3<(b0.2.2.1.length:Int)))
 ((at? b0.2.2.1 i3).bind λx14 =>
 (gn x14).bind λt16 =>
 cond (!t16) (some (.inr (.inr false))) (some (.inl (uB (i3+1)))))
 (some (.inr (.inl ())))
def aN (b0:uz):Option Bool :=
 (loop (λz=>jr b0 z) 0).bind (Sum.elim (λd =>
 (ae b0.1 1 99).bind λt20 =>
 (cond t20 (some (decide ((b0.2.1.length:Int)<=10))) (some false)).bind λt26 =>
 (cond t26
 ((ae (b0.2.2.1.length:Int) 1 6).bind λt31 =>
 some t31)
 (some false)).bind λt32 =>
 (cond t32
 ((cB b0.2.2.2.1).bind λt36 =>
 some t36)
 (some false)).bind λt37 =>
 (cond t37
 ((aP (b0.2.2.2.2.1,b0.2.2.2.2.2.1) (b0.2.2.1.length:Int)).bind λt44 =>
 some t44)
 (some false)).bind λt45 =>
 (cond t45
 ((iN b0).bind λt48 =>
 some t48)
 (some false)).bind λt49 =>
 some t49) (λr=>some r))
def oU:FL:=(64,⟨[.val true uR false],[.val false vr (some true)],λa=>aN a⟩)::oT
theorem uu:Gd oU:=uK ut 64 Tryz.f64 [(0,⟨⟨[(3,false,[dI])],[]⟩,
 ⟨[],[]⟩,some ⟨[(2,false,[dB])],[]⟩⟩)] Tryz.func64
def aw (n0:Int):Option Int :=
 cond (decide (n0>2147483647))
 (some 2147483647)
 (cond (decide (n0<(-2147483648))) (some (-2147483648)) (some n0))
def oV:FL:=(198,⟨[.val false uI false],[.val false uI (some true)],λa=>aw a⟩)::oU
theorem uv:Gd oV:=uK uu 198 Tryz.f198 [] Tryz.func198
def uw (o0:List Int) (i3:Int):Option (Int⊕(Unit⊕Bool)) :=
 cond (decide (i3<(o0.length:Int)))
 ((at? o0 i3).bind λx12 =>
 (ae x12 0 100000).bind λt14 =>
 cond (!t14) (some (.inr (.inr false))) (some (.inl (uB (i3+1)))))
 (some (.inr (.inl ())))
def bC (o0:List Int):Option Bool :=
 (loop (λz=>uw o0 z) 0).bind (Sum.elim (λd =>
 (ae (o0.length:Int) 1 10).bind λt18 =>
 some t18) (λr=>some r))
def oW:FL:=(286,⟨[.val false xk false],[.val false vr (some true)],λa=>bC a⟩)::oV
theorem ux:Gd oW:=uK uv 286 Tryz.f286 [(0,⟨⟨[(3,false,[dI])],[]⟩,
 ⟨[],[]⟩,some ⟨[(2,false,[dB])],[]⟩⟩)] Tryz.func286
def bj (p0:yj):Option Bool :=
 cond (p0.1==5)
 (cond (p0.1==5)
 ((cond (p0.2.1==0) (some (p0.2.2.1==[])) (some false)).bind λt16 =>
 (cond t16 (some ((p0.2.2.2.length:Int)==0)) (some false)).bind λt22 =>
 some t22)
 (cond (p0.1==2)
 ((aw p0.2.1).bind λt27 =>
 (cond (t27==p0.2.1) (some (p0.2.2.1==[])) (some false)).bind λt35 =>
 (cond t35 (some ((p0.2.2.2.length:Int)==0)) (some false)).bind λt41 =>
 some t41)
 (cond (p0.1==4)
 ((cond (decide ((p0.2.2.1.length:Int)<=20)) (some (p0.2.1==0)) (some false)).bind λt52 =>
 (cond t52 (some ((p0.2.2.2.length:Int)==0)) (some false)).bind λt58 =>
 some t58)
 (cond (p0.1==6)
 ((bC p0.2.2.2).bind λt63 =>
 (cond t63 (some (p0.2.1==0)) (some false)).bind λt68 =>
 (cond t68 (some (p0.2.2.1==[])) (some false)).bind λt73 =>
 some t73)
 (some false)))))
 (cond (p0.1==128)
 (cond (p0.1==128)
 ((cond (p0.2.1==0) (some (p0.2.2.1==[])) (some false)).bind λt16_1 =>
 (cond t16_1 (some ((p0.2.2.2.length:Int)==0)) (some false)).bind λt22_1 =>
 some t22_1)
 (cond (p0.1==2)
 ((aw p0.2.1).bind λt27_1 =>
 (cond (t27_1==p0.2.1) (some (p0.2.2.1==[])) (some false)).bind λt35_1 =>
 (cond t35_1 (some ((p0.2.2.2.length:Int)==0)) (some false)).bind λt41_1 =>
 some t41_1)
 (cond (p0.1==4)
 ((cond (decide ((p0.2.2.1.length:Int)<=20)) (some (p0.2.1==0)) (some false)).bind λt52_1 =>
 (cond t52_1 (some ((p0.2.2.2.length:Int)==0)) (some false)).bind λt58_1 =>
 some t58_1)
 (cond (p0.1==6)
 ((bC p0.2.2.2).bind λt63_1 =>
 (cond t63_1 (some (p0.2.1==0)) (some false)).bind λt68_1 =>
 (cond t68_1 (some (p0.2.2.1==[])) (some false)).bind λt73_1 =>
 some t73_1)
 (some false)))))
 (cond (p0.1==130)
 ((cond (p0.2.1==0) (some (p0.2.2.1==[])) (some false)).bind λt16_2 =>
 (cond t16_2 (some ((p0.2.2.2.length:Int)==0)) (some false)).bind λt22_2 =>
 some t22_2)
 (cond (p0.1==2)
 ((aw p0.2.1).bind λt27_2 =>
 (cond (t27_2==p0.2.1) (some (p0.2.2.1==[])) (some false)).bind λt35_2 =>
 (cond t35_2 (some ((p0.2.2.2.length:Int)==0)) (some false)).bind λt41_2 =>
 some t41_2)
 (cond (p0.1==4)
 ((cond (decide ((p0.2.2.1.length:Int)<=20)) (some (p0.2.1==0)) (some false)).bind λt52_2 =>
 (cond t52_2 (some ((p0.2.2.2.length:Int)==0)) (some false)).bind λt58_2 =>
 some t58_2)
 (cond (p0.1==6)
 ((bC p0.2.2.2).bind λt63_2 =>
 (cond t63_2 (some (p0.2.1==0)) (some false)).bind λt68_2 =>
 (cond t68_2 (some (p0.2.2.1==[])) (some false)).bind λt73_2 =>
 some t73_2)
 (some false))))))
def jt:FL:=(287,⟨[.val true zz false],[.val false vr (some true)],λa=>bj a⟩)::oW
theorem oY:Gd jt:=uK ux 287 Tryz.f287 [] Tryz.func287
def iO (k0:Int):Option Bool :=
 (cond (k0==160) (some true) (some (k0==161))).bind λt8 =>
 (cond t8 (some true) (some (k0==162))).bind λt12 =>
 (cond t12 (some true) (some (k0==163))).bind λt16 =>
 (cond t16 (some true) (some (k0==165))).bind λt20 =>
 some t20
end
end Go.V.W
