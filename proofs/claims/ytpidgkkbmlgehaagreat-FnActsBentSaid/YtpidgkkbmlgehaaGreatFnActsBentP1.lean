/- The law FnActsBent: part of the proof that for every input it returns true. No condition. -/
import Derived.Test.YtpidgkkbmlgehaaGreatV4
import Derived.Test.YtpidgkkbmlgehaaGreatProg
import Derived.Test.YtpidgkkbmlgehaaGreatChecked
import Derived.KernelRfl
set_option linter.unusedVariables false
set_option linter.unusedSimpArgs false
namespace Go.V.W
open Go.Proofs
noncomputable section
def us:Nat->Nat->List (Nat×Bool×List xp)->List (Nat×Bool×List xp)|_,0,l=>l|a,n+1,l=>(a,false,[.undef])::us (a+1) n l
@[reducible] def vG:Cs:=.one (.int .i64)
@[reducible] def wD:Cs:=.one .bool
@[reducible] def xu:Cs:=.one (.sl (.one (.int .u8)))
@[reducible] def yl:Cs:=.one (.sl (.one (.int .i64)))
@[reducible] def KN:Cs:=.one .str
@[reducible] def dI:xp:=.dat (.int .i64)
@[reducible] def dB:xp:=.dat .bool
@[reducible] def dS:xp:=.dat .str
@[reducible] def wL:Cs:=.cons (.int .i64) (.cons (.int .i64) vG)
@[reducible] def Ag:Cs:=.cons (.int .i64) (.cons (.int .i64) (.cons (.int .i64) (.cons (.int .i64) vG)))
@[reducible] def xS:Cs:=.cons .bool (.cons (.int .i64) (.cons .bool (.cons (.int .i64) (.cons (.int .i64) (.cons (.int .i64) (.cons (.int .i64) vG))))))
@[reducible] def vX:Cs:=.cons (.int .i64) (.cons (.int .i64) (.cons (.int .i64) (.cons (.int .i64) wD)))
@[reducible] def xw:Cs:=.cons (.sl wL) yl
@[reducible] def vN:Cs:=.cons (.int .i64) (.cons .str (.cons (.sl xS) (.cons (.sl vX) (.cons (.sl wL) (.cons (.sl vG) (.cons (.int .i64) (.cons (.int .i64) (.cons (.int .i64) (.cons (.int .i64) vG)))))))))
@[reducible] def zn:Cs:=.cons (.int .i64) (.cons (.int .i64) (.cons (.int .i64) xu))
@[reducible] def Ah:Cs:=.cons (.int .i64) (.cons (.int .i64) (.cons (.int .i64) (.cons (.int .i64) xu)))
@[reducible] def Ai:Cs:=.cons (.int .i64) (.cons (.int .i64) (.cons .bool (.cons (.sl (.one (.int .u8))) (.cons (.int .i64) (.cons (.int .i64) (.cons (.int .i64) (.cons (.sl (.one (.int .u8))) (.cons (.int .i64) (.cons (.int .i64) (.cons (.int .i64) (.cons (.int .i64) vG)))))))))))
@[reducible] def Aw:Cs:=.cons (.int .i64) (.cons (.int .i64) (.cons .str yl))
@[reducible] def vU:Cs:=.cons (.sl vG) (.cons (.int .i64) (.cons (.int .i64) (.cons .str yl)))
@[reducible] def xU:Cs:=.cons (.int .i64) (.cons (.int .i64) (.cons (.int .i64) (.cons (.int .i64) (.one (.sl vU)))))
@[reducible] def A0:Cs:=.cons (.int .i64) (.cons (.sl (.one (.int .u8))) (.cons (.int .i64) (.cons (.int .i64) (.cons (.int .i64) (.cons (.int .i64) (.cons (.int .i64) (.cons (.sl vU) (.cons (.int .i64) (.cons .str (.cons (.sl xS) (.cons (.sl vX) (.cons (.sl wL) (.cons (.sl vG) (.cons (.int .i64) (.cons (.int .i64) (.cons (.int .i64) (.cons (.int .i64) (.cons (.int .i64) (.cons (.int .i64) vG)))))))))))))))))))
@[reducible] def wO:Cs:=.cons (.int .i64) (.cons .str (.cons (.sl xS) (.cons (.sl vX) (.cons (.sl wL) (.cons (.sl vG) (.cons (.int .i64) (.cons (.int .i64) (.cons (.int .i64) (.cons (.int .i64) (.cons (.int .i64) (.cons .str (.cons (.sl A0) (.cons (.int .i64) vG)))))))))))))
@[reducible] def Ck:Cs:=.cons (.sl (.one (.int .u8))) (.cons (.int .i64) wD)
@[reducible] def zw:Cs:=.cons (.int .i64) (.cons (.int .i64) (.cons (.int .i64) (.cons (.int .i64) (.cons (.int .i64) (.one (.sl vU))))))
@[reducible] def wW:Cs:=.cons (.sl (.one (.int .u8))) (.cons (.int .i64) vG)
abbrev vP:Type:=Int×Int×Int
abbrev AO:Type:=Int×Int×Int×Int×Int
abbrev Pt:Type:=Bool×Int×Bool×Int×Int×Int×Int×Int
abbrev vD:Type:=Int×Int×Int×Int×Bool
abbrev wz:Type:=List vP×List Int
abbrev vw:Type:=Int×List UInt8×List Pt×List vD×List vP×List Int×Int×Int×Int×Int×Int
abbrev ym:Type:=Int×Int×Int×List Int
abbrev wF:Type:=Int×Int×Int×Int×List Int
abbrev Act:Type:=Int×Int×Bool×List Int×Int×Int×Int×List Int×Int×Int×Int×Int×Int
abbrev zj:Type:=Int×Int×List UInt8×List Int
abbrev vB:Type:=List Int×Int×Int×List UInt8×List Int
abbrev wd:Type:=Int×Int×Int×Int×List vB
abbrev wM:Type:=Int×List Int×Int×Int×Int×Int×Int×List vB×Int×List UInt8×List Pt×List vD×List vP×List Int×Int×Int×Int×Int×Int×Int×Int
abbrev vO:Type:=Int×List UInt8×List Pt×List vD×List vP×List Int×Int×Int×Int×Int×Int×List UInt8×List wM×Int×Int
abbrev Cl:Type:=List Int×Int×Bool
abbrev wU:Type:=Int×Int×Int×Int×Int×List vB
abbrev vM:Type:=List Int×Int×Int
def tis:List (Nat×wk):=[(2,⟨false,.one (.int .i64),[],0⟩),
 (3,⟨false,.one (.int .i64),[],0⟩),
 (4,⟨false,.one .bool,[],0⟩),
 (5,⟨false,.one (.int .u8),[],0⟩),
 (6,⟨false,.one (.int .u8),[],0⟩),
 (9,⟨false,.one .str,[],0⟩),
 (10,⟨false,.one .str,[],0⟩),
 (11,⟨false,.one .str,[],0⟩),
 (12,⟨false,.one (.int .u64),[],0⟩),
 (21,⟨false,.one (.int .i32),[],0⟩),
 (22,⟨false,.one (.sl (.one (.int .u8))),[],5⟩),
 (24,⟨false,.one (.sl xS),[],131⟩),
 (25,⟨false,.one (.sl vX),[],133⟩),
 (26,⟨false,.one (.sl wL),[],219⟩),
 (27,⟨false,.one (.sl vG),[],3⟩),
 (28,⟨true,xw,[(26,0),(27,1)],0⟩),
 (29,⟨true,xw,[(26,0),(27,1)],0⟩),
 (30,⟨true,vN,[(3,0),(9,1),(24,2),(25,3),(29,4),(3,6),(3,7),(3,8),(3,9),(3,10)],0⟩),
 (31,⟨true,vN,[(3,0),(9,1),(24,2),(25,3),(29,4),(3,6),(3,7),(3,8),(3,9),(3,10)],0⟩),
 (32,⟨false,.one (.sl vU),[],46⟩),
 (33,⟨true,xU,[(3,0),(3,1),(3,2),(3,3),(32,4)],0⟩),
 (34,⟨true,xU,[(3,0),(3,1),(3,2),(3,3),(32,4)],0⟩),
 (43,⟨true,Aw,[(3,0),(3,1),(9,2),(27,3)],0⟩),
 (44,⟨true,Aw,[(3,0),(3,1),(9,2),(27,3)],0⟩),
 (45,⟨true,vU,[(27,0),(44,1)],0⟩),
 (46,⟨true,vU,[(27,0),(44,1)],0⟩),
 (51,⟨false,.one (.sl xS),[],241⟩),
 (52,⟨false,.one (.sl vX),[],243⟩),
 (53,⟨false,.one (.sl wL),[],308⟩),
 (54,⟨true,xw,[(53,0),(27,1)],0⟩),
 (55,⟨true,xw,[(53,0),(27,1)],0⟩),
 (56,⟨true,vN,[(3,0),(9,1),(51,2),(52,3),(55,4),(3,6),(3,7),(3,8),(3,9),(3,10)],0⟩),
 (57,⟨true,vN,[(3,0),(9,1),(51,2),(52,3),(55,4),(3,6),(3,7),(3,8),(3,9),(3,10)],0⟩),
 (58,⟨false,.one (.sl Ai),[],152⟩),
 (63,⟨false,.one (.sl Ai),[],101⟩),
 (69,⟨false,.one (.sl A0),[],174⟩),
 (70,⟨true,wO,[(31,0),(9,11),(69,12),(3,13),(3,14)],0⟩),
 (71,⟨true,wO,[(31,0),(9,11),(69,12),(3,13),(3,14)],0⟩),
 (75,⟨false,.one (.sl zw),[],81⟩),
 (80,⟨true,zw,[(3,0),(34,1)],0⟩),
 (81,⟨true,zw,[(3,0),(34,1)],0⟩),
 (92,⟨false,.one (.sl Ah),[],190⟩),
 (96,⟨true,zn,[(3,0),(3,1),(3,2),(22,3)],0⟩),
 (97,⟨true,zn,[(3,0),(3,1),(3,2),(22,3)],0⟩),
 (98,⟨true,Ag,[(3,0),(3,1),(3,2),(3,3),(3,4)],0⟩),
 (99,⟨true,Ag,[(3,0),(3,1),(3,2),(3,3),(3,4)],0⟩),
 (100,⟨true,Ai,[(3,0),(3,1),(4,2),(22,3),(97,4),(99,8)],0⟩),
 (101,⟨true,Ai,[(3,0),(3,1),(4,2),(22,3),(97,4),(99,8)],0⟩),
 (108,⟨false,.one (.sl vU),[],284⟩),
 (109,⟨true,xU,[(3,0),(3,1),(3,2),(3,3),(108,4)],0⟩),
 (110,⟨true,xU,[(3,0),(3,1),(3,2),(3,3),(108,4)],0⟩),
 (130,⟨true,xS,[(4,0),(3,1),(4,2),(99,3)],0⟩),
 (131,⟨true,xS,[(4,0),(3,1),(4,2),(99,3)],0⟩),
 (132,⟨true,vX,[(3,0),(3,1),(3,2),(3,3),(4,4)],0⟩),
 (133,⟨true,vX,[(3,0),(3,1),(3,2),(3,3),(4,4)],0⟩),
 (149,⟨true,zn,[(3,0),(3,1),(3,2),(22,3)],0⟩),
 (150,⟨true,Ag,[(3,0),(3,1),(3,2),(3,3),(3,4)],0⟩),
 (151,⟨true,Ai,[(3,0),(3,1),(4,2),(22,3),(149,4),(150,8)],0⟩),
 (152,⟨true,Ai,[(3,0),(3,1),(4,2),(22,3),(149,4),(150,8)],0⟩),
 (173,⟨true,A0,[(3,0),(22,1),(3,2),(34,3),(31,8),(3,19),(3,20)],0⟩),
 (174,⟨true,A0,[(3,0),(22,1),(3,2),(34,3),(31,8),(3,19),(3,20)],0⟩),
 (185,⟨false,.one (.sl KN),[],9⟩),
 (189,⟨true,Ah,[(3,0),(97,1)],0⟩),
 (190,⟨true,Ah,[(3,0),(97,1)],0⟩),
 (201,⟨true,wW,[(22,0),(3,1),(3,2)],0⟩),
 (202,⟨true,wW,[(22,0),(3,1),(3,2)],0⟩),
 (214,⟨false,.one (.sl yl),[],27⟩),
 (218,⟨true,wL,[(3,0),(3,1),(3,2)],0⟩),
 (219,⟨true,wL,[(3,0),(3,1),(3,2)],0⟩),
 (240,⟨true,xS,[(4,0),(3,1),(4,2),(150,3)],0⟩),
 (241,⟨true,xS,[(4,0),(3,1),(4,2),(150,3)],0⟩),
 (243,⟨true,vX,[(3,0),(3,1),(3,2),(3,3),(4,4)],0⟩),
 (260,⟨true,Ck,[(22,0),(3,1),(4,2)],0⟩),
 (261,⟨true,Ck,[(22,0),(3,1),(4,2)],0⟩),
 (270,⟨false,.one (.int .u64),[],0⟩),
 (282,⟨true,Aw,[(3,0),(3,1),(9,2),(27,3)],0⟩),
 (283,⟨true,vU,[(27,0),(282,1)],0⟩),
 (284,⟨true,vU,[(27,0),(282,1)],0⟩),
 (308,⟨true,wL,[(3,0),(3,1),(3,2)],0⟩),
 (313,⟨true,Ck,[(22,0),(3,1),(4,2)],0⟩),
 (314,⟨true,Ck,[(22,0),(3,1),(4,2)],0⟩),
 (343,⟨false,.one (.int .i8),[],0⟩),
 (351,⟨false,.one (.int .u32),[],0⟩),
 (352,⟨false,.one (.int .u8),[],0⟩),
 (353,⟨false,.one (.int .u8),[],0⟩),
 (356,⟨false,.one (.int .i32),[],0⟩),
 (357,⟨false,.one (.int .i32),[],0⟩)]
theorem tisT:yp Tryz.prog tis:=yp.of_all (by kernel_rfl)
theorem UD:Ko Tryz.prog tis:=Ko.of_all (by kernel_rfl)
theorem tisD:Deep Tryz.prog tis:=Deep.of_all (by kernel_rfl)
theorem Ts:Tryz.prog.follows .mixedOrders=true:=by kernel_rfl
def It (fn:Func):Code:=match fn.body with|some c=>c|none=>.skip
theorem sD:AW Tryz.prog ⟨tis,[],[],false⟩:=⟨tisT,UD,(λf F h=>by cases h),(λf M h=>by cases h),(λh=>by cases h)⟩
theorem Uq {l : List (FuncId×Fn)} (g : AW Tryz.prog ⟨tis, l, [], false⟩) (n : FuncId) (f : Func) (ann : List (Nat×vQ)) (F : Fn) (h1 : Tryz.prog.funcs[n]?=some f) (h2 : (f.name == "runtime.NumGoroutine")=false := by kernel_rfl) (h3 : f.body=some (It f) := by kernel_rfl) (h4 : I8 ⟨tis, l, [], false⟩ ann f (It f) F.ps F.rs=F.den := by kernel_rfl) : Eg Tryz.prog n F := by
 have h:=PF (ann:=ann) (ps:=F.ps) (rs:=F.rs) g Ts h1 h2 h3;rw[h4]at h;exact h
abbrev FL:=List (FuncId×Fn)
def Gd (l:FL):Prop:=AW Tryz.prog ⟨tis,l,[],false⟩
theorem vH {l : List (FuncId×Fn)} (g : Gd l) (n : FuncId) (f : Func) (ann : List (Nat×vQ)) {F : Fn} (h1 : Tryz.prog.funcs[n]?=some f) (h2 : (f.name == "runtime.NumGoroutine")=false := by kernel_rfl) (h3 : f.body=some (It f) := by kernel_rfl) (h4 : I8 ⟨tis, l, [], false⟩ ann f (It f) F.ps F.rs=F.den := by kernel_rfl) : Gd ((n, F)::l) := AW.cons g (Uq g n f ann F h1 h2 h3 h4)
def jt (code0:List Int):Option Bool :=
 let t2:=decide ((code0.length:Int)>1048576)
 some t2
def my:FL:=(11,⟨[.val false xu false],[.val false wD (some true)],λa=>jt a⟩)::[]
theorem sE:Gd my:=vH sD 11 Tryz.f11 [] Tryz.func11
def eO (a0:List Int) (b1:List Int) (t13:Int):Option (Int⊕(Unit⊕Bool)) :=
 cond (decide (t13<(a0.length:Int)))
 ((at? a0 t13).bind λx18 =>
 (at? b1 t13).bind λx22 =>
 cond (x18 != x22) (some (.inr (.inr false))) (some (.inl (vA (t13+1)))))
 (some (.inr (.inl ())))
def aA (a0:List Int) (b1:List Int):Option Bool :=
 cond ((a0.length:Int) != (b1.length:Int))
 (some false)
 ((loop (λz=>eO a0 b1 z) 0).bind (Sum.elim (λd =>
 some true) (λr=>some r)))
def mz:FL:=(19,⟨[.val false yl false,.val false yl false],[.val false wD (some true)],λa=>aA a.1 a.2⟩)::my
theorem sF:Gd mz:=vH sE 19 Tryz.f19 [(0,⟨⟨[(13,false,[dI])],[]⟩,
 ⟨[],[]⟩,some ⟨[(4,false,[dB])],[]⟩⟩)] Tryz.func19
def ju (a0:List vP) (b1:List vP) (t13:Int):Option (Int⊕(Unit⊕Bool)) :=
 cond (decide (t13<(a0.length:Int)))
 ((at? a0 t13).bind λx18 =>
 (at? b1 t13).bind λx22 =>
 cond (!(x18.1==x22.1&&(x18.2.1==x22.2.1&&(x18.2.2==x22.2.2)))) (some (.inr (.inr false))) (some (.inl (vA (t13+1)))))
 (some (.inr (.inl ())))
def iy (a0:List vP) (b1:List vP):Option Bool :=
 cond ((a0.length:Int) != (b1.length:Int))
 (some false)
 ((loop (λz=>ju a0 b1 z) 0).bind (Sum.elim (λd =>
 some true) (λr=>some r)))
def mC:FL:=(89,⟨[.val false (.one (.sl wL)) false,.val false (.one (.sl wL)) false],[.val false wD (some true)],λa=>iy a.1 a.2⟩)::mz
theorem sG:Gd mC:=vH sF 89 Tryz.f89 [(0,⟨⟨[(13,false,[dI])],[]⟩,
 ⟨[],[]⟩,some ⟨[(4,false,[dB])],[]⟩⟩)] Tryz.func89
def iz (p0:vw) (i1:vw) (t60:Int):Option (Int⊕(Unit⊕Bool)) :=
 cond (decide (t60<(p0.2.2.1.length:Int)))
 ((at? p0.2.2.1 t60).bind λx66 =>
 (at? i1.2.2.1 t60).bind λx71 =>
 cond (!(x66.1==x71.1&&(x66.2.1==x71.2.1&&(x66.2.2.1==x71.2.2.1&&(x66.2.2.2.1==x71.2.2.2.1&&(x66.2.2.2.2.1==x71.2.2.2.2.1&&(x66.2.2.2.2.2.1==x71.2.2.2.2.2.1&&(x66.2.2.2.2.2.2.1==x71.2.2.2.2.2.2.1&&(x66.2.2.2.2.2.2.2==x71.2.2.2.2.2.2.2))))))))) (some (.inr (.inr false))) (some (.inl (vA (t60+1)))))
 (some (.inr (.inl ())))
def iA (p0:vw) (i1:vw) (t78:Int):Option (Int⊕(Unit⊕Bool)) :=
 cond (decide (t78<(p0.2.2.2.1.length:Int)))
 ((at? p0.2.2.2.1 t78).bind λx84 =>
 (at? i1.2.2.2.1 t78).bind λx89 =>
 cond (!(x84.1==x89.1&&(x84.2.1==x89.2.1&&(x84.2.2.1==x89.2.2.1&&(x84.2.2.2.1==x89.2.2.2.1&&(x84.2.2.2.2==x89.2.2.2.2)))))) (some (.inr (.inr false))) (some (.inl (vA (t78+1)))))
 (some (.inr (.inl ())))
def cL (p0:vw) (i1:vw):Option Bool :=
 (cond (p0.1 != i1.1) (some true) (some (!(p0.2.1==i1.2.1)))).bind λt18 =>
 (cond t18
 (some true)
 (some ((p0.2.2.1.length:Int) != (i1.2.2.1.length:Int)))).bind λt27 =>
 (cond t27
 (some true)
 (some ((p0.2.2.2.1.length:Int) != (i1.2.2.2.1.length:Int)))).bind λt36 =>
 (cond t36
 (some true)
 ((iy p0.2.2.2.2.1 i1.2.2.2.2.1).bind λt44 =>
 some (!t44))).bind λt46 =>
 (cond t46
 (some true)
 ((aA p0.2.2.2.2.2.1 i1.2.2.2.2.2.1).bind λt54 =>
 some (!t54))).bind λt56 =>
 cond t56
 (some false)
 ((loop (λz=>iz p0 i1 z) 0).bind (Sum.elim (λd =>
 (loop (λz=>iA p0 i1 z) 0).bind (Sum.elim (λd_1 =>
 (cond (p0.2.2.2.2.2.2.1==i1.2.2.2.2.2.2.1) (some (p0.2.2.2.2.2.2.2.1==i1.2.2.2.2.2.2.2.1)) (some false)).bind λt104 =>
 (cond t104
 (some (p0.2.2.2.2.2.2.2.2.1==i1.2.2.2.2.2.2.2.2.1))
 (some false)).bind λt111 =>
 (cond t111
 (some (p0.2.2.2.2.2.2.2.2.2.1==i1.2.2.2.2.2.2.2.2.2.1))
 (some false)).bind λt118 =>
 (cond t118
 (some (p0.2.2.2.2.2.2.2.2.2.2==i1.2.2.2.2.2.2.2.2.2.2))
 (some false)).bind λt125 =>
 some t125) (λr=>some r))) (λr_1=>some r_1)))
def mD:FL:=(16,⟨[.val true vN false,.val true vN false],[.val false wD (some true)],λa=>cL a.1 a.2⟩)::mC
theorem sH:Gd mD:=vH sG 16 Tryz.f16 [(0,⟨⟨[(60,false,[dI])],[]⟩,
 ⟨[],[]⟩,some ⟨[(4,false,[dB])],[]⟩⟩),
 (2,⟨⟨[(78,false,[dI])],[]⟩,
 ⟨[],[]⟩,some ⟨[(4,false,[dB])],[]⟩⟩)] Tryz.func16
def co (l0:List vD):Option (List vD) :=
 (vS ([]:List vD) l0).bind λzs5 =>
 some zs5
def mE:FL:=(175,⟨[.val false (.one (.sl vX)) false],[.val false (.one (.sl vX)) (some true)],λa=>co a⟩)::mD
theorem sI:Gd mE:=vH sH 175 Tryz.f175 [] Tryz.func175
def aU (v0:wz):Option wz :=
 (vS ([]:List vP) v0.1).bind λzs6 =>
 (vS ([]:List Int) v0.2).bind λzs10 =>
 some (zs6,zs10)
def mF:FL:=(176,⟨[.val true xw false],[.val true xw (some true)],λa=>aU a⟩)::mE
theorem sJ:Gd mF:=vH sI 176 Tryz.f176 [] Tryz.func176
def ak (b0:vw):Option vw :=
 (vS ([]:List Pt) b0.2.2.1).bind λzs8 =>
 (co b0.2.2.2.1).bind λt12 =>
 (aU (b0.2.2.2.2.1,b0.2.2.2.2.2.1)).bind λt16 =>
 some (b0.1,b0.2.1,zs8,t12,t16.1,t16.2,b0.2.2.2.2.2.2.1,b0.2.2.2.2.2.2.2.1,b0.2.2.2.2.2.2.2.2.1,b0.2.2.2.2.2.2.2.2.2.1,b0.2.2.2.2.2.2.2.2.2.2)
def mG:FL:=(83,⟨[.val true vN false],[.val true vN (some true)],λa=>ak a⟩)::mF
theorem sK:Gd mG:=vH sJ 83 Tryz.f83 [] Tryz.func83
def aK (n0:Int):Option Int :=
 cond (decide (n0>=1000000)) (some n0) (some (vA (n0+1)))
def mH:FL:=(143,⟨[.val false vG false],[.val false vG (some true)],λa=>aK a⟩)::mG
theorem sL:Gd mH:=vH sK 143 Tryz.f143 [] Tryz.func143
def ae (x0:Int) (least1:Int) (most2:Int):Option Bool :=
 (cond (decide (x0>=least1)) (some (decide (x0<=most2))) (some false)).bind λt14 =>
 some t14
def mI:FL:=(103,⟨[.val false vG false,.val false vG false,.val false vG false],[.val false wD (some true)],λa=>ae a.1 a.2.1 a.2.2⟩)::mH
theorem sM:Gd mI:=vH sL 103 Tryz.f103 [] Tryz.func103
def cU (e0:vD):Option Bool :=
 (ae e0.1 1 99).bind λt5 =>
 (cond t5
 ((ae e0.2.1 1 9999).bind λt9 =>
 some t9)
 (some false)).bind λt10 =>
 (cond t10
 ((ae e0.2.2.1 0 7).bind λt14 =>
 some t14)
 (some false)).bind λt15 =>
 (cond t15
 ((ae e0.2.2.2.1 0 4).bind λt19 =>
 some t19)
 (some false)).bind λt20 =>
 (cond t20
 ((cond (!e0.2.2.2.2) (some true) (some (e0.2.2.2.1==0))).bind λt29 =>
 some t29)
 (some false)).bind λt30 =>
 some t30
def mJ:FL:=(248,⟨[.val true vX false],[.val false wD (some true)],λa=>cU a⟩)::mI
theorem sN:Gd mJ:=vH sM 248 Tryz.f248 [] Tryz.func248
def bE (e0:vD) (tag1:Int) (mac2:Int):Option Bool :=
 cond (e0.1 != tag1) (some (decide (e0.1<tag1))) (some (decide (e0.2.1<mac2)))
def mK:FL:=(249,⟨[.val true vX false,.val false vG false,.val false vG false],[.val false wD (some true)],λa=>bE a.1 a.2.1 a.2.2⟩)::mJ
theorem sO:Gd mK:=vH sN 249 Tryz.f249 [] Tryz.func249
def jv (l0:List vD) (i3:Int):Option (Int⊕(Unit⊕Bool)) :=
 cond (decide (i3<(l0.length:Int)))
 ((at? l0 i3).bind λx12 =>
 (cU x12).bind λt14 =>
 (cond (!t14)
 (some true)
 ((cond (decide (i3>0))
 ((at? l0 (vA (i3-1))).bind λx23 =>
 (at? l0 i3).bind λx27 =>
 (at? l0 i3).bind λx32 =>
 (bE x23 x27.1 x32.2.1).bind λt35 =>
 some (!t35))
 (some false)).bind λt37 =>
 some t37)).bind λt38 =>
 cond t38 (some (.inr (.inr false))) (some (.inl (vA (i3+1)))))
 (some (.inr (.inl ())))
def cS (l0:List vD):Option Bool :=
 (loop (λz=>jv l0 z) 0).bind (Sum.elim (λd =>
 let t2:=decide ((l0.length:Int)<=12)
 some t2) (λr=>some r))
def mL:FL:=(148,⟨[.val false (.one (.sl vX)) false],[.val false wD (some true)],λa=>cS a⟩)::mK
theorem sP:Gd mL:=vH sO 148 Tryz.f148 [(0,⟨⟨(3,false,[dI])::us 17 21 [],[]⟩,
 ⟨[],[]⟩,some ⟨[(2,false,[dB])],[]⟩⟩)] Tryz.func148
def aV (l0:List vD) (tag1:Int) (mac2:Int) (i7:Int):Option (Int⊕(Unit⊕Int)) :=
 cond (decide (i7<(l0.length:Int)))
 ((at? l0 i7).bind λx16 =>
 (cond (x16.1==tag1)
 ((at? l0 i7).bind λx24 =>
 some (x24.2.1==mac2))
 (some false)).bind λt29 =>
 cond t29 (some (.inr (.inr i7))) (some (.inl (vA (i7+1)))))
 (some (.inr (.inl ())))
def bR (l0:List vD) (tag1:Int) (mac2:Int):Option Int :=
 (loop (λz=>aV l0 tag1 mac2 z) 0).bind (Sum.elim (λd =>
 some (-1)) (λr=>some r))
def mM:FL:=(270,⟨[.val false (.one (.sl vX)) false,.val false vG false,.val false vG false],[.val false vG (some true)],λa=>bR a.1 a.2.1 a.2.2⟩)::mL
theorem sQ:Gd mM:=vH sP 270 Tryz.f270 [(0,⟨⟨(7,false,[dI])::us 22 7 [],[]⟩,
 ⟨[],[]⟩,some ⟨[(6,false,[dI])],[]⟩⟩)] Tryz.func270
def aO (p0:List vD) (i1:vD) (t6:Bool) (t7:Int) (t5:List vD):Option ((Bool×Int×List vD)⊕(Bool×List vD)) :=
 cond (decide (t7<(p0.length:Int)))
 ((cond (!t6)
 ((at? p0 t7).bind λx20 =>
 (bE x20 i1.1 i1.2.1).bind λt26 =>
 some (!t26))
 (some false)).bind λt28 =>
 cond t28
 ((vS t5 [i1]).bind λzs32 =>
 (at? p0 t7).bind λx35 =>
 (cond (x35.1 != i1.1)
 (some true)
 ((at? p0 t7).bind λx44 =>
 some (x44.2.1 != i1.2.1))).bind λt50 =>
 cond t50
 ((at? p0 t7).bind λx54 =>
 (vS zs32 [x54]).bind λzs57 =>
 some (.inl (true,vA (t7+1),zs57)))
 (some (.inl (true,vA (t7+1),zs32))))
 ((at? p0 t7).bind λx35_1 =>
 (cond (x35_1.1 != i1.1)
 (some true)
 ((at? p0 t7).bind λx44_1 =>
 some (x44_1.2.1 != i1.2.1))).bind λt50_1 =>
 cond t50_1
 ((at? p0 t7).bind λx54_1 =>
 (vS t5 [x54_1]).bind λzs57_1 =>
 some (.inl (t6,vA (t7+1),zs57_1)))
 (some (.inl (t6,vA (t7+1),t5)))))
 (some (.inr (t6,t5)))
def cV (p0:List vD) (i1:vD):Option (List vD) :=
 (loop (λz=>aO p0 i1 z.1 z.2.1 z.2.2) (false,0,([]:List vD))).bind λd =>
 cond (!d.1)
 ((vS d.2 [i1]).bind λzs63 =>
 some zs63)
 (some d.2)
def mN:FL:=(271,⟨[.val false (.one (.sl vX)) false,.val true vX false],[.val false (.one (.sl vX)) (some true)],λa=>cV a.1 a.2⟩)::mM
theorem sR:Gd mN:=vH sQ 271 Tryz.f271 [(0,⟨⟨(5,false,[.own 1000000000])::(6,false,[dB])::(7,false,[dI])::us 18 10 (us 42 8 []),[(1000000000,.root vX true)]⟩,
 ⟨[(5,false,[.own 1000000300]),(6,false,[dB])],[(1000000300,.root vX true)]⟩,none⟩)] Tryz.func271
def cp (l0:List vD) (tag1:Int) (mac2:Int) (port3:Int):Option (List vD) :=
 (bR l0 tag1 mac2).bind λt18 =>
 (cS l0).bind λt20 =>
 (cond (!t20)
 (some true)
 ((cU (tag1,mac2,port3,0,false)).bind λt24 =>
 some (!t24))).bind λt26 =>
 (cond t26
 (some true)
 ((cond (decide (t18>=0))
 ((at? l0 t18).bind λx33 =>
 some x33.2.2.2.2)
 (some false)).bind λt36 =>
 some t36)).bind λt37 =>
 (cond t37
 (some true)
 ((cond (decide (t18<0)) (some (decide ((l0.length:Int)>=12))) (some false)).bind λt45 =>
 some t45)).bind λt46 =>
 cond t46
 ((co l0).bind λt48 =>
 some t48)
 ((cV l0 (tag1,mac2,port3,0,false)).bind λt51 =>
 some t51)
def mO:FL:=(161,⟨[.val false (.one (.sl vX)) false,.val false vG false,.val false vG false,.val false vG false],[.val false (.one (.sl vX)) (some true)],λa=>cp a.1 a.2.1 a.2.2.1 a.2.2.2⟩)::mN
theorem sS:Gd mO:=vH sR 161 Tryz.f161 [] Tryz.func161
def eP (v0:AO):Option Bool :=
 (ae v0.1 1 99).bind λt5 =>
 (cond t5
 ((ae v0.2.1 0 100000).bind λt9 =>
 some t9)
 (some false)).bind λt10 =>
 (cond t10
 ((ae v0.2.2.1 0 10).bind λt14 =>
 some t14)
 (some false)).bind λt15 =>
 (cond t15
 ((ae v0.2.2.2.1 1 99).bind λt19 =>
 some t19)
 (some false)).bind λt20 =>
 (cond t20
 ((ae v0.2.2.2.2 0 7).bind λt24 =>
 some t24)
 (some false)).bind λt25 =>
 some t25
def mP:FL:=(247,⟨[.val true Ag false],[.val false wD (some true)],λa=>eP a⟩)::mO
theorem sT:Gd mP:=vH sS 247 Tryz.f247 [] Tryz.func247
def fS (p0:Pt):Option Bool :=
 (ae p0.2.1 1 1000).bind λt5 =>
 (cond (!t5)
 (some true)
 ((cond (!p0.1) (some p0.2.2.1) (some false)).bind λt14 =>
 some t14)).bind λt15 =>
 cond t15
 (some false)
 (cond (!p0.2.2.1)
 (let t2:=p0.2.2.2.1==0&&(p0.2.2.2.2.1==0&&(p0.2.2.2.2.2.1==0&&(p0.2.2.2.2.2.2.1==0&&(p0.2.2.2.2.2.2.2==0))))
 some t2)
 ((eP p0.2.2.2).bind λt25 =>
 some t25))
def mQ:FL:=(147,⟨[.val true xS false],[.val false wD (some true)],λa=>fS a⟩)::mP
theorem sU:Gd mQ:=vH sT 147 Tryz.f147 [] Tryz.func147
def sV (v0:wz) (id1:Int) (i5:Int):Option (Int⊕(Unit⊕Int)) :=
 cond (decide (i5<(v0.1.length:Int)))
 ((at? v0.1 i5).bind λx16 =>
 cond (x16.1==id1) (some (.inr (.inr i5))) (some (.inl (vA (i5+1)))))
 (some (.inr (.inl ())))
def aC (v0:wz) (id1:Int):Option Int :=
 (loop (λz=>sV v0 id1 z) 0).bind (Sum.elim (λd =>
 some (-1)) (λr=>some r))
def mR:FL:=(250,⟨[.val true xw false,.val false vG false],[.val false vG (some true)],λa=>aC a.1 a.2⟩)::mQ
theorem sW:Gd mR:=vH sU 250 Tryz.f250 [(0,⟨⟨[(5,false,[dI])],[]⟩,
 ⟨[],[]⟩,some ⟨[(4,false,[dI])],[]⟩⟩)] Tryz.func250
def jw (p0:wz) (t27:Int) (t6:Int):Option (Int⊕(Unit⊕Bool)) :=
 cond (decide (t6<(p0.1.length:Int)))
 ((at? p0.1 t6).bind λx39 =>
 (ae x39.1 1 99).bind λt43 =>
 (cond (!t43)
 (some true)
 ((ae x39.2.1 0 (vA (t27-1))).bind λt49 =>
 some (!t49))).bind λt51 =>
 (cond t51
 (some true)
 ((ae x39.2.2 0 (vA (t27-1))).bind λt56 =>
 some (!t56))).bind λt58 =>
 (cond t58 (some true) (some ((xM .i64 x39.2.2 x39.2.1) != x39.2.2))).bind λt68 =>
 (cond t68
 (some true)
 ((cond (decide (t6>0))
 ((at? p0.1 (vA (t6-1))).bind λx77 =>
 some (decide (x77.1>=x39.1)))
 (some false)).bind λt83 =>
 some t83)).bind λt84 =>
 cond t84 (some (.inr (.inr false))) (some (.inl (vA (t6+1)))))
 (some (.inr (.inl ())))
def mS (p0:wz) (t8:Int):Option (Int⊕(Unit⊕Bool)) :=
 cond (decide (t8<(p0.2.length:Int)))
 ((at? p0.2 t8).bind λx96 =>
 (aC p0 x96).bind λt98 =>
 cond (decide (t98<0)) (some (.inr (.inr false))) (some (.inl (vA (t8+1)))))
 (some (.inr (.inl ())))
def aS (p0:wz) (i1:Int):Option Bool :=
 (ae i1 1 6).bind λt10 =>
 (cond (!t10) (some true) (some ((p0.2.length:Int) != i1))).bind λt18 =>
 (cond t18 (some true) (some (decide ((p0.1.length:Int)>6)))).bind λt24 =>
 cond t24
 (some false)
 ((shl .i64 1 (IntKind.u64.wrap (i1))).bind λt27 =>
 (loop (λz=>jw p0 t27 z) 0).bind (Sum.elim (λd =>
 (loop (λz=>mS p0 z) 0).bind (Sum.elim (λd_1 =>
 some true) (λr=>some r))) (λr_1=>some r_1)))
def mT:FL:=(149,⟨[.val true xw false,.val false vG false],[.val false wD (some true)],λa=>aS a.1 a.2⟩)::mR
theorem sX:Gd mT:=vH sW 149 Tryz.f149 [(0,⟨⟨(6,false,[dI])::us 46 5 (us 53 5 (us 60 8 (us 70 14 []))),[]⟩,
 ⟨[],[]⟩,some ⟨[(4,false,[dB])],[]⟩⟩),
 (2,⟨⟨[(8,false,[dI])],[]⟩,
 ⟨[],[]⟩,some ⟨[(4,false,[dB])],[]⟩⟩)] Tryz.func149
def iB (b0:vw):Option Bool :=
 (ae b0.2.2.2.2.2.2.1 0 1000000).bind λt5 =>
 (cond t5
 ((ae b0.2.2.2.2.2.2.2.1 0 1000000).bind λt9 =>
 some t9)
 (some false)).bind λt10 =>
 (cond t10
 ((ae b0.2.2.2.2.2.2.2.2.1 0 1000000).bind λt14 =>
 some t14)
 (some false)).bind λt15 =>
 (cond t15
 ((ae b0.2.2.2.2.2.2.2.2.2.1 0 1000000).bind λt19 =>
 some t19)
 (some false)).bind λt20 =>
 (cond t20
 ((ae b0.2.2.2.2.2.2.2.2.2.2 0 1000000).bind λt24 =>
 some t24)
 (some false)).bind λt25 =>
 some t25
def mU:FL:=(150,⟨[.val true vN false],[.val false wD (some true)],λa=>iB a⟩)::mT
theorem sY:Gd mU:=vH sX 150 Tryz.f150 [] Tryz.func150
def jx (b0:vw) (i3:Int):Option (Int⊕(Unit⊕Bool)) :=
 cond (decide (i3<(b0.2.2.1.length:Int)))
 ((at? b0.2.2.1 i3).bind λx14 =>
 (fS x14).bind λt16 =>
 cond (!t16) (some (.inr (.inr false))) (some (.inl (vA (i3+1)))))
 (some (.inr (.inl ())))
def aR (b0:vw):Option Bool :=
 (loop (λz=>jx b0 z) 0).bind (Sum.elim (λd =>
 (ae b0.1 1 99).bind λt20 =>
 (cond t20 (some (decide ((b0.2.1.length:Int)<=10))) (some false)).bind λt26 =>
 (cond t26
 ((ae (b0.2.2.1.length:Int) 1 6).bind λt31 =>
 some t31)
 (some false)).bind λt32 =>
 (cond t32
 ((cS b0.2.2.2.1).bind λt36 =>
 some t36)
 (some false)).bind λt37 =>
 (cond t37
 ((aS (b0.2.2.2.2.1,b0.2.2.2.2.2.1) (b0.2.2.1.length:Int)).bind λt44 =>
 some t44)
 (some false)).bind λt45 =>
 (cond t45
 ((iB b0).bind λt48 =>
 some t48)
 (some false)).bind λt49 =>
 some t49) (λr=>some r))
def mV:FL:=(64,⟨[.val true vN false],[.val false wD (some true)],λa=>aR a⟩)::mU
theorem sZ:Gd mV:=vH sY 64 Tryz.f64 [(0,⟨⟨[(3,false,[dI])],[]⟩,
 ⟨[],[]⟩,some ⟨[(2,false,[dB])],[]⟩⟩)] Tryz.func64
def eQ (b0:vw) (port1:Int):Option Bool :=
 (aR b0).bind λt6 =>
 (cond t6
 ((ae port1 0 (vA ((b0.2.2.1.length:Int)-1))).bind λt13 =>
 some t13)
 (some false)).bind λt14 =>
 some t14
def mW:FL:=(253,⟨[.val true vN false,.val false vG false],[.val false wD (some true)],λa=>eQ a.1 a.2⟩)::mV
theorem ta:Gd mW:=vH sZ 253 Tryz.f253 [] Tryz.func253
def jy (f0:ym):Option Bool :=
 (ae f0.1 0 9999).bind λt5 =>
 (cond t5
 ((ae f0.2.1 1 9999).bind λt9 =>
 some t9)
 (some false)).bind λt10 =>
 (cond t10
 ((ae f0.2.2.1 0 99).bind λt14 =>
 some t14)
 (some false)).bind λt15 =>
 (cond t15 (some (decide ((f0.2.2.2.length:Int)<=20))) (some false)).bind λt21 =>
 some t21
def mX:FL:=(254,⟨[.val true zn false],[.val false wD (some true)],λa=>jy a⟩)::mW
theorem tb:Gd mX:=vH ta 254 Tryz.f254 [] Tryz.func254
def iC (a0:AO) (b1:AO):Option Bool :=
 cond (a0.1 != b1.1)
 (some (decide (a0.1<b1.1)))
 (cond (a0.2.1 != b1.2.1)
 (some (decide (a0.2.1<b1.2.1)))
 (cond (a0.2.2.2.1 != b1.2.2.2.1)
 (let t4:=decide (a0.2.2.2.1<b1.2.2.2.1)
 some t4)
 (let t4_1:=decide (a0.2.2.2.2<b1.2.2.2.2)
 some t4_1)))
def mY:FL:=(357,⟨[.val true Ag false,.val true Ag false],[.val false wD (some true)],λa=>iC a.1 a.2⟩)::mX
theorem td:Gd mY:=vH tb 357 Tryz.f357 [] Tryz.func357
def jz (v0:AO) (cost1:Int):Option (AO×Bool) :=
 (eP v0).bind λt8 =>
 (cond (!t8)
 (some true)
 ((ae cost1 1 1000).bind λt12 =>
 some (!t12))).bind λt14 =>
 cond t14
 (some (v0,false))
 ((eP (v0.1,vA (v0.2.1+cost1),vA (v0.2.2.1+1),v0.2.2.2.1,v0.2.2.2.2)).bind λt27 =>
 cond (!t27)
 (some (v0,false))
 (some ((v0.1,vA (v0.2.1+cost1),vA (v0.2.2.1+1),v0.2.2.2.1,v0.2.2.2.2),true)))
def mZ:FL:=(368,⟨[.val true Ag false,.val false vG false],[.val true Ag (some true),.val false wD (some true)],λa=>jz a.1 a.2⟩)::mY
theorem te:Gd mZ:=vH td 368 Tryz.f368 [] Tryz.func368
def jA (p0:Int) (i1:List Pt) (t8:Int) (t9:Int) (b0:Int) (b1:Int) (b2:Int) (b3:Int) (b4:Int) (b0_1:Int) (b1_1:Int) (b2_1:Int) (b3_1:Int) (b4_1:Int):Option ((Int×Int×Int×Int×Int×Int×Int×Int×Int×Int×Int×Int)⊕(Int×Int×Int×Int×Int×Int×Int×Int×Int×Int×Int)) :=
 cond (decide (t9<(i1.length:Int)))
 ((at? i1 t9).bind λx24 =>
 (cond (!x24.1)
 (some true)
 ((at? i1 t9).bind λx31 =>
 some (!x31.2.2.1))).bind λt35 =>
 cond t35
 (some (.inl (t8,vA (t9+1),b0,b1,b2,b3,b4,b0_1,b1_1,b2_1,b3_1,b4_1)))
 ((at? i1 t9).bind λx39 =>
 (at? i1 t9).bind λx44 =>
 (jz x39.2.2.2 x44.2.1).bind λt47 =>
 (cond t47.2 (some (decide (t47.1.1<p0))) (some false)).bind λt56 =>
 (cond t56
 ((cond (decide (t8<0))
 (some true)
 ((iC t47.1 (b0_1,b1_1,b2_1,b3_1,b4_1)).bind λt63 =>
 some t63)).bind λt64 =>
 some t64)
 (some false)).bind λt65 =>
 cond t65
 (some (.inl (t9,vA (t9+1),t47.1.1,t47.1.2.1,t47.1.2.2.1,p0,0,t47.1.1,t47.1.2.1,t47.1.2.2.1,t47.1.2.2.2.1,t47.1.2.2.2.2)))
 (some (.inl (t8,vA (t9+1),b0,b1,b2,b3,b4,b0_1,b1_1,b2_1,b3_1,b4_1)))))
 (some (.inr (t8,b0,b1,b2,b3,b4,b0_1,b1_1,b2_1,b3_1,b4_1)))
def fT (p0:Int) (i1:List Pt):Option (AO×Int) :=
 (loop (λz=>jA p0 i1 z.1 z.2.1 z.2.2.1 z.2.2.2.1 z.2.2.2.2.1 z.2.2.2.2.2.1 z.2.2.2.2.2.2.1 z.2.2.2.2.2.2.2.1 z.2.2.2.2.2.2.2.2.1 z.2.2.2.2.2.2.2.2.2.1 z.2.2.2.2.2.2.2.2.2.2.1 z.2.2.2.2.2.2.2.2.2.2.2) ((-1),0,p0,0,0,p0,0,0,0,0,0,0)).bind λd =>
 some ((d.2.1,d.2.2.1,d.2.2.2.1,d.2.2.2.2.1,d.2.2.2.2.2.1),d.1)
def na:FL:=(356,⟨[.val false vG false,.val false (.one (.sl xS)) false],[.val true Ag (some true),.val false vG (some true)],λa=>fT a.1 a.2⟩)::mZ
theorem tg:Gd na:=vH te 356 Tryz.f356 [(0,⟨⟨(8,false,[dI])::(9,false,[dI])::us 29 6 (us 52 4 (us 58 7 [])),[(266240,.box [dI,dI,dI,dI,dI]),(526336,.box [dI,dI,dI,dI,dI])]⟩,
 ⟨[(8,false,[dI])],[(266240,.box [dI,dI,dI,dI,dI]),(526336,.box [dI,dI,dI,dI,dI])]⟩,none⟩)] Tryz.func356
def iD (id0:Int) (l1:List Pt) (port2:Int):Option AO :=
 (fT id0 l1).bind λt12 =>
 some (t12.1.1,t12.1.2.1,t12.1.2.2.1,t12.1.2.2.2.1,port2)
def nb:FL:=(358,⟨[.val false vG false,.val false (.one (.sl xS)) false,.val false vG false],[.val true Ag (some true)],λa=>iD a.1 a.2.1 a.2.2⟩)::na
theorem th:Gd nb:=vH tg 358 Tryz.f358 [] Tryz.func358
def fy (id0:Int) (l1:List Pt) (port2:Int):Option Int :=
 (ae port2 0 (vA ((l1.length:Int)-1))).bind λt13 =>
 (cond (!t13)
 (some true)
 ((at? l1 port2).bind λx18 =>
 some (!x18.1))).bind λt22 =>
 cond t22
 (some 4)
 ((fT id0 l1).bind λt26 =>
 cond (t26.2==port2)
 (some 1)
 ((at? l1 port2).bind λx36 =>
 (cond (!x36.2.2.1)
 (some true)
 ((iD id0 l1 port2).bind λt44 =>
 (at? l1 port2).bind λx47 =>
 (iC t44 x47.2.2.2).bind λt50 =>
 some t50)).bind λt51 =>
 cond t51 (some 2) (some 3)))
def nc:FL:=(325,⟨[.val false vG false,.val false (.one (.sl xS)) false,.val false vG false],[.val false vG (some true)],λa=>fy a.1 a.2.1 a.2.2⟩)::nb
theorem tj:Gd nc:=vH th 325 Tryz.f325 [] Tryz.func325
def fU (id0:Int) (l1:List Pt) (n5:Int) (i6:Int):Option ((Int×Int)⊕Int) :=
 (cond (decide (i6<(l1.length:Int))) (some (decide (i6<6))) (some false)).bind λt14 =>
 cond t14
 ((fy id0 l1 i6).bind λt20 =>
 cond (decide (t20<=2))
 ((shl .i64 1 (IntKind.u64.wrap (i6))).bind λt25 =>
 some (.inl (CP .i64 n5 t25,vA (i6+1))))
 (some (.inl (n5,vA (i6+1)))))
 (some (.inr n5))
def fV (id0:Int) (l1:List Pt):Option Int :=
 (loop (λz=>fU id0 l1 z.1 z.2) (0,0)).bind λd =>
 some d
def nd:FL:=(255,⟨[.val false vG false,.val false (.one (.sl xS)) false],[.val false vG (some true)],λa=>fV a.1 a.2⟩)::nc
theorem tk:Gd nd:=vH tj 255 Tryz.f255 [(0,⟨⟨[(5,false,[dI]),(6,false,[dI]),(12,false,[.undef]),(13,false,[.undef])],[]⟩,
 ⟨[(5,false,[dI])],[]⟩,none⟩)] Tryz.func255
def aX (n0:Int) (port1:Int):Option Bool :=
 (ae port1 0 7).bind λt6 =>
 (cond t6
 ((shr .i64 n0 (IntKind.u64.wrap (port1))).bind λt11 =>
 some ((xM .i64 t11 1)==1))
 (some false)).bind λt14 =>
 some t14
def ne:FL:=(257,⟨[.val false vG false,.val false vG false],[.val false wD (some true)],λa=>aX a.1 a.2⟩)::nd
theorem tn:Gd ne:=vH tk 257 Tryz.f257 [] Tryz.func257
def iE (v0:wz) (port1:Int) (tag2:Int):Option (Int×Bool) :=
 (ae port1 0 (vA ((v0.2.length:Int)-1))).bind λt14 =>
 cond (!t14)
 (some (0,false))
 (cond (tag2==0)
 ((at? v0.2 port1).bind λx21 =>
 (aC v0 x21).bind λt25 =>
 (cond (decide (t25<0))
 (some true)
 ((at? v0.1 t25).bind λx32 =>
 (aX x32.2.1 port1).bind λt36 =>
 some (!t36))).bind λt38 =>
 cond t38 (some (0,false)) (some (x21,true)))
 ((aC v0 tag2).bind λt25_1 =>
 (cond (decide (t25_1<0))
 (some true)
 ((at? v0.1 t25_1).bind λx32_1 =>
 (aX x32_1.2.1 port1).bind λt36_1 =>
 some (!t36_1))).bind λt38_1 =>
 cond t38_1 (some (0,false)) (some (tag2,true))))
def ng:FL:=(256,⟨[.val true xw false,.val false vG false,.val false vG false],[.val false vG (some true),.val false wD (some true)],λa=>iE a.1 a.2.1 a.2.2⟩)::ne
theorem to:Gd ng:=vH tn 256 Tryz.f256 [] Tryz.func256
def jC (v0:wz) (id1:Int):Option Int :=
 (aC v0 id1).bind λt8 =>
 cond (decide (t8<0))
 (some 0)
 ((at? v0.1 t8).bind λx14 =>
 some x14.2.1)
def nh:FL:=(258,⟨[.val true xw false,.val false vG false],[.val false vG (some true)],λa=>jC a.1 a.2⟩)::ng
theorem tq:Gd nh:=vH to 258 Tryz.f258 [] Tryz.func258
def iF (l0:List vD) (tag1:Int) (mac2:Int):Option Int :=
 (bR l0 tag1 mac2).bind λt11 =>
 cond (decide (t11<0))
 (some (-1))
 ((at? l0 t11).bind λx16 =>
 some x16.2.2.1)
def ni:FL:=(259,⟨[.val false (.one (.sl vX)) false,.val false vG false,.val false vG false],[.val false vG (some true)],λa=>iF a.1 a.2.1 a.2.2⟩)::nh
theorem tu:Gd ni:=vH tq 259 Tryz.f259 [] Tryz.func259
def jD (f0:ym):Option ym :=
 (vS ([]:List Int) f0.2.2.2).bind λzs8 =>
 some (f0.1,f0.2.1,f0.2.2.1,zs8)
def nj:FL:=(359,⟨[.val true zn false],[.val true zn (some true)],λa=>jD a⟩)::ni
theorem tv:Gd nj:=vH tu 359 Tryz.f359 [] Tryz.func359
def iG (f0:ym) (tag1:Int):Option ym :=
 (jD f0).bind λt7 =>
 some (t7.1,t7.2.1,tag1,t7.2.2.2)
def nk:FL:=(326,⟨[.val true zn false,.val false vG false],[.val true zn (some true)],λa=>iG a.1 a.2⟩)::nj
theorem tz:Gd nk:=vH tv 326 Tryz.f326 [] Tryz.func326
def iH (v0:wz) (id1:Int) (port2:Int):Option Int :=
 (aC v0 id1).bind λt10 =>
 (cond (decide (t10<0))
 (some true)
 ((at? v0.1 t10).bind λx17 =>
 (aX x17.2.2 port2).bind λt21 =>
 some t21)).bind λt22 =>
 cond t22 (some 0) (some id1)
def nl:FL:=(327,⟨[.val true xw false,.val false vG false,.val false vG false],[.val false vG (some true)],λa=>iH a.1 a.2.1 a.2.2⟩)::nk
theorem tA:Gd nl:=vH tz 327 Tryz.f327 [] Tryz.func327
def eR (b0:vw) (tag1:Int) (bits2:Int) (f3:ym) (i10:Int) (out9:List wF):Option ((Int×List wF)⊕(List wF)) :=
 cond (decide (i10<(b0.2.2.1.length:Int)))
 ((aX bits2 i10).bind λt21 =>
 cond t21
 ((iH (b0.2.2.2.2.1,b0.2.2.2.2.2.1) tag1 i10).bind λt29 =>
 (iG f3 t29).bind λt30 =>
 (vS out9 [(i10,t30.1,t30.2.1,t30.2.2.1,t30.2.2.2)]).bind λzs33 =>
 some (.inl (vA (i10+1),zs33)))
 (some (.inl (vA (i10+1),out9))))
 (some (.inr out9))
def dA (b0:vw) (tag1:Int) (bits2:Int) (f3:ym):Option (List wF) :=
 (loop (λz=>eR b0 tag1 bits2 f3 z.1 z.2) (0,([]:List wF))).bind λd =>
 some d
def nn:FL:=(260,⟨[.val true vN false,.val false vG false,.val false vG false,.val true zn false],[.val false (.one (.sl Ah)) (some true)],λa=>dA a.1 a.2.1 a.2.2.1 a.2.2.2⟩)::nl
theorem tB:Gd nn:=vH tA 260 Tryz.f260 [(0,⟨⟨[(9,false,[.own 1000000000]),(10,false,[dI])],[(1000000000,.root Ah true)]⟩,
 ⟨[(9,false,[.own 1000000300])],[(1000000300,.root Ah true)]⟩,none⟩)] Tryz.func260
def eM (p0:vw) (i1:Int) (a2:ym):Option (vw×List wF) :=
 (ak p0).bind λt16 =>
 (eQ p0 i1).bind λt20 =>
 (cond (!t20)
 (some true)
 ((jy a2).bind λt24 =>
 some (!t24))).bind λt26 =>
 cond t26
 (some (t16,([]:List wF)))
 ((fV p0.1 p0.2.2.1).bind λt33 =>
 (iE (p0.2.2.2.2.1,p0.2.2.2.2.2.1) i1 a2.2.2.1).bind λt40 =>
 (aX t33 i1).bind λt45 =>
 (cond (!t45) (some true) (some (!t40.2))).bind λt50 =>
 cond t50
 ((aK p0.2.2.2.2.2.2.2.2.2.1).bind λt53 =>
 some ((t16.1,t16.2.1,t16.2.2.1,t16.2.2.2.1,t16.2.2.2.2.1,t16.2.2.2.2.2.1,t16.2.2.2.2.2.2.1,t16.2.2.2.2.2.2.2.1,t16.2.2.2.2.2.2.2.2.1,t53,t16.2.2.2.2.2.2.2.2.2.2),([]:List wF)))
 ((cp p0.2.2.2.1 t40.1 a2.2.1 i1).bind λt63 =>
 (aK p0.2.2.2.2.2.2.2.2.2.2).bind λt67 =>
 (jC (p0.2.2.2.2.1,p0.2.2.2.2.2.1) t40.1).bind λt73 =>
 (shl .i64 1 (IntKind.u64.wrap (i1))).bind λt77 =>
 let t13:=BE .i64 (xM .i64 t33 t73) t77
 cond (a2.1 != 0)
 ((iF t63 t40.1 a2.1).bind λt87 =>
 cond (decide (t87>=0))
 ((shl .i64 1 (IntKind.u64.wrap (t87))).bind λt93 =>
 (dA p0 t40.1 (xM .i64 t13 t93) a2).bind λt100 =>
 some ((t16.1,t16.2.1,t16.2.2.1,t63,t16.2.2.2.2.1,t16.2.2.2.2.2.1,t16.2.2.2.2.2.2.1,t16.2.2.2.2.2.2.2.1,t16.2.2.2.2.2.2.2.2.1,t16.2.2.2.2.2.2.2.2.2.1,t67),t100))
 ((dA p0 t40.1 t13 a2).bind λt100_1 =>
 some ((t16.1,t16.2.1,t16.2.2.1,t63,t16.2.2.2.2.1,t16.2.2.2.2.2.1,t16.2.2.2.2.2.2.1,t16.2.2.2.2.2.2.2.1,t16.2.2.2.2.2.2.2.2.1,t16.2.2.2.2.2.2.2.2.2.1,t67),t100_1)))
 ((dA p0 t40.1 t13 a2).bind λt100_2 =>
 some ((t16.1,t16.2.1,t16.2.2.1,t63,t16.2.2.2.2.1,t16.2.2.2.2.2.1,t16.2.2.2.2.2.2.1,t16.2.2.2.2.2.2.2.1,t16.2.2.2.2.2.2.2.2.1,t16.2.2.2.2.2.2.2.2.2.1,t67),t100_2))))
def np:FL:=(152,⟨[.val true vN false,.val false vG false,.val true zn false],[.val true vN (some true),.val false (.one (.sl Ah)) (some true)],λa=>eM a.1 a.2.1 a.2.2⟩)::nn
theorem tC:Gd np:=vH tB 152 Tryz.f152 [] Tryz.func152
def eS (l0:List vD) (port1:Int) (i6:Int) (out5:List vD):Option ((Int×List vD)⊕(List vD)) :=
 cond (decide (i6<(l0.length:Int)))
 ((at? l0 i6).bind λx16 =>
 (cond x16.2.2.2.2
 (some true)
 ((at? l0 i6).bind λx22 =>
 some (x22.2.2.1 != port1))).bind λt27 =>
 cond t27
 ((at? l0 i6).bind λx31 =>
 (vS out5 [x31]).bind λzs34 =>
 some (.inl (vA (i6+1),zs34)))
 (some (.inl (vA (i6+1),out5))))
 (some (.inr out5))
def iI (l0:List vD) (port1:Int):Option (List vD) :=
 (loop (λz=>eS l0 port1 z.1 z.2) (0,([]:List vD))).bind λd =>
 some d
def nq:FL:=(342,⟨[.val false (.one (.sl vX)) false,.val false vG false],[.val false (.one (.sl vX)) (some true)],λa=>iI a.1 a.2⟩)::np
theorem tD:Gd nq:=vH tC 342 Tryz.f342 [(0,⟨⟨(5,false,[.own 1000000000])::(6,false,[dI])::us 20 7 [],[(1000000000,.root vX true)]⟩,
 ⟨[(5,false,[.own 1000000300])],[(1000000300,.root vX true)]⟩,none⟩)] Tryz.func342
def iJ (b0:vw) (t13:Int) (i4:Int) (b0_1:Int) (b1:List UInt8) (b6:Int) (b7:Int) (b8:Int) (b9:Int) (b10:Int) (b3:List vD):Option ((Int×Int×List UInt8×Int×Int×Int×Int×Int×List vD)⊕(Int×List UInt8×Int×Int×Int×Int×Int×List vD)) :=
 cond (decide (i4<(b0.2.2.1.length:Int)))
 ((aX t13 i4).bind λt23 =>
 cond (!t23)
 ((iI b3 i4).bind λt28 =>
 some (.inl (vA (i4+1),b0_1,b1,b6,b7,b8,b9,b10,t28)))
 (some (.inl (vA (i4+1),b0_1,b1,b6,b7,b8,b9,b10,b3))))
 (some (.inr (b0_1,b1,b6,b7,b8,b9,b10,b3)))
def bC (b0:vw):Option vw :=
 (aK b0.2.2.2.2.2.2.2.2.2.2).bind λt7 =>
 (fV b0.1 b0.2.2.1).bind λt13 =>
 (loop (λz=>iJ b0 t13 z.1 z.2.1 z.2.2.1 z.2.2.2.1 z.2.2.2.2.1 z.2.2.2.2.2.1 z.2.2.2.2.2.2.1 z.2.2.2.2.2.2.2.1 z.2.2.2.2.2.2.2.2) (0,b0.1,b0.2.1,b0.2.2.2.2.2.2.1,b0.2.2.2.2.2.2.2.1,b0.2.2.2.2.2.2.2.2.1,b0.2.2.2.2.2.2.2.2.2.1,t7,b0.2.2.2.1)).bind λd =>
 some (d.1,d.2.1,b0.2.2.1,d.2.2.2.2.2.2.2,b0.2.2.2.2.1,b0.2.2.2.2.2.1,d.2.2.1,d.2.2.2.1,d.2.2.2.2.1,d.2.2.2.2.2.1,d.2.2.2.2.2.2.1)
def nr:FL:=(291,⟨[.val true vN true],[.val true vN (some true)],λa=>bC a⟩)::nq
theorem tE:Gd nr:=vH tD 291 Tryz.f291 [(0,⟨⟨[(4,false,[dI])],[(1024,.box [dI,dS,.same 3,.own 1000000000,.same 5,.same 6,dI,dI,dI,dI,dI]),(1000000000,.root vX true)]⟩,
 ⟨[],[(1024,.box [dI,dS,.same 3,.own 1000000300,.same 5,.same 6,dI,dI,dI,dI,dI]),(1000000300,.root vX true)]⟩,none⟩)] Tryz.func291
def iK (b0:vw) (port1:Int) (v2:AO):Option vw :=
 (ak b0).bind λt9 =>
 (eQ b0 port1).bind λt12 =>
 (cond (!t12)
 (some true)
 ((at? b0.2.2.1 port1).bind λx18 =>
 some (!x18.1))).bind λt22 =>
 (cond t22
 (some true)
 ((eP v2).bind λt25 =>
 some (!t25))).bind λt27 =>
 cond t27
 (some t9)
 ((ix t9.2.2.1.length port1).bind λj32 =>
 (t9.2.2.1[j32]?).bind λx =>
 (ix (t9.2.2.1.set j32 (x.1,x.2.1,true,x.2.2.2.1,x.2.2.2.2.1,x.2.2.2.2.2.1,x.2.2.2.2.2.2.1,x.2.2.2.2.2.2.2)).length port1).bind λj38 =>
 ((t9.2.2.1.set j32 (x.1,x.2.1,true,x.2.2.2.1,x.2.2.2.2.1,x.2.2.2.2.2.1,x.2.2.2.2.2.2.1,x.2.2.2.2.2.2.2))[j38]?).bind λx_1 =>
 (bC (t9.1,t9.2.1,(t9.2.2.1.set j32 (x.1,x.2.1,true,x.2.2.2.1,x.2.2.2.2.1,x.2.2.2.2.2.1,x.2.2.2.2.2.2.1,x.2.2.2.2.2.2.2)).set j38 (x_1.1,x_1.2.1,x_1.2.2.1,v2.1,v2.2.1,v2.2.2.1,v2.2.2.2.1,v2.2.2.2.2),t9.2.2.2.1,t9.2.2.2.2.1,t9.2.2.2.2.2.1,t9.2.2.2.2.2.2.1,t9.2.2.2.2.2.2.2.1,t9.2.2.2.2.2.2.2.2.1,t9.2.2.2.2.2.2.2.2.2.1,t9.2.2.2.2.2.2.2.2.2.2)).bind λt41 =>
 some t41)
def nu:FL:=(206,⟨[.val true vN false,.val false vG false,.val true Ag false],[.val true vN (some true)],λa=>iK a.1 a.2.1 a.2.2⟩)::nr
theorem tF:Gd nu:=vH tE 206 Tryz.f206 [] Tryz.func206
def iL (b0:vw) (port1:Int) (up2:Bool):Option vw :=
 (ak b0).bind λt9 =>
 (eQ b0 port1).bind λt12 =>
 cond (!t12)
 (some t9)
 ((at? b0.2.2.1 port1).bind λx22 =>
 (ix t9.2.2.1.length port1).bind λj26 =>
 (t9.2.2.1[j26]?).bind λx =>
 (bC (t9.1,t9.2.1,t9.2.2.1.set j26 (up2,x22.2.1,false,0,0,0,0,0),t9.2.2.2.1,t9.2.2.2.2.1,t9.2.2.2.2.2.1,t9.2.2.2.2.2.2.1,t9.2.2.2.2.2.2.2.1,t9.2.2.2.2.2.2.2.2.1,t9.2.2.2.2.2.2.2.2.2.1,t9.2.2.2.2.2.2.2.2.2.2)).bind λt28 =>
 some t28)
def nv:FL:=(207,⟨[.val true vN false,.val false vG false,.val false wD false],[.val true vN (some true)],λa=>iL a.1 a.2.1 a.2.2⟩)::nu
theorem tG:Gd nv:=vH tF 207 Tryz.f207 [] Tryz.func207
def aY (l0:List vD) (i4:Int) (out3:List vD):Option ((Int×List vD)⊕(List vD)) :=
 cond (decide (i4<(l0.length:Int)))
 ((at? l0 i4).bind λx15 =>
 cond x15.2.2.2.2
 ((vS out3 [x15]).bind λzs22 =>
 some (.inl (vA (i4+1),zs22)))
 (cond (decide (x15.2.2.2.1<4))
 ((vS out3 [(x15.1,x15.2.1,x15.2.2.1,vA (x15.2.2.2.1+1),x15.2.2.2.2)]).bind λzs33 =>
 some (.inl (vA (i4+1),zs33)))
 (some (.inl (vA (i4+1),out3)))))
 (some (.inr out3))
def de (l0:List vD):Option (List vD) :=
 (loop (λz=>aY l0 z.1 z.2) (0,([]:List vD))).bind λd =>
 some d
def nx:FL:=(301,⟨[.val false (.one (.sl vX)) false],[.val false (.one (.sl vX)) (some true)],λa=>de a⟩)::nv
theorem tH:Gd nx:=vH tG 301 Tryz.f301 [(0,⟨⟨[(3,false,[.own 1000000000]),(4,false,[dI])],[(1000000000,.root vX true)]⟩,
 ⟨[(3,false,[.own 1000000300])],[(1000000300,.root vX true)]⟩,none⟩)] Tryz.func301
def bW (b0:vw):Option vw :=
 (ak b0).bind λt5 =>
 (aR b0).bind λt7 =>
 cond (!t7)
 (some t5)
 ((aK b0.2.2.2.2.2.2.1).bind λt12 =>
 (de b0.2.2.2.1).bind λt16 =>
 (bC (t5.1,t5.2.1,t5.2.2.1,t16,t5.2.2.2.2.1,t5.2.2.2.2.2.1,t12,t5.2.2.2.2.2.2.2.1,t5.2.2.2.2.2.2.2.2.1,t5.2.2.2.2.2.2.2.2.2.1,t5.2.2.2.2.2.2.2.2.2.2)).bind λt19 =>
 some t19)
def ny:FL:=(208,⟨[.val true vN false],[.val true vN (some true)],λa=>bW a⟩)::nx
theorem tI:Gd ny:=vH tH 208 Tryz.f208 [] Tryz.func208
def dz (b0:vw) (x1:Act):Option vw :=
 cond (x1.1==3)
 ((eM b0 x1.2.1 (x1.2.2.2.2.1,x1.2.2.2.2.2.1,x1.2.2.2.2.2.2.1,x1.2.2.2.2.2.2.2.1)).bind λt17 =>
 some t17.1)
 (cond (x1.1==4)
 ((iK b0 x1.2.1 x1.2.2.2.2.2.2.2.2).bind λt28 =>
 some t28)
 (cond (x1.1==5)
 ((iL b0 x1.2.1 x1.2.2.1).bind λt36 =>
 some t36)
 (cond (x1.1==6)
 ((bW b0).bind λt40 =>
 some t40)
 ((ak b0).bind λt42 =>
 some t42))))
def nz:FL:=(109,⟨[.val true vN false,.val true Ai false],[.val true vN (some true)],λa=>dz a.1 a.2⟩)::ny
theorem tJ:Gd nz:=vH tI 109 Tryz.f109 [] Tryz.func109
def iM (l1:List Act) (i6:Int) (b0_1:Int) (b1:List UInt8) (b6:Int) (b7:Int) (b8:Int) (b9:Int) (b10:Int) (b2:List Pt) (b3:List vD) (b4:List vP) (b5:List Int):Option ((Int×Int×List UInt8×Int×Int×Int×Int×Int×List Pt×List vD×List vP×List Int)⊕(Int×List UInt8×Int×Int×Int×Int×Int×List Pt×List vD×List vP×List Int)) :=
 (cond (decide (i6<(l1.length:Int))) (some (decide (i6<60))) (some false)).bind λt16 =>
 cond t16
 ((at? l1 i6).bind λx22 =>
 (dz (b0_1,b1,b2,b3,b4,b5,b6,b7,b8,b9,b10) x22).bind λt24 =>
 some (.inl (vA (i6+1),t24.1,t24.2.1,t24.2.2.2.2.2.2.1,t24.2.2.2.2.2.2.2.1,t24.2.2.2.2.2.2.2.2.1,t24.2.2.2.2.2.2.2.2.2.1,t24.2.2.2.2.2.2.2.2.2.2,t24.2.2.1,t24.2.2.2.1,t24.2.2.2.2.1,t24.2.2.2.2.2.1)))
 (some (.inr (b0_1,b1,b6,b7,b8,b9,b10,b2,b3,b4,b5)))
def iw (b0:vw) (l1:List Act):Option vw :=
 (ak b0).bind λt8 =>
 (loop (λz=>iM l1 z.1 z.2.1 z.2.2.1 z.2.2.2.1 z.2.2.2.2.1 z.2.2.2.2.2.1 z.2.2.2.2.2.2.1 z.2.2.2.2.2.2.2.1 z.2.2.2.2.2.2.2.2.1 z.2.2.2.2.2.2.2.2.2.1 z.2.2.2.2.2.2.2.2.2.2.1 z.2.2.2.2.2.2.2.2.2.2.2) (0,t8.1,t8.2.1,t8.2.2.2.2.2.2.1,t8.2.2.2.2.2.2.2.1,t8.2.2.2.2.2.2.2.2.1,t8.2.2.2.2.2.2.2.2.2.1,t8.2.2.2.2.2.2.2.2.2.2,t8.2.2.1,t8.2.2.2.1,t8.2.2.2.2.1,t8.2.2.2.2.2.1)).bind λd =>
 some (d.1,d.2.1,d.2.2.2.2.2.2.2.1,d.2.2.2.2.2.2.2.2.1,d.2.2.2.2.2.2.2.2.2.1,d.2.2.2.2.2.2.2.2.2.2,d.2.2.1,d.2.2.2.1,d.2.2.2.2.1,d.2.2.2.2.2.1,d.2.2.2.2.2.2.1)
def nA:FL:=(28,⟨[.val true vN false,.val false (.one (.sl Ai)) false],[.val true vN (some true)],λa=>iw a.1 a.2⟩)::nz
theorem tK:Gd nA:=vH tJ 28 Tryz.f28 [(0,⟨⟨[(6,false,[dI]),(14,false,[.undef]),(15,false,[.undef])],[(265216,.box [dI,dS,.own 1000000000,.own 1000000001,.own 1000000002,.own 1000000003,dI,dI,dI,dI,dI]),(1000000000,.root xS true),(1000000001,.root vX true),(1000000002,.root wL true),(1000000003,.root vG true)]⟩,
 ⟨[],[(265216,.box [dI,dS,.own 1000000300,.own 1000000301,.own 1000000302,.own 1000000303,dI,dI,dI,dI,dI]),(1000000300,.root xS true),(1000000301,.root vX true),(1000000302,.root wL true),(1000000303,.root vG true)]⟩,none⟩)] Tryz.func28
def cz (l0:List vD):Option (List vD) :=
 (vS [] l0).bind λzs4 =>
 some zs4
def nB:FL:=(166,⟨[.val false (.one (.sl vX)) false],[.val false (.one (.sl vX)) (some true)],λa=>cz a⟩)::nA
theorem tL:Gd nB:=vH tK 166 Tryz.f166 [] Tryz.func166
def br (l0:List Int):Option (List Int) :=
 (vS [] l0).bind λzs4 =>
 some zs4
def nC:FL:=(78,⟨[.val false yl false],[.val false yl (some true)],λa=>br a⟩)::nB
theorem tM:Gd nC:=vH tL 78 Tryz.f78 [] Tryz.func78
def eT (v0:wz):Option wz :=
 (vS [] v0.1).bind λzs5 =>
 (br v0.2).bind λt8 =>
 some (zs5,t8)
def nD:FL:=(167,⟨[.val true xw false],[.val true xw (some true)],λa=>eT a⟩)::nC
theorem tN:Gd nD:=vH tM 167 Tryz.f167 [] Tryz.func167
def al (b0:vw):Option vw :=
 (vS [] b0.2.2.1).bind λzs5 =>
 (cz b0.2.2.2.1).bind λt9 =>
 (eT (b0.2.2.2.2.1,b0.2.2.2.2.2.1)).bind λt12 =>
 some (b0.1,b0.2.1,zs5,t9,t12.1,t12.2,b0.2.2.2.2.2.2.1,b0.2.2.2.2.2.2.2.1,b0.2.2.2.2.2.2.2.2.1,b0.2.2.2.2.2.2.2.2.2.1,b0.2.2.2.2.2.2.2.2.2.2)
def nE:FL:=(76,⟨[.val true vN false],[.val true vN (some true)],λa=>al a⟩)::nD
theorem tO:Gd nE:=vH tN 76 Tryz.f76 [] Tryz.func76
def ac (n0:Int) (low1:Int) (high2:Int):Option Bool :=
 (cond (decide (n0>=low1)) (some (decide (n0<=high2))) (some false)).bind λt14 =>
 some t14
def nF:FL:=(90,⟨[.val false vG false,.val false vG false,.val false vG false],[.val false wD (some true)],λa=>ac a.1 a.2.1 a.2.2⟩)::nE
theorem tP:Gd nF:=vH tO 90 Tryz.f90 [] Tryz.func90
def bG (n0:Int):Option Bool :=
 (ac n0 0 1000000).bind λt4 =>
 some t4
def nG:FL:=(134,⟨[.val false vG false],[.val false wD (some true)],λa=>bG a⟩)::nF
theorem tQ:Gd nG:=vH tP 134 Tryz.f134 [] Tryz.func134
def cA (v0:AO):Option Bool :=
 (ac v0.1 1 99).bind λt5 =>
 (cond t5
 ((ac v0.2.1 0 100000).bind λt9 =>
 some t9)
 (some false)).bind λt10 =>
 (cond t10
 ((ac v0.2.2.1 0 10).bind λt14 =>
 some t14)
 (some false)).bind λt15 =>
 (cond t15
 ((ac v0.2.2.2.1 1 99).bind λt19 =>
 some t19)
 (some false)).bind λt20 =>
 (cond t20
 ((ac v0.2.2.2.2 0 7).bind λt24 =>
 some t24)
 (some false)).bind λt25 =>
 some t25
def nH:FL:=(275,⟨[.val true Ag false],[.val false wD (some true)],λa=>cA a⟩)::nG
theorem tR:Gd nH:=vH tQ 275 Tryz.f275 [] Tryz.func275
def fW (p0:Pt):Option Bool :=
 (ac p0.2.1 1 1000).bind λt5 =>
 (cond (!t5)
 (some true)
 ((cond p0.2.2.1 (some (!p0.1)) (some false)).bind λt14 =>
 some t14)).bind λt15 =>
 cond t15
 (some false)
 (cond p0.2.2.1
 ((cA p0.2.2.2).bind λt20 =>
 some t20)
 (let t2:=p0.2.2.2.1==0&&(p0.2.2.2.2.1==0&&(p0.2.2.2.2.2.1==0&&(p0.2.2.2.2.2.2.1==0&&(p0.2.2.2.2.2.2.2==0))))
 some t2))
def nI:FL:=(168,⟨[.val true xS false],[.val false wD (some true)],λa=>fW a⟩)::nH
theorem tS:Gd nI:=vH tR 168 Tryz.f168 [] Tryz.func168
def dC (e0:vD):Option Bool :=
 (ac e0.1 1 99).bind λt5 =>
 (cond t5
 ((ac e0.2.1 1 9999).bind λt9 =>
 some t9)
 (some false)).bind λt10 =>
 (cond t10
 ((ac e0.2.2.1 0 7).bind λt14 =>
 some t14)
 (some false)).bind λt15 =>
 (cond t15
 ((ac e0.2.2.2.1 0 4).bind λt19 =>
 some t19)
 (some false)).bind λt20 =>
 (cond t20
 ((cond (!e0.2.2.2.2) (some true) (some (e0.2.2.2.1==0))).bind λt29 =>
 some t29)
 (some false)).bind λt30 =>
 some t30
def nJ:FL:=(276,⟨[.val true vX false],[.val false wD (some true)],λa=>dC a⟩)::nI
theorem tT:Gd nJ:=vH tS 276 Tryz.f276 [] Tryz.func276
def eU (e0:vD) (tag1:Int) (mac2:Int):Option Bool :=
 (cond (decide (e0.1>tag1))
 (some true)
 ((cond (e0.1==tag1) (some (decide (e0.2.1>mac2))) (some false)).bind λt21 =>
 some t21)).bind λt22 =>
 some t22
def nK:FL:=(277,⟨[.val true vX false,.val false vG false,.val false vG false],[.val false wD (some true)],λa=>eU a.1 a.2.1 a.2.2⟩)::nJ
theorem tU:Gd nK:=vH tT 277 Tryz.f277 [] Tryz.func277
def jE (l0:List vD) (t7:Int):Option (Int⊕(Unit⊕Bool)) :=
 cond (decide (t7<(l0.length:Int)))
 ((at? l0 t7).bind λx10 =>
 (dC x10).bind λt13 =>
 (cond (!t13)
 (some true)
 ((cond (decide (t7>0))
 ((at? l0 (vA (t7-1))).bind λx23 =>
 (at? l0 (vA (t7-1))).bind λx29 =>
 (eU x10 x23.1 x29.2.1).bind λt32 =>
 some (!t32))
 (some false)).bind λt34 =>
 some t34)).bind λt35 =>
 cond t35 (some (.inr (.inr false))) (some (.inl (vA (t7+1)))))
 (some (.inr (.inl ())))
def fX (l0:List vD):Option Bool :=
 (loop (λz=>jE l0 z) 0).bind (Sum.elim (λd =>
 let t2:=decide ((l0.length:Int)<=12)
 some t2) (λr=>some r))
def nL:FL:=(169,⟨[.val false (.one (.sl vX)) false],[.val false wD (some true)],λa=>fX a⟩)::nK
theorem tV:Gd nL:=vH tU 169 Tryz.f169 [(0,⟨⟨(7,false,[dI])::us 16 19 [],[]⟩,
 ⟨[],[]⟩,some ⟨[(2,false,[dB])],[]⟩⟩)] Tryz.func169
def fY (ports0:Int):Option Int :=
 (shl .i64 1 ports0).bind λt4 =>
 some (vA (t4-1))
def nM:FL:=(278,⟨[.val false vG false],[.val false vG (some true)],λa=>fY a⟩)::nL
theorem tW:Gd nM:=vH tV 278 Tryz.f278 [] Tryz.func278
def aP (v0:wz) (id1:Int) (t10:Int):Option (Int⊕(Unit⊕Int)) :=
 cond (decide (t10<(v0.1.length:Int)))
 ((at? v0.1 t10).bind λx13 =>
 cond (x13.1==id1) (some (.inr (.inr t10))) (some (.inl (vA (t10+1)))))
 (some (.inr (.inl ())))
def aj (v0:wz) (id1:Int):Option Int :=
 (loop (λz=>aP v0 id1 z) 0).bind (Sum.elim (λd =>
 some (-1)) (λr=>some r))
def nN:FL:=(279,⟨[.val true xw false,.val false vG false],[.val false vG (some true)],λa=>aj a.1 a.2⟩)::nM
theorem tX:Gd nN:=vH tW 279 Tryz.f279 [(0,⟨⟨[(10,false,[dI])],[]⟩,
 ⟨[],[]⟩,some ⟨[(4,false,[dI])],[]⟩⟩)] Tryz.func279
def jF (p0:wz) (i1:Int) (t28:Int):Option (Int⊕(Unit⊕Bool)) :=
 cond (decide (t28<(p0.1.length:Int)))
 ((at? p0.1 t28).bind λx31 =>
 (ac x31.1 1 99).bind λt35 =>
 (cond (!t35)
 (some true)
 ((cond (decide (t28>0))
 ((at? p0.1 (vA (t28-1))).bind λx45 =>
 some (decide (x45.1>=x31.1)))
 (some false)).bind λt51 =>
 some t51)).bind λt52 =>
 (cond t52
 (some true)
 ((fY i1).bind λt57 =>
 (ac x31.2.1 0 t57).bind λt58 =>
 some (!t58))).bind λt60 =>
 (cond t60 (some true) (some ((BE .i64 x31.2.2 x31.2.1) != 0))).bind λt68 =>
 cond t68 (some (.inr (.inr false))) (some (.inl (vA (t28+1)))))
 (some (.inr (.inl ())))
def iN (p0:wz) (t73:Int):Option (Int⊕(Unit⊕Bool)) :=
 cond (decide (t73<(p0.2.length:Int)))
 ((at? p0.2 t73).bind λx75 =>
 (aj p0 x75).bind λt79 =>
 cond (decide (t79<0)) (some (.inr (.inr false))) (some (.inl (vA (t73+1)))))
 (some (.inr (.inl ())))
def eV (p0:wz) (i1:Int):Option Bool :=
 (ac i1 1 6).bind λt10 =>
 (cond (!t10) (some true) (some ((p0.2.length:Int) != i1))).bind λt18 =>
 (cond t18 (some true) (some (decide ((p0.1.length:Int)>6)))).bind λt24 =>
 cond t24
 (some false)
 ((loop (λz=>jF p0 i1 z) 0).bind (Sum.elim (λd =>
 (loop (λz=>iN p0 z) 0).bind (Sum.elim (λd_1 =>
 some true) (λr=>some r))) (λr_1=>some r_1)))
def nO:FL:=(170,⟨[.val true xw false,.val false vG false],[.val false wD (some true)],λa=>eV a.1 a.2⟩)::nN
theorem tY:Gd nO:=vH tX 170 Tryz.f170 [(0,⟨⟨(28,false,[dI])::us 38 14 (us 54 6 (us 62 6 [])),[]⟩,
 ⟨[],[]⟩,some ⟨[(4,false,[dB])],[]⟩⟩),
 (2,⟨⟨[(73,false,[dI])],[]⟩,
 ⟨[],[]⟩,some ⟨[(4,false,[dB])],[]⟩⟩)] Tryz.func170
def jG (p0:vw) (t8:Int):Option (Int⊕(Unit⊕Bool)) :=
 cond (decide (t8<(p0.2.2.1.length:Int)))
 ((at? p0.2.2.1 t8).bind λx10 =>
 (fW x10).bind λt13 =>
 cond (!t13) (some (.inr (.inr false))) (some (.inl (vA (t8+1)))))
 (some (.inr (.inl ())))
def bg (p0:vw):Option Bool :=
 (loop (λz=>jG p0 z) 0).bind (Sum.elim (λd =>
 (ac p0.1 1 99).bind λt18 =>
 (cond (!t18) (some true) (some (decide ((p0.2.1.length:Int)>10)))).bind λt25 =>
 (cond t25
 (some true)
 ((ac (p0.2.2.1.length:Int) 1 6).bind λt30 =>
 some (!t30))).bind λt32 =>
 (cond t32
 (some true)
 ((fX p0.2.2.2.1).bind λt36 =>
 some (!t36))).bind λt38 =>
 (cond t38
 (some true)
 ((eV (p0.2.2.2.2.1,p0.2.2.2.2.2.1) (p0.2.2.1.length:Int)).bind λt45 =>
 some (!t45))).bind λt47 =>
 cond t47
 (some false)
 ((bG p0.2.2.2.2.2.2.1).bind λt50 =>
 (cond t50
 ((bG p0.2.2.2.2.2.2.2.1).bind λt54 =>
 some t54)
 (some false)).bind λt55 =>
 (cond t55
 ((bG p0.2.2.2.2.2.2.2.2.1).bind λt59 =>
 some t59)
 (some false)).bind λt60 =>
 (cond t60
 ((bG p0.2.2.2.2.2.2.2.2.2.1).bind λt64 =>
 some t64)
 (some false)).bind λt65 =>
 (cond t65
 ((bG p0.2.2.2.2.2.2.2.2.2.2).bind λt69 =>
 some t69)
 (some false)).bind λt70 =>
 some t70)) (λr=>some r))
def nP:FL:=(77,⟨[.val true vN false],[.val false wD (some true)],λa=>bg a⟩)::nO
theorem tZ:Gd nP:=vH tY 77 Tryz.f77 [(0,⟨⟨[(8,false,[dI])],[]⟩,
 ⟨[],[]⟩,some ⟨[(2,false,[dB])],[]⟩⟩)] Tryz.func77
def aZ (o0:List Int) (t7:Int):Option (Int⊕(Unit⊕Bool)) :=
 cond (decide (t7<(o0.length:Int)))
 ((at? o0 t7).bind λx9 =>
 (ac x9 0 100000).bind λt12 =>
 cond (!t12) (some (.inr (.inr false))) (some (.inl (vA (t7+1)))))
 (some (.inr (.inl ())))
def ao (o0:List Int):Option Bool :=
 (loop (λz=>aZ o0 z) 0).bind (Sum.elim (λd =>
 (ac (o0.length:Int) 1 10).bind λt17 =>
 some t17) (λr=>some r))
def nQ:FL:=(91,⟨[.val false yl false],[.val false wD (some true)],λa=>ao a⟩)::nP
theorem u0:Gd nQ:=vH tZ 91 Tryz.f91 [(0,⟨⟨[(7,false,[dI])],[]⟩,
 ⟨[],[]⟩,some ⟨[(2,false,[dB])],[]⟩⟩)] Tryz.func91
def aJ (a0:zj) (b1:zj):Option Bool :=
 (cond (a0.1==b1.1) (some (a0.2.1==b1.2.1)) (some false)).bind λt16 =>
 (cond t16 (some (a0.2.2.1==b1.2.2.1)) (some false)).bind λt23 =>
 (cond t23
 ((aA a0.2.2.2 b1.2.2.2).bind λt29 =>
 some t29)
 (some false)).bind λt30 =>
 some t30
def nR:FL:=(20,⟨[.val true Aw false,.val true Aw false],[.val false wD (some true)],λa=>aJ a.1 a.2⟩)::nQ
theorem u5:Gd nR:=vH u0 20 Tryz.f20 [] Tryz.func20
def aF (n0:Int):Option Bool :=
 (ac n0 (-2147483648) 2147483647).bind λt4 =>
 some t4
def nS:FL:=(93,⟨[.val false vG false],[.val false wD (some true)],λa=>aF a⟩)::nR
theorem u6:Gd nS:=vH u5 93 Tryz.f93 [] Tryz.func93
def ap (v0:zj):Option Bool :=
 cond (v0.1==2)
 ((aF v0.2.1).bind λt17 =>
 (cond t17
 ((aJ v0 (v0.1,v0.2.1,[],[])).bind λt43 =>
 some t43)
 (some false)).bind λt44 =>
 some t44)
 (cond (v0.1==4)
 (let ok4:=decide ((v0.2.2.1.length:Int)<=20)
 (cond ok4
 ((aJ v0 (v0.1,0,v0.2.2.1,[])).bind λt43_1 =>
 some t43_1)
 (some false)).bind λt44_1 =>
 some t44_1)
 (cond (v0.1==6)
 ((ao v0.2.2.2).bind λt34 =>
 (cond t34
 ((aJ v0 (v0.1,0,[],v0.2.2.2)).bind λt43_2 =>
 some t43_2)
 (some false)).bind λt44_2 =>
 some t44_2)
 (cond (v0.1==5)
 (cond (v0.1==5)
 (((aJ v0 (v0.1,0,[],[])).bind λt43_3 =>
 some t43_3).bind λt44_3 =>
 some t44_3)
 (some false))
 (cond (v0.1==128)
 (cond (v0.1==128)
 (((aJ v0 (v0.1,0,[],[])).bind λt43_4 =>
 some t43_4).bind λt44_4 =>
 some t44_4)
 (some false))
 (cond (v0.1==130)
 (((aJ v0 (v0.1,0,[],[])).bind λt43_5 =>
 some t43_5).bind λt44_5 =>
 some t44_5)
 (some false))))))
def nT:FL:=(92,⟨[.val true Aw false],[.val false wD (some true)],λa=>ap a⟩)::nS
theorem u7:Gd nT:=vH u6 92 Tryz.f92 [] Tryz.func92
def iO (p0:wd) (t35:Int):Option (Int⊕(Unit⊕Bool)) :=
 cond (decide (t35<(p0.2.2.2.2.length:Int)))
 ((at? p0.2.2.2.2 t35).bind λx38 =>
 (cond (decide (t35>=10))
 (some true)
 ((ao x38.1).bind λt45 =>
 some (!t45))).bind λt47 =>
 (cond t47
 (some true)
 ((ap x38.2).bind λt51 =>
 some (!t51))).bind λt53 =>
 cond t53 (some (.inr (.inr false))) (some (.inl (vA (t35+1)))))
 (some (.inr (.inl ())))
def nU (p0:wd) (t35_1:Int):Option (Int⊕(Unit⊕Bool)) :=
 cond (decide (t35_1<(p0.2.2.2.2.length:Int)))
 ((at? p0.2.2.2.2 t35_1).bind λx38_1 =>
 (cond (decide (t35_1>=10))
 (some true)
 ((ao x38_1.1).bind λt45_1 =>
 some (!t45_1))).bind λt47_1 =>
 (cond t47_1
 (some true)
 ((ap x38_1.2).bind λt51_1 =>
 some (!t51_1))).bind λt53_1 =>
 cond t53_1 (some (.inr (.inr false))) (some (.inl (vA (t35_1+1)))))
 (some (.inr (.inl ())))
def nV (p0:wd) (t35_2:Int):Option (Int⊕(Unit⊕Bool)) :=
 cond (decide (t35_2<(p0.2.2.2.2.length:Int)))
 ((at? p0.2.2.2.2 t35_2).bind λx38_2 =>
 (cond (decide (t35_2>=10))
 (some true)
 ((ao x38_2.1).bind λt45_2 =>
 some (!t45_2))).bind λt47_2 =>
 (cond t47_2
 (some true)
 ((ap x38_2.2).bind λt51_2 =>
 some (!t51_2))).bind λt53_2 =>
 cond t53_2 (some (.inr (.inr false))) (some (.inl (vA (t35_2+1)))))
 (some (.inr (.inl ())))
def nW (p0:wd) (t35_3:Int):Option (Int⊕(Unit⊕Bool)) :=
 cond (decide (t35_3<(p0.2.2.2.2.length:Int)))
 ((at? p0.2.2.2.2 t35_3).bind λx38_3 =>
 (cond (decide (t35_3>=10))
 (some true)
 ((ao x38_3.1).bind λt45_3 =>
 some (!t45_3))).bind λt47_3 =>
 (cond t47_3
 (some true)
 ((ap x38_3.2).bind λt51_3 =>
 some (!t51_3))).bind λt53_3 =>
 cond t53_3 (some (.inr (.inr false))) (some (.inl (vA (t35_3+1)))))
 (some (.inr (.inl ())))
def nX (p0:wd) (t35_4:Int):Option (Int⊕(Unit⊕Bool)) :=
 cond (decide (t35_4<(p0.2.2.2.2.length:Int)))
 ((at? p0.2.2.2.2 t35_4).bind λx38_4 =>
 (cond (decide (t35_4>=10))
 (some true)
 ((ao x38_4.1).bind λt45_4 =>
 some (!t45_4))).bind λt47_4 =>
 (cond t47_4
 (some true)
 ((ap x38_4.2).bind λt51_4 =>
 some (!t51_4))).bind λt53_4 =>
 cond t53_4 (some (.inr (.inr false))) (some (.inl (vA (t35_4+1)))))
 (some (.inr (.inl ())))
def nY (p0:wd) (t35_5:Int):Option (Int⊕(Unit⊕Bool)) :=
 cond (decide (t35_5<(p0.2.2.2.2.length:Int)))
 ((at? p0.2.2.2.2 t35_5).bind λx38_5 =>
 (cond (decide (t35_5>=10))
 (some true)
 ((ao x38_5.1).bind λt45_5 =>
 some (!t45_5))).bind λt47_5 =>
 (cond t47_5
 (some true)
 ((ap x38_5.2).bind λt51_5 =>
 some (!t51_5))).bind λt53_5 =>
 cond t53_5 (some (.inr (.inr false))) (some (.inl (vA (t35_5+1)))))
 (some (.inr (.inl ())))
def nZ (p0:wd) (t35_6:Int):Option (Int⊕(Unit⊕Bool)) :=
 cond (decide (t35_6<(p0.2.2.2.2.length:Int)))
 ((at? p0.2.2.2.2 t35_6).bind λx38_6 =>
 (cond (decide (t35_6>=10))
 (some true)
 ((ao x38_6.1).bind λt45_6 =>
 some (!t45_6))).bind λt47_6 =>
 (cond t47_6
 (some true)
 ((ap x38_6.2).bind λt51_6 =>
 some (!t51_6))).bind λt53_6 =>
 cond t53_6 (some (.inr (.inr false))) (some (.inl (vA (t35_6+1)))))
 (some (.inr (.inl ())))
def o4 (p0:wd) (t35_7:Int):Option (Int⊕(Unit⊕Bool)) :=
 cond (decide (t35_7<(p0.2.2.2.2.length:Int)))
 ((at? p0.2.2.2.2 t35_7).bind λx38_7 =>
 (cond (decide (t35_7>=10))
 (some true)
 ((ao x38_7.1).bind λt45_7 =>
 some (!t45_7))).bind λt47_7 =>
 (cond t47_7
 (some true)
 ((ap x38_7.2).bind λt51_7 =>
 some (!t51_7))).bind λt53_7 =>
 cond t53_7 (some (.inr (.inr false))) (some (.inl (vA (t35_7+1)))))
 (some (.inr (.inl ())))
def o5 (p0:wd) (t35_8:Int):Option (Int⊕(Unit⊕Bool)) :=
 cond (decide (t35_8<(p0.2.2.2.2.length:Int)))
 ((at? p0.2.2.2.2 t35_8).bind λx38_8 =>
 (cond (decide (t35_8>=10))
 (some true)
 ((ao x38_8.1).bind λt45_8 =>
 some (!t45_8))).bind λt47_8 =>
 (cond t47_8
 (some true)
 ((ap x38_8.2).bind λt51_8 =>
 some (!t51_8))).bind λt53_8 =>
 cond t53_8 (some (.inr (.inr false))) (some (.inl (vA (t35_8+1)))))
 (some (.inr (.inl ())))
def dD (p0:wd):Option Bool :=
 cond (p0.1==160)
 (cond (p0.1==160)
 ((cond (p0.2.2.1 != 0) (some true) (some (p0.2.2.2.1 != 0))).bind λt18 =>
 cond t18
 (some false)
 ((loop (λz=>iO p0 z) 0).bind (Sum.elim (λd =>
 (aF p0.2.1).bind λt57 =>
 some t57) (λr=>some r))))
 (cond (p0.1==162)
 (cond (p0.1==162)
 ((ac p0.2.2.1 0 1000).bind λt24 =>
 (cond (!t24)
 (some true)
 ((ac p0.2.2.2.1 0 1000).bind λt29 =>
 some (!t29))).bind λt31 =>
 cond t31
 (some false)
 ((loop (λz=>nU p0 z) 0).bind (Sum.elim (λd_1 =>
 (aF p0.2.1).bind λt57_1 =>
 some t57_1) (λr_1=>some r_1))))
 (some false))
 (cond (p0.1==165)
 ((ac p0.2.2.1 0 1000).bind λt24_1 =>
 (cond (!t24_1)
 (some true)
 ((ac p0.2.2.2.1 0 1000).bind λt29_1 =>
 some (!t29_1))).bind λt31_1 =>
 cond t31_1
 (some false)
 ((loop (λz=>nV p0 z) 0).bind (Sum.elim (λd_2 =>
 (aF p0.2.1).bind λt57_2 =>
 some t57_2) (λr_2=>some r_2))))
 (some false))))
 (cond (p0.1==161)
 (cond (p0.1==161)
 ((cond (p0.2.2.1 != 0) (some true) (some (p0.2.2.2.1 != 0))).bind λt18_1 =>
 cond t18_1
 (some false)
 ((loop (λz=>nW p0 z) 0).bind (Sum.elim (λd_3 =>
 (aF p0.2.1).bind λt57_3 =>
 some t57_3) (λr_3=>some r_3))))
 (cond (p0.1==162)
 (cond (p0.1==162)
 ((ac p0.2.2.1 0 1000).bind λt24_2 =>
 (cond (!t24_2)
 (some true)
 ((ac p0.2.2.2.1 0 1000).bind λt29_2 =>
 some (!t29_2))).bind λt31_2 =>
 cond t31_2
 (some false)
 ((loop (λz=>nX p0 z) 0).bind (Sum.elim (λd_4 =>
 (aF p0.2.1).bind λt57_4 =>
 some t57_4) (λr_4=>some r_4))))
 (some false))
 (cond (p0.1==165)
 ((ac p0.2.2.1 0 1000).bind λt24_3 =>
 (cond (!t24_3)
 (some true)
 ((ac p0.2.2.2.1 0 1000).bind λt29_3 =>
 some (!t29_3))).bind λt31_3 =>
 cond t31_3
 (some false)
 ((loop (λz=>nY p0 z) 0).bind (Sum.elim (λd_5 =>
 (aF p0.2.1).bind λt57_5 =>
 some t57_5) (λr_5=>some r_5))))
 (some false))))
 (cond (p0.1==163)
 ((cond (p0.2.2.1 != 0) (some true) (some (p0.2.2.2.1 != 0))).bind λt18_2 =>
 cond t18_2
 (some false)
 ((loop (λz=>nZ p0 z) 0).bind (Sum.elim (λd_6 =>
 (aF p0.2.1).bind λt57_6 =>
 some t57_6) (λr_6=>some r_6))))
 (cond (p0.1==162)
 (cond (p0.1==162)
 ((ac p0.2.2.1 0 1000).bind λt24_4 =>
 (cond (!t24_4)
 (some true)
 ((ac p0.2.2.2.1 0 1000).bind λt29_4 =>
 some (!t29_4))).bind λt31_4 =>
 cond t31_4
 (some false)
 ((loop (λz=>o4 p0 z) 0).bind (Sum.elim (λd_7 =>
 (aF p0.2.1).bind λt57_7 =>
 some t57_7) (λr_7=>some r_7))))
 (some false))
 (cond (p0.1==165)
 ((ac p0.2.2.1 0 1000).bind λt24_5 =>
 (cond (!t24_5)
 (some true)
 ((ac p0.2.2.2.1 0 1000).bind λt29_5 =>
 some (!t29_5))).bind λt31_5 =>
 cond t31_5
 (some false)
 ((loop (λz=>o5 p0 z) 0).bind (Sum.elim (λd_8 =>
 (aF p0.2.1).bind λt57_8 =>
 some t57_8) (λr_8=>some r_8))))
 (some false)))))
def o7:FL:=(17,⟨[.val true xU false],[.val false wD (some true)],λa=>dD a⟩)::nT
theorem u9:Gd o7:=vH u7 17 Tryz.f17 [(1,⟨⟨(35,false,[dI])::us 43 4 (us 49 4 []),[]⟩,
 ⟨[],[]⟩,some ⟨[(2,false,[dB])],[]⟩⟩)] Tryz.func17
def fZ (j0:wM):Option Bool :=
 (ac j0.2.2.1 0 2).bind λt5 =>
 (cond (!t5)
 (some true)
 ((ac j0.2.2.2.2.2.2.2.2.2.2.2.2.2.2.2.2.2.2.2.1 0 (j0.2.2.2.2.2.2.2.1.length:Int)).bind λt14 =>
 some (!t14))).bind λt16 =>
 (cond t16
 (some true)
 ((ac j0.2.2.2.2.2.2.2.2.2.2.2.2.2.2.2.2.2.2.2.2 0 3).bind λt20 =>
 some (!t20))).bind λt22 =>
 cond t22
 (some false)
 ((cond (j0.2.2.1==0)
 (some true)
 ((dD (j0.2.2.2.1,j0.2.2.2.2.1,j0.2.2.2.2.2.1,j0.2.2.2.2.2.2.1,j0.2.2.2.2.2.2.2.1)).bind λt29 =>
 (cond t29 (some (j0.2.2.2.1 != 162)) (some false)).bind λt35 =>
 (cond t35
 ((bg (j0.2.2.2.2.2.2.2.2.1,j0.2.2.2.2.2.2.2.2.2.1,j0.2.2.2.2.2.2.2.2.2.2.1,j0.2.2.2.2.2.2.2.2.2.2.2.1,j0.2.2.2.2.2.2.2.2.2.2.2.2.1,j0.2.2.2.2.2.2.2.2.2.2.2.2.2.1,j0.2.2.2.2.2.2.2.2.2.2.2.2.2.2.1,j0.2.2.2.2.2.2.2.2.2.2.2.2.2.2.2.1,j0.2.2.2.2.2.2.2.2.2.2.2.2.2.2.2.2.1,j0.2.2.2.2.2.2.2.2.2.2.2.2.2.2.2.2.2.1,j0.2.2.2.2.2.2.2.2.2.2.2.2.2.2.2.2.2.2.1)).bind λt39 =>
 some t39)
 (some false)).bind λt40 =>
 some t40)).bind λt41 =>
 some t41)
def o8:FL:=(135,⟨[.val true A0 false],[.val false wD (some true)],λa=>fZ a⟩)::o7
theorem ua:Gd o8:=vH u9 135 Tryz.f135 [] Tryz.func135
def jH (p0:vO) (t36:Int):Option (Int⊕(Unit⊕Bool)) :=
 cond (decide (t36<(p0.2.2.2.2.2.2.2.2.2.2.2.2.1.length:Int)))
 ((at? p0.2.2.2.2.2.2.2.2.2.2.2.2.1 t36).bind λx39 =>
 (ac x39.1 1 p0.2.2.2.2.2.2.2.2.2.2.2.2.2.2).bind λt45 =>
 (cond (!t45)
 (some true)
 ((cond (decide (t36>0))
 ((at? p0.2.2.2.2.2.2.2.2.2.2.2.2.1 (vA (t36-1))).bind λx55 =>
 some (decide (x55.1>=x39.1)))
 (some false)).bind λt61 =>
 some t61)).bind λt62 =>
 (cond t62
 (some true)
 ((fZ x39).bind λt65 =>
 some (!t65))).bind λt67 =>
 cond t67 (some (.inr (.inr false))) (some (.inl (vA (t36+1)))))
 (some (.inr (.inl ())))
def eJ (p0:vO):Option Bool :=
 (bg (p0.1,p0.2.1,p0.2.2.1,p0.2.2.2.1,p0.2.2.2.2.1,p0.2.2.2.2.2.1,p0.2.2.2.2.2.2.1,p0.2.2.2.2.2.2.2.1,p0.2.2.2.2.2.2.2.2.1,p0.2.2.2.2.2.2.2.2.2.1,p0.2.2.2.2.2.2.2.2.2.2.1)).bind λt7 =>
 (cond (!t7)
 (some true)
 (some (decide ((p0.2.2.2.2.2.2.2.2.2.2.2.1.length:Int)>20)))).bind λt14 =>
 (cond t14
 (some true)
 (some (decide ((p0.2.2.2.2.2.2.2.2.2.2.2.2.1.length:Int)>6)))).bind λt20 =>
 (cond t20
 (some true)
 ((bG p0.2.2.2.2.2.2.2.2.2.2.2.2.2.1).bind λt24 =>
 some (!t24))).bind λt26 =>
 (cond t26
 (some true)
 ((bG p0.2.2.2.2.2.2.2.2.2.2.2.2.2.2).bind λt30 =>
 some (!t30))).bind λt32 =>
 cond t32
 (some false)
 ((loop (λz=>jH p0 z) 0).bind (Sum.elim (λd =>
 some true) (λr=>some r)))
def o9:FL:=(43,⟨[.val true wO false],[.val false wD (some true)],λa=>eJ a⟩)::o8
theorem ub:Gd o9:=vH ua 43 Tryz.f43 [(0,⟨⟨(36,false,[dI])::us 48 14 (us 64 3 []),[]⟩,
 ⟨[],[]⟩,some ⟨[(2,false,[dB])],[]⟩⟩)] Tryz.func43
def bH (b0:List Int):Option (List Int) :=
 (vS [] b0).bind λzs4 =>
 some zs4
def oa:FL:=(131,⟨[.val false xu false],[.val false xu (some true)],λa=>bH a⟩)::o9
theorem uc:Gd oa:=vH ub 131 Tryz.f131 [] Tryz.func131
def iP (v0:zj):Option zj :=
 (br v0.2.2.2).bind λt5 =>
 some (v0.1,v0.2.1,v0.2.2.1,t5)
def ob:FL:=(173,⟨[.val true Aw false],[.val true Aw (some true)],λa=>iP a⟩)::oa
theorem ud:Gd ob:=vH uc 173 Tryz.f173 [] Tryz.func173
def eW (l0:List vB) (t8:Int) (out3:List vB):Option ((Int×List vB)⊕(List vB)) :=
 cond (decide (t8<(l0.length:Int)))
 ((at? l0 t8).bind λx10 =>
 (br x10.1).bind λt15 =>
 (iP x10.2).bind λt18 =>
 (vS out3 [(t15,t18.1,t18.2.1,t18.2.2.1,t18.2.2.2)]).bind λzs21 =>
 some (.inl (vA (t8+1),zs21)))
 (some (.inr out3))
def eX (l0:List vB):Option (List vB) :=
 (loop (λz=>eW l0 z.1 z.2) (0,[])).bind λd =>
 some d
def oc:FL:=(81,⟨[.val false (.one (.sl vU)) false],[.val false (.one (.sl vU)) (some true)],λa=>eX a⟩)::ob
theorem ue:Gd oc:=vH ud 81 Tryz.f81 [(0,⟨⟨[(3,false,[.own 1000000000]),(8,false,[dI])],[(1000000000,.root vU true)]⟩,
 ⟨[(3,false,[.own 1000000300])],[(1000000300,.root vU true)]⟩,none⟩)] Tryz.func81
def ga (p0:wd):Option wd :=
 (eX p0.2.2.2.2).bind λt5 =>
 some (p0.1,p0.2.1,p0.2.2.1,p0.2.2.2.1,t5)
def od:FL:=(233,⟨[.val true xU false],[.val true xU (some true)],λa=>ga a⟩)::oc
theorem uf:Gd od:=vH ue 233 Tryz.f233 [] Tryz.func233
def eY (a0:vO) (t13:Int) (jobs3:List wM):Option ((Int×List wM)⊕(List wM)) :=
 cond (decide (t13<(a0.2.2.2.2.2.2.2.2.2.2.2.2.1.length:Int)))
 ((at? a0.2.2.2.2.2.2.2.2.2.2.2.2.1 t13).bind λx15 =>
 (bH x15.2.1).bind λt19 =>
 (ga (x15.2.2.2.1,x15.2.2.2.2.1,x15.2.2.2.2.2.1,x15.2.2.2.2.2.2.1,x15.2.2.2.2.2.2.2.1)).bind λt22 =>
 (al (x15.2.2.2.2.2.2.2.2.1,x15.2.2.2.2.2.2.2.2.2.1,x15.2.2.2.2.2.2.2.2.2.2.1,x15.2.2.2.2.2.2.2.2.2.2.2.1,x15.2.2.2.2.2.2.2.2.2.2.2.2.1,x15.2.2.2.2.2.2.2.2.2.2.2.2.2.1,x15.2.2.2.2.2.2.2.2.2.2.2.2.2.2.1,x15.2.2.2.2.2.2.2.2.2.2.2.2.2.2.2.1,x15.2.2.2.2.2.2.2.2.2.2.2.2.2.2.2.2.1,x15.2.2.2.2.2.2.2.2.2.2.2.2.2.2.2.2.2.1,x15.2.2.2.2.2.2.2.2.2.2.2.2.2.2.2.2.2.2.1)).bind λt25 =>
 (vS jobs3 [(x15.1,t19,x15.2.2.1,t22.1,t22.2.1,t22.2.2.1,t22.2.2.2.1,t22.2.2.2.2,t25.1,t25.2.1,t25.2.2.1,t25.2.2.2.1,t25.2.2.2.2.1,t25.2.2.2.2.2.1,t25.2.2.2.2.2.2.1,t25.2.2.2.2.2.2.2.1,t25.2.2.2.2.2.2.2.2.1,t25.2.2.2.2.2.2.2.2.2.1,t25.2.2.2.2.2.2.2.2.2.2,x15.2.2.2.2.2.2.2.2.2.2.2.2.2.2.2.2.2.2.2.1,x15.2.2.2.2.2.2.2.2.2.2.2.2.2.2.2.2.2.2.2.2)]).bind λzs32 =>
 some (.inl (vA (t13+1),zs32)))
 (some (.inr jobs3))
def dy (a0:vO):Option vO :=
 (al (a0.1,a0.2.1,a0.2.2.1,a0.2.2.2.1,a0.2.2.2.2.1,a0.2.2.2.2.2.1,a0.2.2.2.2.2.2.1,a0.2.2.2.2.2.2.2.1,a0.2.2.2.2.2.2.2.2.1,a0.2.2.2.2.2.2.2.2.2.1,a0.2.2.2.2.2.2.2.2.2.2.1)).bind λt8 =>
 (loop (λz=>eY a0 z.1 z.2) (0,[])).bind λd =>
 some (t8.1,t8.2.1,t8.2.2.1,t8.2.2.2.1,t8.2.2.2.2.1,t8.2.2.2.2.2.1,t8.2.2.2.2.2.2.1,t8.2.2.2.2.2.2.2.1,t8.2.2.2.2.2.2.2.2.1,t8.2.2.2.2.2.2.2.2.2.1,t8.2.2.2.2.2.2.2.2.2.2,a0.2.2.2.2.2.2.2.2.2.2.2.1,d,a0.2.2.2.2.2.2.2.2.2.2.2.2.2.1,a0.2.2.2.2.2.2.2.2.2.2.2.2.2.2)
def oe:FL:=(129,⟨[.val true wO false],[.val true wO (some true)],λa=>dy a⟩)::od
theorem ug:Gd oe:=vH uf 129 Tryz.f129 [(0,⟨⟨[(3,false,[.own 1000000000]),(13,false,[dI])],[(1000000000,.root A0 true)]⟩,
 ⟨[(3,false,[.own 1000000300])],[(1000000300,.root A0 true)]⟩,none⟩)] Tryz.func129
def az (n0:Int):Option Int :=
 let t2:=min2 (vA (n0+1)) 1000000
 some t2
def og:FL:=(130,⟨[.val false vG false],[.val false vG (some true)],λa=>az a⟩)::oe
theorem uh:Gd og:=vH ug 130 Tryz.f130 [] Tryz.func130
def bA (a0:vO) (b1:List Int):Option vO :=
 (dy a0).bind λt7 =>
 (eJ a0).bind λt24 =>
 cond (!t24)
 (some t7)
 ((cond (decide ((a0.2.2.2.2.2.2.2.2.2.2.2.2.1.length:Int)>=6))
 (some true)
 (some (decide (a0.2.2.2.2.2.2.2.2.2.2.2.2.2.2>=1000000)))).bind λt35 =>
 cond t35
 ((az a0.2.2.2.2.2.2.2.2.2.2.2.2.2.1).bind λt38 =>
 some (t7.1,t7.2.1,t7.2.2.1,t7.2.2.2.1,t7.2.2.2.2.1,t7.2.2.2.2.2.1,t7.2.2.2.2.2.2.1,t7.2.2.2.2.2.2.2.1,t7.2.2.2.2.2.2.2.2.1,t7.2.2.2.2.2.2.2.2.2.1,t7.2.2.2.2.2.2.2.2.2.2.1,t7.2.2.2.2.2.2.2.2.2.2.2.1,t7.2.2.2.2.2.2.2.2.2.2.2.2.1,t38,t7.2.2.2.2.2.2.2.2.2.2.2.2.2.2))
 ((bH b1).bind λt17 =>
 (vS t7.2.2.2.2.2.2.2.2.2.2.2.2.1 ([(vA (t7.2.2.2.2.2.2.2.2.2.2.2.2.2.2+1),t17,0,0,0,0,0,[],0,[],[],[],[],[],0,0,0,0,0,0,0)])).bind λzs20 =>
 some (t7.1,t7.2.1,t7.2.2.1,t7.2.2.2.1,t7.2.2.2.2.1,t7.2.2.2.2.2.1,t7.2.2.2.2.2.2.1,t7.2.2.2.2.2.2.2.1,t7.2.2.2.2.2.2.2.2.1,t7.2.2.2.2.2.2.2.2.2.1,t7.2.2.2.2.2.2.2.2.2.2.1,t7.2.2.2.2.2.2.2.2.2.2.2.1,zs20,t7.2.2.2.2.2.2.2.2.2.2.2.2.2.1,vA (t7.2.2.2.2.2.2.2.2.2.2.2.2.2.2+1))))
def oh:FL:=(38,⟨[.val true wO false,.val false xu false],[.val true wO (some true)],λa=>bA a.1 a.2⟩)::og
theorem ui:Gd oh:=vH uh 38 Tryz.f38 [] Tryz.func38
def dE (p0:List Int) (i1:Int):Option (Int×(List Int)×Int×Bool) :=
 (cond (decide (i1<0)) (some true) (some (decide (i1>(vA ((p0.length:Int)-2)))))).bind λt18 =>
 cond t18
 (some (0,[],0,false))
 ((at? p0 (vA (i1+1))).bind λx22 =>
 cond (decide ((vA (x22))>=128))
 ((cond ((vA (x22)) != 129) (some true) (some (decide ((vA (i1+2))>=(p0.length:Int))))).bind λt36 =>
 (cond t36
 (some true)
 ((at? p0 (vA (i1+2))).bind λx40 =>
 some (decide (x40<128)))).bind λt43 =>
 cond t43
 (some (0,[],0,false))
 ((at? p0 (vA (i1+2))).bind λx46 =>
 (cond (decide ((vA (x46))>250))
 (some true)
 (some (decide ((vA (x46))>(vA ((p0.length:Int)-(vA ((vA (i1+2))+1)))))))).bind λt60 =>
 cond t60
 (some (0,[],0,false))
 ((at? p0 i1).bind λx63 =>
 (cut p0 (vA ((vA (i1+2))+1)) (vA ((vA ((vA (i1+2))+1))+(vA (x46))))).bind λt71 =>
 (bH t71).bind λt72 =>
 let t6:=vA ((vA ((vA (i1+2))+1))+(vA (x46)))
 some (vA (x63),t72,t6,true))))
 ((cond (decide ((vA (x22))>250))
 (some true)
 (some (decide ((vA (x22))>(vA ((p0.length:Int)-(vA (i1+2)))))))).bind λt60_1 =>
 cond t60_1
 (some (0,[],0,false))
 ((at? p0 i1).bind λx63_1 =>
 (cut p0 (vA (i1+2)) (vA ((vA (i1+2))+(vA (x22))))).bind λt71_1 =>
 (bH t71_1).bind λt72_1 =>
 let t6_1:=vA ((vA (i1+2))+(vA (x22)))
 some (vA (x63_1),t72_1,t6_1,true))))
def oi:FL:=(316,⟨[.val false xu false,.val false vG false],[.val false vG (some true),.val false xu (some true),.val false vG (some true),.val false wD (some true)],λa=>dE a.1 a.2⟩)::oh
theorem uj:Gd oi:=vH ui 316 Tryz.f316 [] Tryz.func316
def bZ (r0:Cl) (tag1:Int):Option (Cl×List Int) :=
 (dE r0.1 r0.2.1).bind λt18 =>
 (cond r0.2.2 (some true) (some (!t18.2.2.2))).bind λt30 =>
 (cond t30 (some true) (some (t18.1 != tag1))).bind λt35 =>
 cond t35
 (some ((r0.1,r0.2.1,true),[]))
 (some ((r0.1,t18.2.2.1,r0.2.2),t18.2.1))
def oj:FL:=(318,⟨[.ptr Ck none,.val false vG false],[.val false xu (some true)],λa=>bZ a.1 a.2⟩)::oi
theorem uk:Gd oj:=vH uj 318 Tryz.f318 [] Tryz.func318
def ba (n0_1:Int) (k3:Int):Option (Int⊕Int) :=
 (cond (decide (k3<4))
 ((shl .i64 (-1) (vA ((vA (8*k3))-1))).bind λt16 =>
 (shl .i64 1 (vA ((vA (8*k3))-1))).bind λt20 =>
 (ac n0_1 t16 (vA (t20-1))).bind λt22 =>
 some (!t22))
 (some false)).bind λt24 =>
 cond t24 (some (.inl (vA (k3+1)))) (some (.inr k3))
def aG (n0_1:Int) (i5:Int) (out4:List Int):Option ((Int×List Int)⊕(List Int)) :=
 cond (decide (i5>=0))
 ((shr .i64 n0_1 (vA (8*i5))).bind λt37 =>
 (vS out4 [IntKind.u8.wrap (t37)]).bind λzs40 =>
 some (.inl (vA (i5-1),zs40)))
 (some (.inr out4))
def eZ (n0:Int):Option (List Int) :=
 let n0_1:=max2 (-2147483648) (min2 n0 2147483647)
 (loop (λz=>ba n0_1 z) 1).bind λd =>
 (loop (λz=>aG n0_1 z.1 z.2) (vA (d-1),[])).bind λd_1 =>
 some d_1
def om:FL:=(293,⟨[.val false vG false],[.val false xu (some true)],λa=>eZ a⟩)::oj
theorem ul:Gd om:=vH uk 293 Tryz.f293 [(0,⟨⟨(3,false,[dI])::us 12 12 [],[]⟩,
 ⟨[(3,false,[dI])],[]⟩,none⟩),
 (2,⟨⟨[(4,false,[.own 1000002000]),(5,false,[dI])],[(1000002000,.root (.one (.int .u8)) true)]⟩,
 ⟨[(4,false,[.own 1000002300])],[(1000002300,.root (.one (.int .u8)) true)]⟩,none⟩)] Tryz.func293
def f6 (t17:List Int) (n4_1:Int) (t19:Int):Option ((Int×Int)⊕Int) :=
 cond (decide (t19<(t17.length:Int)))
 ((at? t17 t19).bind λx21 =>
 let n4_2:=CP .i64 (vA (n4_1*2^8)) (vA (x21))
 some (.inl (n4_2,vA (t19+1))))
 (some (.inr n4_1))
def gb (b0:List Int):Option (Int×Bool) :=
 (ac (b0.length:Int) 1 4).bind λt9 =>
 cond (!t9)
 (some (0,false))
 ((at? b0 0).bind λx12 =>
 let n4:=vA (IntKind.i8.wrap (x12))
 (cut b0 1 (b0.length:Int)).bind λt17 =>
 (loop (λz=>f6 t17 z.1 z.2) (n4,0)).bind λd =>
 (eZ d).bind λt30 =>
 cond ((t30.length:Int) != (b0.length:Int)) (some (0,false)) (some (d,true)))
def oo:FL:=(350,⟨[.val false xu false],[.val false vG (some true),.val false wD (some true)],λa=>gb a⟩)::om
theorem um:Gd oo:=vH ul 350 Tryz.f350 [(0,⟨⟨[(4,false,[dI]),(19,false,[dI])],[]⟩,
 ⟨[(4,false,[dI])],[]⟩,none⟩)] Tryz.func350
def dG (r0:Cl) (tag1:Int):Option (Cl×Int) :=
 (bZ r0 tag1).bind λt10 =>
 (gb t10.2).bind λt11 =>
 (cond t10.1.2.2 (some true) (some (!t11.2))).bind λt22 =>
 some ((t10.1.1,t10.1.2.1,t22),t11.1)
def oq:FL:=(317,⟨[.ptr Ck none,.val false vG false],[.val false vG (some true)],λa=>dG a.1 a.2⟩)::oo
theorem un:Gd oq:=vH um 317 Tryz.f317 [] Tryz.func317
def dH (tag0:Int) (body1:List Int):Option ((List Int)×Bool) :=
 (ac tag0 0 255).bind λt8 =>
 (cond (!t8) (some true) (some (decide ((body1.length:Int)>250)))).bind λt14 =>
 cond t14
 (some ([],false))
 (cond (decide ((body1.length:Int)>=128))
 ((vS [IntKind.u8.wrap (tag0)] ([129]:List Int)).bind λzs23 =>
 (vS zs23 [IntKind.u8.wrap ((body1.length:Int))]).bind λzs29 =>
 (vS zs29 body1).bind λzs31 =>
 some (zs31,true))
 ((vS [IntKind.u8.wrap (tag0)] [IntKind.u8.wrap ((body1.length:Int))]).bind λzs29_1 =>
 (vS zs29_1 body1).bind λzs31_1 =>
 some (zs31_1,true)))
def ot:FL:=(182,⟨[.val false vG false,.val false xu false],[.val false xu (some true),.val false wD (some true)],λa=>dH a.1 a.2⟩)::oq
theorem uo:Gd ot:=vH un 182 Tryz.f182 [] Tryz.func182
def bI (b0:List Int) (tag1:Int) (body2:List Int):Option (List Int) :=
 (dH tag1 body2).bind λt12 =>
 (bH b0).bind λt16 =>
 (vS t16 t12.1).bind λzs18 =>
 some zs18
def ou:FL:=(184,⟨[.val false xu false,.val false vG false,.val false xu false],[.val false xu (some true)],λa=>bI a.1 a.2.1 a.2.2⟩)::ot
theorem uq:Gd ou:=vH uo 184 Tryz.f184 [] Tryz.func184
def cB (x14:Int) (k6:Int):Option (Int⊕Int) :=
 (shr .i64 x14 (vA (7*k6))).bind λt19 =>
 cond (decide (t19>127)) (some (.inl (vA (k6+1)))) (some (.inr k6))
def dJ (x14:Int) (k6_2:Int) (out3_1:List Int):Option ((Int×List Int)⊕(List Int)) :=
 cond (decide (k6_2>0))
 ((shr .i64 x14 (vA (7*k6_2))).bind λt31 =>
 (vS out3_1 [IntKind.u8.wrap (vA ((xM .i64 t31 127)+128))]).bind λzs36 =>
 some (.inl (vA (k6_2-1),zs36)))
 (some (.inr out3_1))
def f7 (o0:List Int) (t12:Int) (out3:List Int):Option ((Int×List Int)⊕(List Int)) :=
 cond (decide (t12<(o0.length:Int)))
 ((at? o0 t12).bind λx14 =>
 (loop (λz=>cB x14 z) 0).bind λd =>
 (loop (λz=>dJ x14 z.1 z.2) (d,out3)).bind λd_1 =>
 (vS d_1 [IntKind.u8.wrap (xM .i64 x14 127)]).bind λzs42 =>
 some (.inl (vA (t12+1),zs42)))
 (some (.inr out3))
def dK (o0:List Int):Option (List Int) :=
 (ao o0).bind λt8 =>
 cond (!t8)
 (some [])
 ((loop (λz=>f7 o0 z.1 z.2) (0,[])).bind λd_2 =>
 some d_2)
def ov:FL:=(185,⟨[.val false yl false],[.val false xu (some true)],λa=>dK a⟩)::ou
theorem ur:Gd ov:=vH uq 185 Tryz.f185 [(0,⟨⟨[(3,false,[.own 1000000000]),(12,false,[dI])],[(1000000000,.root (.one (.int .u8)) true)]⟩,
 ⟨[(3,false,[.own 1000000300])],[(1000000300,.root (.one (.int .u8)) true)]⟩,none⟩),
 (2,⟨⟨[(6,false,[dI])],[]⟩,
 ⟨[(6,false,[dI])],[]⟩,none⟩),
 (4,⟨⟨[(3,false,[.own 1000004000]),(6,false,[dI])],[(1000004000,.root (.one (.int .u8)) true)]⟩,
 ⟨[(3,false,[.own 1000004300])],[(1000004300,.root (.one (.int .u8)) true)]⟩,none⟩)] Tryz.func185
def iQ (b0:List Int) (v1:zj):Option (List Int) :=
 (ap v1).bind λt7 =>
 cond (!t7)
 ((bH b0).bind λt10 =>
 some t10)
 (cond (v1.1==2)
 ((eZ v1.2.1).bind λt17 =>
 (bI b0 v1.1 t17).bind λt32 =>
 some t32)
 (cond (v1.1==4)
 ((bI b0 v1.1 (yv v1.2.2.1)).bind λt32_1 =>
 some t32_1)
 (cond (v1.1==6)
 ((dK v1.2.2.2).bind λt27 =>
 (bI b0 v1.1 t27).bind λt32_2 =>
 some t32_2)
 ((bI b0 v1.1 []).bind λt32_3 =>
 some t32_3))))
def ow:FL:=(183,⟨[.val false xu false,.val true Aw false],[.val false xu (some true)],λa=>iQ a.1 a.2⟩)::ov
theorem ut:Gd ow:=vH ur 183 Tryz.f183 [] Tryz.func183
def f8 (out0:List Int) (tag1:Int) (n2:Int):Option (List Int) :=
 (eZ n2).bind λt10 =>
 (bI out0 tag1 t10).bind λt11 =>
 some t11
def ox:FL:=(186,⟨[.val false xu false,.val false vG false,.val false vG false],[.val false xu (some true)],λa=>f8 a.1 a.2.1 a.2.2⟩)::ow
theorem uu:Gd ox:=vH ut 186 Tryz.f186 [] Tryz.func186
def fa (p0:wd) (t18:Int) (t3:List Int):Option ((Int×List Int)⊕((List Int)⊕(List Int))) :=
 cond (decide (t18<(p0.2.2.2.2.length:Int)))
 ((at? p0.2.2.2.2 t18).bind λx20 =>
 (dK x20.1).bind λt25 =>
 (bI [] 6 t25).bind λt26 =>
 (iQ t26 x20.2).bind λt29 =>
 (dH 48 t29).bind λt30 =>
 cond (!t30.2)
 (some (.inr (.inr [])))
 ((vS t3 t30.1).bind λzs37 =>
 some (.inl (vA (t18+1),zs37))))
 (some (.inr (.inl t3)))
def gd (p0:wd):Option (List Int) :=
 (dD p0).bind λt13 =>
 cond (!t13)
 (some [])
 ((loop (λz=>fa p0 z.1 z.2) (0,[])).bind (Sum.elim (λd =>
 (dH 48 d).bind λt41 =>
 cond (!t41.2)
 (some [])
 ((f8 [] 2 p0.2.1).bind λt51 =>
 (f8 t51 2 p0.2.2.1).bind λt54 =>
 (f8 t54 2 p0.2.2.2.1).bind λt57 =>
 (vS t57 t41.1).bind λzs59 =>
 (dH p0.1 zs59).bind λt60 =>
 cond (!t60.2) (some []) (some t60.1))) (λr=>some r)))
def oy:FL:=(94,⟨[.val true xU false],[.val false xu (some true)],λa=>gd a⟩)::ox
theorem uv:Gd oy:=vH uu 94 Tryz.f94 [(0,⟨⟨[(3,false,[.own 1000000000]),(18,false,[dI])],[(1000000000,.root (.one (.int .u8)) true)]⟩,
 ⟨[(3,false,[.own 1000000300])],[(1000000300,.root (.one (.int .u8)) true)]⟩,some ⟨[(2,false,[.own 1000000600])],[(1000000600,.root (.one (.int .u8)) true)]⟩⟩)] Tryz.func94
def jI (r0:Cl):Option (Cl×Bool) :=
 (cond (!r0.2.2) (some (r0.2.1==(r0.1.length:Int))) (some false)).bind λt19 =>
 some (r0,t19)
def oz:FL:=(351,⟨[.ptr Ck none],[.val false wD (some true)],λa=>jI a⟩)::oy
theorem uw:Gd oz:=vH uv 351 Tryz.f351 [] Tryz.func351
def ax (b0:List Int) (n5:Int) (t11:Int) (out4:List Int):Option ((Int×Int×List Int)⊕((List Int)⊕(Bool×List Int))) :=
 cond (decide (t11<(b0.length:Int)))
 ((at? b0 t11).bind λx14 =>
 cond (decide (t11>=40))
 (some (.inr (.inr (false,[]))))
 (let n5_1:=CP .i64 (vA ((min2 n5 1048576)*2^7)) (vA (xM .u8 x14 127))
 cond (decide (x14<128))
 ((vS out4 [n5_1]).bind λzs30 =>
 some (.inl (0,vA (t11+1),zs30)))
 (some (.inl (n5_1,vA (t11+1),out4)))))
 (some (.inr (.inl out4)))
def cC (b0:List Int):Option ((List Int)×Bool) :=
 (loop (λz=>ax b0 z.1 z.2.1 z.2.2) (0,0,[])).bind (Sum.elim (λd =>
 (dK d).bind λt33 =>
 (cond ((t33.length:Int)==0) (some true) (some (!((xc t33)==(xc b0))))).bind λt43 =>
 cond t43 (some ([],false)) (some (d,true))) (λr=>some (r.2,r.1)))
def oA:FL:=(366,⟨[.val false xu false],[.val false yl (some true),.val false wD (some true)],λa=>cC a⟩)::oz
theorem ux:Gd oA:=vH uw 366 Tryz.f366 [(0,⟨⟨[(4,false,[.own 1000000000]),(5,false,[dI]),(11,false,[dI])],[(1000000000,.root vG true)]⟩,
 ⟨[(4,false,[.own 1000000300])],[(1000000300,.root vG true)]⟩,some ⟨[(2,false,[.own 1000000600]),(3,false,[dB])],[(1000000600,.root vG true)]⟩⟩)] Tryz.func366
def iR (b0:List Int) (at1:Int):Option (zj×Int×Bool) :=
 (dE b0 at1).bind λt15 =>
 cond (!t15.2.2.2)
 (some ((0,0,[],[]),0,false))
 (cond (t15.1==2)
 ((gb t15.2.1).bind λt33 =>
 (cond (!t33.2)
 (some true)
 ((ap (t15.1,t33.1,[],[])).bind λt54 =>
 some (!t54))).bind λt56 =>
 cond t56
 (some ((0,0,[],[]),0,false))
 (some ((t15.1,t33.1,[],[]),t15.2.2.1,true)))
 (cond (t15.1==4)
 ((cond (!t15.2.2.2)
 (some true)
 ((ap (t15.1,0,xc t15.2.1,[])).bind λt54_1 =>
 some (!t54_1))).bind λt56_1 =>
 cond t56_1
 (some ((0,0,[],[]),0,false))
 (some ((t15.1,0,xc t15.2.1,[]),t15.2.2.1,true)))
 (cond (t15.1==6)
 ((cC t15.2.1).bind λt46 =>
 (cond (!t46.2)
 (some true)
 ((ap (t15.1,0,[],t46.1)).bind λt54_2 =>
 some (!t54_2))).bind λt56_2 =>
 cond t56_2
 (some ((0,0,[],[]),0,false))
 (some ((t15.1,0,[],t46.1),t15.2.2.1,true)))
 (let ok10:=(t15.2.1.length:Int)==0
 (cond (!ok10)
 (some true)
 ((ap (t15.1,0,[],[])).bind λt54_3 =>
 some (!t54_3))).bind λt56_3 =>
 cond t56_3
 (some ((0,0,[],[]),0,false))
 (some ((t15.1,0,[],[]),t15.2.2.1,true))))))
def oC:FL:=(367,⟨[.val false xu false,.val false vG false],[.val true Aw (some true),.val false vG (some true),.val false wD (some true)],λa=>iR a.1 a.2⟩)::oA
theorem uy:Gd oC:=vH ux 367 Tryz.f367 [] Tryz.func367
def iS (b0:List Int):Option (vB×Bool) :=
 (bZ (b0,0,false) 6).bind λt15 =>
 (cC t15.2).bind λt16 =>
 (iR b0 t15.1.2.1).bind λt25 =>
 (cond t15.1.2.2 (some true) (some (!t16.2))).bind λt36 =>
 (cond t36 (some true) (some (!t25.2.2))).bind λt40 =>
 (cond t40 (some true) (some (t25.2.1 != (b0.length:Int)))).bind λt46 =>
 cond t46
 (some (([],0,0,[],[]),false))
 (some ((t16.1,t25.1.1,t25.1.2.1,t25.1.2.2.1,t25.1.2.2.2),true))
def oD:FL:=(352,⟨[.val false xu false],[.val true vU (some true),.val false wD (some true)],λa=>iS a⟩)::oC
theorem uz:Gd oD:=vH uy 352 Tryz.f352 [] Tryz.func352
def aH (b0:Int) (b1:Int) (b2:Int) (b3:Int) (b0_1:Int) (b1_1:Int) (b2_1:Int) (b3_1:Int) (b0_2:List Int) (b1_2:Int) (b2_2:Bool) (b4:List vB) (b4_1:List vB):Option ((Int×Int×Int×Int×Int×Int×Int×Int×List Int×Int×Bool×List vB×List vB)⊕((Int×Int×Int×Int×Int×Int×Int×Int×List Int×Int×Bool×List vB×List vB)⊕(Bool×Int×Int×Int×Int×List vB))) :=
 cond (decide (b1_2<(b0_2.length:Int)))
 ((bZ (b0_2,b1_2,b2_2) 48).bind λt64 =>
 (iS t64.2).bind λt65 =>
 (cond (!t65.2) (some true) (some (decide ((b4_1.length:Int)>=10)))).bind λt75 =>
 cond t75
 (some (.inr (.inr (false,0,0,0,0,[]))))
 ((vS b4_1 [t65.1]).bind λzs81 =>
 some (.inl (b0,b1,b2,b3,b0_1,b1_1,b2_1,b3_1,t64.1.1,t64.1.2.1,t64.1.2.2,b4,zs81))))
 (some (.inr (.inl (b0,b1,b2,b3,b0_1,b1_1,b2_1,b3_1,b0_2,b1_2,b2_2,b4,b4_1))))
def iT (p0:List Int):Option (wd×Bool) :=
 (dE p0 0).bind λt16 =>
 (cond (!t16.2.2.2) (some true) (some (t16.2.2.1 != (p0.length:Int)))).bind λt28 =>
 cond t28
 (some ((0,0,0,0,[]),false))
 ((dG (t16.2.1,0,false) 2).bind λt36 =>
 (dG t36.1 2).bind λt39 =>
 (dG t39.1 2).bind λt42 =>
 (bZ t42.1 48).bind λt45 =>
 (jI t45.1).bind λt49 =>
 cond (!t49.2)
 (some ((0,0,0,0,[]),false))
 ((loop (λz=>aH z.1 z.2.1 z.2.2.1 z.2.2.2.1 z.2.2.2.2.1 z.2.2.2.2.2.1 z.2.2.2.2.2.2.1 z.2.2.2.2.2.2.2.1 z.2.2.2.2.2.2.2.2.1 z.2.2.2.2.2.2.2.2.2.1 z.2.2.2.2.2.2.2.2.2.2.1 z.2.2.2.2.2.2.2.2.2.2.2.1 z.2.2.2.2.2.2.2.2.2.2.2.2) (0,0,0,0,t16.1,t36.2,t39.2,t42.2,t45.2,0,false,[],[])).bind (Sum.elim (λd =>
 (gd (d.2.2.2.2.1,d.2.2.2.2.2.1,d.2.2.2.2.2.2.1,d.2.2.2.2.2.2.2.1,d.2.2.2.2.2.2.2.2.2.2.2.2)).bind λt84 =>
 (cond ((t84.length:Int)==0) (some true) (some (!((xc t84)==(xc p0))))).bind λt94 =>
 cond t94
 (some ((0,0,0,0,[]),false))
 (some ((d.2.2.2.2.1,d.2.2.2.2.2.1,d.2.2.2.2.2.2.1,d.2.2.2.2.2.2.2.1,d.2.2.2.2.2.2.2.2.2.2.2.2),true))) (λr=>some (r.2,r.1)))))
def oE:FL:=(319,⟨[.val false xu false],[.val true xU (some true),.val false wD (some true)],λa=>iT a⟩)::oD
theorem uA:Gd oE:=vH uz 319 Tryz.f319 [(0,⟨⟨us 71 4 [],[(1024,.box [dI,dI,dI,dI,.own 1000000000]),(1051648,.box [dI,dI,dI,dI,.own 1000000001]),(2363392,.box [.dat (.sl (.one (.int .u8))),dI,dB]),(1000000000,.root vU true),(1000000001,.root vU true)]⟩,
 ⟨[],[(1024,.box [dI,dI,dI,dI,.own 1000000300]),(1051648,.box [dI,dI,dI,dI,.own 1000000301]),(2363392,.box [.dat (.sl (.one (.int .u8))),dI,dB]),(1000000300,.root vU true),(1000000301,.root vU true)]⟩,some ⟨[(3,false,[dB])],[(1024,.box [dI,dI,dI,dI,.own 1000000600]),(1000000600,.root vU true)]⟩⟩)] Tryz.func319
def fb (p0:List UInt8) (i1:List Int):Option (wd×Int) :=
 (dE i1 0).bind λt17 =>
 (cond (!t17.2.2.2) (some true) (some (t17.1 != 48))).bind λt27 =>
 (cond t27 (some true) (some (t17.2.2.1 != (i1.length:Int)))).bind λt33 =>
 cond t33
 (some ((0,0,0,0,[]),1))
 ((dG (t17.2.1,0,false) 2).bind λt39 =>
 (bZ t39.1 4).bind λt41 =>
 cond t41.1.2.2
 (some ((0,0,0,0,[]),1))
 (cond (t39.2 != 1)
 (some ((0,0,0,0,[]),2))
 (cond (!((xc t41.2)==p0))
 (some ((0,0,0,0,[]),3))
 ((cut t17.2.1 t41.1.2.1 (t17.2.1.length:Int)).bind λt64 =>
 (iT t64).bind λt65 =>
 cond (!t65.2) (some ((0,0,0,0,[]),1)) (some (t65.1,0))))))
def oF:FL:=(236,⟨[.val false KN false,.val false xu false],[.val true xU (some true),.val false vG (some true)],λa=>fb a.1 a.2⟩)::oE
theorem uB:Gd oF:=vH uA 236 Tryz.f236 [] Tryz.func236
def cD (a0:vO) (k1:Int):Option vO :=
 (xR a0.2.2.2.2.2.2.2.2.2.2.2.2.1.length 0 k1).bind λp =>
 (xR a0.2.2.2.2.2.2.2.2.2.2.2.2.1.length (vA (k1+1)) (a0.2.2.2.2.2.2.2.2.2.2.2.2.1.length:Int)).bind λp_1 =>
 (Ga a0.2.2.2.2.2.2.2.2.2.2.2.2.1 p.1 p.2 p_1.1 p_1.2).bind λzs18 =>
 some (a0.1,a0.2.1,a0.2.2.1,a0.2.2.2.1,a0.2.2.2.2.1,a0.2.2.2.2.2.1,a0.2.2.2.2.2.2.1,a0.2.2.2.2.2.2.2.1,a0.2.2.2.2.2.2.2.2.1,a0.2.2.2.2.2.2.2.2.2.1,a0.2.2.2.2.2.2.2.2.2.2.1,a0.2.2.2.2.2.2.2.2.2.2.2.1,zs18,a0.2.2.2.2.2.2.2.2.2.2.2.2.2.1,a0.2.2.2.2.2.2.2.2.2.2.2.2.2.2)
def oG:FL:=(313,⟨[.ptr wO (some true),.val false vG false],[],λa=>cD a.1 a.2⟩)::oF
theorem uC:Gd oG:=vH uB 313 Tryz.f313 [] Tryz.func313
def ge (a0:vO) (k1:Int):Option vO :=
 (ix a0.2.2.2.2.2.2.2.2.2.2.2.2.1.length k1).bind λj10 =>
 (al (a0.1,a0.2.1,a0.2.2.1,a0.2.2.2.1,a0.2.2.2.2.1,a0.2.2.2.2.2.1,a0.2.2.2.2.2.2.1,a0.2.2.2.2.2.2.2.1,a0.2.2.2.2.2.2.2.2.1,a0.2.2.2.2.2.2.2.2.2.1,a0.2.2.2.2.2.2.2.2.2.2.1)).bind λt18 =>
 (a0.2.2.2.2.2.2.2.2.2.2.2.2.1[j10]?).bind λx =>
 ((a0.2.2.2.2.2.2.2.2.2.2.2.2.1.set j10 (x.1,x.2.1,1,x.2.2.2.1,x.2.2.2.2.1,x.2.2.2.2.2.1,x.2.2.2.2.2.2.1,x.2.2.2.2.2.2.2.1,x.2.2.2.2.2.2.2.2.1,x.2.2.2.2.2.2.2.2.2.1,x.2.2.2.2.2.2.2.2.2.2.1,x.2.2.2.2.2.2.2.2.2.2.2.1,x.2.2.2.2.2.2.2.2.2.2.2.2.1,x.2.2.2.2.2.2.2.2.2.2.2.2.2.1,x.2.2.2.2.2.2.2.2.2.2.2.2.2.2.1,x.2.2.2.2.2.2.2.2.2.2.2.2.2.2.2.1,x.2.2.2.2.2.2.2.2.2.2.2.2.2.2.2.2.1,x.2.2.2.2.2.2.2.2.2.2.2.2.2.2.2.2.2.1,x.2.2.2.2.2.2.2.2.2.2.2.2.2.2.2.2.2.2.1,x.2.2.2.2.2.2.2.2.2.2.2.2.2.2.2.2.2.2.2.1,x.2.2.2.2.2.2.2.2.2.2.2.2.2.2.2.2.2.2.2.2))[j10]?).bind λx_1 =>
 (((a0.2.2.2.2.2.2.2.2.2.2.2.2.1.set j10 (x.1,x.2.1,1,x.2.2.2.1,x.2.2.2.2.1,x.2.2.2.2.2.1,x.2.2.2.2.2.2.1,x.2.2.2.2.2.2.2.1,x.2.2.2.2.2.2.2.2.1,x.2.2.2.2.2.2.2.2.2.1,x.2.2.2.2.2.2.2.2.2.2.1,x.2.2.2.2.2.2.2.2.2.2.2.1,x.2.2.2.2.2.2.2.2.2.2.2.2.1,x.2.2.2.2.2.2.2.2.2.2.2.2.2.1,x.2.2.2.2.2.2.2.2.2.2.2.2.2.2.1,x.2.2.2.2.2.2.2.2.2.2.2.2.2.2.2.1,x.2.2.2.2.2.2.2.2.2.2.2.2.2.2.2.2.1,x.2.2.2.2.2.2.2.2.2.2.2.2.2.2.2.2.2.1,x.2.2.2.2.2.2.2.2.2.2.2.2.2.2.2.2.2.2.1,x.2.2.2.2.2.2.2.2.2.2.2.2.2.2.2.2.2.2.2.1,x.2.2.2.2.2.2.2.2.2.2.2.2.2.2.2.2.2.2.2.2)).set j10 (x_1.1,x_1.2.1,x_1.2.2.1,x_1.2.2.2.1,x_1.2.2.2.2.1,x_1.2.2.2.2.2.1,x_1.2.2.2.2.2.2.1,x_1.2.2.2.2.2.2.2.1,x_1.2.2.2.2.2.2.2.2.1,x_1.2.2.2.2.2.2.2.2.2.1,x_1.2.2.2.2.2.2.2.2.2.2.1,x_1.2.2.2.2.2.2.2.2.2.2.2.1,x_1.2.2.2.2.2.2.2.2.2.2.2.2.1,x_1.2.2.2.2.2.2.2.2.2.2.2.2.2.1,x_1.2.2.2.2.2.2.2.2.2.2.2.2.2.2.1,x_1.2.2.2.2.2.2.2.2.2.2.2.2.2.2.2.1,x_1.2.2.2.2.2.2.2.2.2.2.2.2.2.2.2.2.1,x_1.2.2.2.2.2.2.2.2.2.2.2.2.2.2.2.2.2.1,x_1.2.2.2.2.2.2.2.2.2.2.2.2.2.2.2.2.2.2.1,0,x_1.2.2.2.2.2.2.2.2.2.2.2.2.2.2.2.2.2.2.2.2))[j10]?).bind λx_2 =>
 some (a0.1,a0.2.1,a0.2.2.1,a0.2.2.2.1,a0.2.2.2.2.1,a0.2.2.2.2.2.1,a0.2.2.2.2.2.2.1,a0.2.2.2.2.2.2.2.1,a0.2.2.2.2.2.2.2.2.1,a0.2.2.2.2.2.2.2.2.2.1,a0.2.2.2.2.2.2.2.2.2.2.1,a0.2.2.2.2.2.2.2.2.2.2.2.1,((a0.2.2.2.2.2.2.2.2.2.2.2.2.1.set j10 (x.1,x.2.1,1,x.2.2.2.1,x.2.2.2.2.1,x.2.2.2.2.2.1,x.2.2.2.2.2.2.1,x.2.2.2.2.2.2.2.1,x.2.2.2.2.2.2.2.2.1,x.2.2.2.2.2.2.2.2.2.1,x.2.2.2.2.2.2.2.2.2.2.1,x.2.2.2.2.2.2.2.2.2.2.2.1,x.2.2.2.2.2.2.2.2.2.2.2.2.1,x.2.2.2.2.2.2.2.2.2.2.2.2.2.1,x.2.2.2.2.2.2.2.2.2.2.2.2.2.2.1,x.2.2.2.2.2.2.2.2.2.2.2.2.2.2.2.1,x.2.2.2.2.2.2.2.2.2.2.2.2.2.2.2.2.1,x.2.2.2.2.2.2.2.2.2.2.2.2.2.2.2.2.2.1,x.2.2.2.2.2.2.2.2.2.2.2.2.2.2.2.2.2.2.1,x.2.2.2.2.2.2.2.2.2.2.2.2.2.2.2.2.2.2.2.1,x.2.2.2.2.2.2.2.2.2.2.2.2.2.2.2.2.2.2.2.2)).set j10 (x_1.1,x_1.2.1,x_1.2.2.1,x_1.2.2.2.1,x_1.2.2.2.2.1,x_1.2.2.2.2.2.1,x_1.2.2.2.2.2.2.1,x_1.2.2.2.2.2.2.2.1,x_1.2.2.2.2.2.2.2.2.1,x_1.2.2.2.2.2.2.2.2.2.1,x_1.2.2.2.2.2.2.2.2.2.2.1,x_1.2.2.2.2.2.2.2.2.2.2.2.1,x_1.2.2.2.2.2.2.2.2.2.2.2.2.1,x_1.2.2.2.2.2.2.2.2.2.2.2.2.2.1,x_1.2.2.2.2.2.2.2.2.2.2.2.2.2.2.1,x_1.2.2.2.2.2.2.2.2.2.2.2.2.2.2.2.1,x_1.2.2.2.2.2.2.2.2.2.2.2.2.2.2.2.2.1,x_1.2.2.2.2.2.2.2.2.2.2.2.2.2.2.2.2.2.1,x_1.2.2.2.2.2.2.2.2.2.2.2.2.2.2.2.2.2.2.1,0,x_1.2.2.2.2.2.2.2.2.2.2.2.2.2.2.2.2.2.2.2.2)).set j10 (x_2.1,x_2.2.1,x_2.2.2.1,x_2.2.2.2.1,x_2.2.2.2.2.1,x_2.2.2.2.2.2.1,x_2.2.2.2.2.2.2.1,x_2.2.2.2.2.2.2.2.1,t18.1,t18.2.1,t18.2.2.1,t18.2.2.2.1,t18.2.2.2.2.1,t18.2.2.2.2.2.1,t18.2.2.2.2.2.2.1,t18.2.2.2.2.2.2.2.1,t18.2.2.2.2.2.2.2.2.1,t18.2.2.2.2.2.2.2.2.2.1,t18.2.2.2.2.2.2.2.2.2.2,x_2.2.2.2.2.2.2.2.2.2.2.2.2.2.2.2.2.2.2.2.1,x_2.2.2.2.2.2.2.2.2.2.2.2.2.2.2.2.2.2.2.2.2),a0.2.2.2.2.2.2.2.2.2.2.2.2.2.1,a0.2.2.2.2.2.2.2.2.2.2.2.2.2.2)
def oH:FL:=(314,⟨[.ptr wO (some true),.val false vG false],[],λa=>ge a.1 a.2⟩)::oG
theorem uD:Gd oH:=vH uC 314 Tryz.f314 [] Tryz.func314
def gg (p0:vO) (i1:Int):Option vO :=
 (ix p0.2.2.2.2.2.2.2.2.2.2.2.2.1.length i1).bind λj16 =>
 (p0.2.2.2.2.2.2.2.2.2.2.2.2.1[j16]?).bind λx18 =>
 (fb p0.2.2.2.2.2.2.2.2.2.2.2.1 x18.2.1).bind λt19 =>
 cond (t19.2==3)
 ((az p0.2.2.2.2.2.2.2.2.1).bind λt42 =>
 (cD (p0.1,p0.2.1,p0.2.2.1,p0.2.2.2.1,p0.2.2.2.2.1,p0.2.2.2.2.2.1,p0.2.2.2.2.2.2.1,p0.2.2.2.2.2.2.2.1,t42,p0.2.2.2.2.2.2.2.2.2.1,p0.2.2.2.2.2.2.2.2.2.2.1,p0.2.2.2.2.2.2.2.2.2.2.2.1,p0.2.2.2.2.2.2.2.2.2.2.2.2.1,p0.2.2.2.2.2.2.2.2.2.2.2.2.2.1,p0.2.2.2.2.2.2.2.2.2.2.2.2.2.2) i1).bind λt48 =>
 some t48)
 ((cond (t19.2 != 0) (some true) (some (t19.1.1==162))).bind λt56 =>
 cond t56
 ((az p0.2.2.2.2.2.2.2.1).bind λt63 =>
 (cD (p0.1,p0.2.1,p0.2.2.1,p0.2.2.2.1,p0.2.2.2.2.1,p0.2.2.2.2.2.1,p0.2.2.2.2.2.2.1,t63,p0.2.2.2.2.2.2.2.2.1,p0.2.2.2.2.2.2.2.2.2.1,p0.2.2.2.2.2.2.2.2.2.2.1,p0.2.2.2.2.2.2.2.2.2.2.2.1,p0.2.2.2.2.2.2.2.2.2.2.2.2.1,p0.2.2.2.2.2.2.2.2.2.2.2.2.2.1,p0.2.2.2.2.2.2.2.2.2.2.2.2.2.2) i1).bind λt69 =>
 some t69)
 ((ix p0.2.2.2.2.2.2.2.2.2.2.2.2.1.length i1).bind λj28 =>
 (p0.2.2.2.2.2.2.2.2.2.2.2.2.1[j28]?).bind λx =>
 (ge (p0.1,p0.2.1,p0.2.2.1,p0.2.2.2.1,p0.2.2.2.2.1,p0.2.2.2.2.2.1,p0.2.2.2.2.2.2.1,p0.2.2.2.2.2.2.2.1,p0.2.2.2.2.2.2.2.2.1,p0.2.2.2.2.2.2.2.2.2.1,p0.2.2.2.2.2.2.2.2.2.2.1,p0.2.2.2.2.2.2.2.2.2.2.2.1,p0.2.2.2.2.2.2.2.2.2.2.2.2.1.set j28 (x.1,x.2.1,x.2.2.1,t19.1.1,t19.1.2.1,t19.1.2.2.1,t19.1.2.2.2.1,t19.1.2.2.2.2,x.2.2.2.2.2.2.2.2.1,x.2.2.2.2.2.2.2.2.2.1,x.2.2.2.2.2.2.2.2.2.2.1,x.2.2.2.2.2.2.2.2.2.2.2.1,x.2.2.2.2.2.2.2.2.2.2.2.2.1,x.2.2.2.2.2.2.2.2.2.2.2.2.2.1,x.2.2.2.2.2.2.2.2.2.2.2.2.2.2.1,x.2.2.2.2.2.2.2.2.2.2.2.2.2.2.2.1,x.2.2.2.2.2.2.2.2.2.2.2.2.2.2.2.2.1,x.2.2.2.2.2.2.2.2.2.2.2.2.2.2.2.2.2.1,x.2.2.2.2.2.2.2.2.2.2.2.2.2.2.2.2.2.2.1,x.2.2.2.2.2.2.2.2.2.2.2.2.2.2.2.2.2.2.2.1,x.2.2.2.2.2.2.2.2.2.2.2.2.2.2.2.2.2.2.2.2),p0.2.2.2.2.2.2.2.2.2.2.2.2.2.1,p0.2.2.2.2.2.2.2.2.2.2.2.2.2.2) i1).bind λt32 =>
 some t32))
def oI:FL:=(234,⟨[.ptr wO (some true),.val false vG false],[],λa=>gg a.1 a.2⟩)::oH
theorem uE:Gd oI:=vH uD 234 Tryz.f234 [] Tryz.func234
def bb (p0:wd):Option Bool :=
 (gd p0).bind λt4 =>
 (ac (t4.length:Int) 1 120).bind λt6 =>
 some t6
def oJ:FL:=(18,⟨[.val true xU false],[.val false wD (some true)],λa=>bb a⟩)::oI
theorem uF:Gd oJ:=vH uE 18 Tryz.f18 [] Tryz.func18
def aQ (v0:zj) (name1:List Int):Option vB :=
 (vS ([1,3,1]:List Int) name1).bind λzs7 =>
 some (zs7,v0.1,v0.2.1,v0.2.2.1,v0.2.2.2)
def oK:FL:=(187,⟨[.val true Aw false,.val false yl false],[.val true vU none],λa=>aQ a.1 a.2⟩)::oJ
theorem uG:Gd oK:=vH uF 187 Tryz.f187 [] Tryz.func187
def bt (n0:Int):Option zj :=
 some (2,n0,[],[])
def oL:FL:=(188,⟨[.val false vG false],[.val true Aw (some true)],λa=>bt a⟩)::oK
theorem uH:Gd oL:=vH uG 188 Tryz.f188 [] Tryz.func188
def gh (is0:Bool):Option Int :=
 cond is0 (some 1) (some 0)
def oM:FL:=(294,⟨[.val false wD false],[.val false vG (some true)],λa=>gh a⟩)::oL
theorem uI:Gd oM:=vH uH 294 Tryz.f294 [] Tryz.func294
def fc (a0:AO) (b1:AO):Option Bool :=
 cond (a0.1 != b1.1)
 (some (decide (a0.1<b1.1)))
 (cond (a0.2.1 != b1.2.1)
 (some (decide (a0.2.1<b1.2.1)))
 (cond (a0.2.2.2.1 != b1.2.2.2.1)
 (let t4:=decide (a0.2.2.2.1<b1.2.2.2.1)
 some t4)
 (let t4_1:=decide (a0.2.2.2.2<b1.2.2.2.2)
 some t4_1)))
def oN:FL:=(345,⟨[.val true Ag false,.val true Ag false],[.val false wD (some true)],λa=>fc a.1 a.2⟩)::oM
theorem uJ:Gd oN:=vH uI 345 Tryz.f345 [] Tryz.func345
def gi (v0:AO) (cost1:Int):Option (AO×Bool) :=
 (cA v0).bind λt8 =>
 (cond (!t8)
 (some true)
 ((ac cost1 1 1000).bind λt12 =>
 some (!t12))).bind λt14 =>
 cond t14
 (some (v0,false))
 ((cA (v0.1,vA (v0.2.1+cost1),vA (v0.2.2.1+1),v0.2.2.2.1,v0.2.2.2.2)).bind λt27 =>
 cond (!t27)
 (some (v0,false))
 (some ((v0.1,vA (v0.2.1+cost1),vA (v0.2.2.1+1),v0.2.2.2.1,v0.2.2.2.2),true)))
def oO:FL:=(364,⟨[.val true Ag false,.val false vG false],[.val true Ag (some true),.val false wD (some true)],λa=>gi a.1 a.2⟩)::oN
theorem uK:Gd oO:=vH uJ 364 Tryz.f364 [] Tryz.func364
def fe (p0:Int) (i1:List Pt) (t7:Int) (t18:Int) (b0:Int) (b1:Int) (b2:Int) (b3:Int) (b4:Int) (b0_1:Int) (b1_1:Int) (b2_1:Int) (b3_1:Int) (b4_1:Int):Option ((Int×Int×Int×Int×Int×Int×Int×Int×Int×Int×Int×Int)⊕(Int×Int×Int×Int×Int×Int×Int×Int×Int×Int×Int)) :=
 cond (decide (t18<(i1.length:Int)))
 ((at? i1 t18).bind λx21 =>
 (cond (!x21.1) (some true) (some (!x21.2.2.1))).bind λt30 =>
 cond t30
 (some (.inl (t7,vA (t18+1),b0,b1,b2,b3,b4,b0_1,b1_1,b2_1,b3_1,b4_1)))
 ((gi x21.2.2.2 x21.2.1).bind λt36 =>
 (cond t36.2 (some (decide (t36.1.1<p0))) (some false)).bind λt45 =>
 (cond t45
 ((cond (decide (t7<0))
 (some true)
 ((fc t36.1 (b0_1,b1_1,b2_1,b3_1,b4_1)).bind λt52 =>
 some t52)).bind λt53 =>
 some t53)
 (some false)).bind λt54 =>
 cond t54
 (some (.inl (t18,vA (t18+1),t36.1.1,t36.1.2.1,t36.1.2.2.1,p0,0,t36.1.1,t36.1.2.1,t36.1.2.2.1,t36.1.2.2.2.1,t36.1.2.2.2.2)))
 (some (.inl (t7,vA (t18+1),b0,b1,b2,b3,b4,b0_1,b1_1,b2_1,b3_1,b4_1)))))
 (some (.inr (t7,b0,b1,b2,b3,b4,b0_1,b1_1,b2_1,b3_1,b4_1)))
def ca (p0:Int) (i1:List Pt):Option (AO×Int) :=
 (loop (λz=>fe p0 i1 z.1 z.2.1 z.2.2.1 z.2.2.2.1 z.2.2.2.2.1 z.2.2.2.2.2.1 z.2.2.2.2.2.2.1 z.2.2.2.2.2.2.2.1 z.2.2.2.2.2.2.2.2.1 z.2.2.2.2.2.2.2.2.2.1 z.2.2.2.2.2.2.2.2.2.2.1 z.2.2.2.2.2.2.2.2.2.2.2) ((-1),0,p0,0,0,p0,0,0,0,0,0,0)).bind λd =>
 some ((d.2.1,d.2.2.1,d.2.2.2.1,d.2.2.2.2.1,d.2.2.2.2.2.1),d.1)
def oP:FL:=(344,⟨[.val false vG false,.val false (.one (.sl xS)) false],[.val true Ag (some true),.val false vG (some true)],λa=>ca a.1 a.2⟩)::oO
theorem uL:Gd oP:=vH uK 344 Tryz.f344 [(0,⟨⟨(7,false,[dI])::(18,false,[dI])::us 27 3 (us 41 4 (us 47 7 [])),[(266240,.box [dI,dI,dI,dI,dI]),(525312,.box [dI,dI,dI,dI,dI])]⟩,
 ⟨[(7,false,[dI])],[(266240,.box [dI,dI,dI,dI,dI]),(525312,.box [dI,dI,dI,dI,dI])]⟩,none⟩)] Tryz.func344
def gj (id0:Int) (l1:List Pt) (port2:Int):Option AO :=
 (ca id0 l1).bind λt12 =>
 some (t12.1.1,t12.1.2.1,t12.1.2.2.1,t12.1.2.2.2.1,port2)
def oQ:FL:=(346,⟨[.val false vG false,.val false (.one (.sl xS)) false,.val false vG false],[.val true Ag (some true)],λa=>gj a.1 a.2.1 a.2.2⟩)::oP
theorem uM:Gd oQ:=vH uL 346 Tryz.f346 [] Tryz.func346
def bc (id0:Int) (l1:List Pt) (port2:Int):Option Int :=
 (ac port2 0 (vA ((l1.length:Int)-1))).bind λt13 =>
 (cond (!t13)
 (some true)
 ((at? l1 port2).bind λx18 =>
 some (!x18.1))).bind λt22 =>
 cond t22
 (some 4)
 ((ca id0 l1).bind λt26 =>
 cond (t26.2==port2)
 (some 1)
 ((at? l1 port2).bind λx36 =>
 (cond (!x36.2.2.1)
 (some true)
 ((gj id0 l1 port2).bind λt44 =>
 (at? l1 port2).bind λx47 =>
 (fc t44 x47.2.2.2).bind λt50 =>
 some t50)).bind λt51 =>
 cond t51 (some 2) (some 3)))
def oR:FL:=(295,⟨[.val false vG false,.val false (.one (.sl xS)) false,.val false vG false],[.val false vG (some true)],λa=>bc a.1 a.2.1 a.2.2⟩)::oQ
theorem uN:Gd oR:=vH uM 295 Tryz.f295 [] Tryz.func295
def cE (b0:vw) (c1:Int) (p2:Int):Option Int :=
 cond (c1==1)
 ((at? b0.2.2.1 p2).bind λx13 =>
 (gh x13.1).bind λt16 =>
 some t16)
 (cond (c1==2)
 ((at? b0.2.2.1 p2).bind λx22 =>
 some x22.2.1)
 (cond (c1==3)
 ((bc b0.1 b0.2.2.1 p2).bind λt32 =>
 some t32)
 ((at? b0.2.2.2.2.2.1 p2).bind λx37 =>
 some x37)))
def oS:FL:=(189,⟨[.val true vN false,.val false vG false,.val false vG false],[.val false vG (some true)],λa=>cE a.1 a.2.1 a.2.2⟩)::oR
theorem uO:Gd oS:=vH uN 189 Tryz.f189 [] Tryz.func189
def oT (p0:vw) (t32:Int) (t3:List vB):Option ((Int×List vB)⊕(List vB)) :=
 cond (decide (t32<([p0.2.2.2.2.2.2.1,p0.2.2.2.2.2.2.2.1,p0.2.2.2.2.2.2.2.2.1,p0.2.2.2.2.2.2.2.2.2.1].length:Int)))
 ((ix [p0.2.2.2.2.2.2.1,p0.2.2.2.2.2.2.2.1,p0.2.2.2.2.2.2.2.2.1,p0.2.2.2.2.2.2.2.2.2.1].length t32).bind λj35 =>
 ([p0.2.2.2.2.2.2.1,p0.2.2.2.2.2.2.2.1,p0.2.2.2.2.2.2.2.2.1,p0.2.2.2.2.2.2.2.2.2.1][j35]?).bind λx36 =>
 (bt x36).bind λt39 =>
 (aQ t39 [1,vA (t32+2)]).bind λt43 =>
 (vS t3 [t43]).bind λzs45 =>
 some (.inl (vA (t32+1),zs45)))
 (some (.inr t3))
def cc (p0:vw) (t6:Int) (t54:Int) (t3_3:List vB):Option ((Int×List vB)⊕(List vB)) :=
 cond (decide (t54<(p0.2.2.1.length:Int)))
 ((cE p0 t6 t54).bind λt61 =>
 (bt t61).bind λt62 =>
 (aQ t62 [2,t6,vA (t54+1)]).bind λt67 =>
 (vS t3_3 [t67]).bind λzs69 =>
 some (.inl (vA (t54+1),zs69)))
 (some (.inr t3_3))
def cG (p0:vw) (t6:Int) (t3_2:List vB):Option ((Int×List vB)⊕(List vB)) :=
 cond (decide (t6<=4))
 ((loop (λz=>cc p0 t6 z.1 z.2) (0,t3_2)).bind λd_1 =>
 some (.inl (vA (t6+1),d_1)))
 (some (.inr t3_2))
def ce (p0:vw) (t8:Int) (t79:Int) (t3_7:List vB):Option ((Int×List vB)⊕(List vB)) :=
 cond (decide (t79<(p0.2.2.2.2.1.length:Int)))
 ((at? p0.2.2.2.2.1 t79).bind λx81 =>
 (ix [1,x81.2.1,x81.2.2].length (vA (t8-1))).bind λj91 =>
 ([1,x81.2.1,x81.2.2][j91]?).bind λx92 =>
 (bt x92).bind λt93 =>
 (aQ t93 [3,t8,x81.1]).bind λt98 =>
 (vS t3_7 [t98]).bind λzs100 =>
 some (.inl (vA (t79+1),zs100)))
 (some (.inr t3_7))
def cH (p0:vw) (t8:Int) (t3_6:List vB):Option ((Int×List vB)⊕(List vB)) :=
 cond (decide (t8<=3))
 ((loop (λz=>ce p0 t8 z.1 z.2) (0,t3_6)).bind λd_3 =>
 some (.inl (vA (t8+1),d_3)))
 (some (.inr t3_6))
def bJ (p0:vw) (t105:Int) (t3_10:List vB):Option ((Int×List vB)⊕(List vB)) :=
 cond (decide (t105<(p0.2.2.2.1.length:Int)))
 ((at? p0.2.2.2.1 t105).bind λx107 =>
 (bt (vA (x107.2.2.1+1))).bind λt113 =>
 (aQ t113 [4,1,x107.1,x107.2.1]).bind λt119 =>
 (vS t3_10 [t119]).bind λzs121 =>
 some (.inl (vA (t105+1),zs121)))
 (some (.inr t3_10))
def cf (p0:vw):Option (List vB) :=
 (bg p0).bind λt14 =>
 cond (!t14)
 (some [])
 ((aQ (4,0,p0.2.1,[]) ([1,1]:List Int)).bind λt20 =>
 (loop (λz=>oT p0 z.1 z.2) (0,[t20])).bind λd =>
 (loop (λz=>cG p0 z.1 z.2) (1,d)).bind λd_2 =>
 (loop (λz=>cH p0 z.1 z.2) (1,d_2)).bind λd_4 =>
 (loop (λz=>bJ p0 z.1 z.2) (0,d_4)).bind λd_5 =>
 some d_5)
def oU:FL:=(95,⟨[.val true vN false],[.val false (.one (.sl vU)) none],λa=>cf a⟩)::oS
theorem uP:Gd oU:=vH uO 95 Tryz.f95 [(0,⟨⟨[(3,false,[.own 1000000000]),(32,false,[dI])],[(1000000000,.root vU false)]⟩,
 ⟨[(3,false,[.own 1000000300])],[(1000000300,.root vU false)]⟩,none⟩),
 (2,⟨⟨[(3,false,[.own 1000002000]),(6,false,[dI])],[(1000002000,.root vU false)]⟩,
 ⟨[(3,false,[.own 1000002300])],[(1000002300,.root vU false)]⟩,none⟩),
 (4,⟨⟨[(3,false,[.own 1000004000]),(54,false,[dI])],[(1000004000,.root vU false)]⟩,
 ⟨[(3,false,[.own 1000004300])],[(1000004300,.root vU false)]⟩,none⟩),
 (6,⟨⟨[(3,false,[.own 1000006000]),(8,false,[dI])],[(1000006000,.root vU false)]⟩,
 ⟨[(3,false,[.own 1000006300])],[(1000006300,.root vU false)]⟩,none⟩),
 (8,⟨⟨[(3,false,[.own 1000008000]),(79,false,[dI])],[(1000008000,.root vU false)]⟩,
 ⟨[(3,false,[.own 1000008300])],[(1000008300,.root vU false)]⟩,none⟩),
 (10,⟨⟨[(3,false,[.own 1000010000]),(105,false,[dI])],[(1000010000,.root vU false)]⟩,
 ⟨[(3,false,[.own 1000010300])],[(1000010300,.root vU false)]⟩,none⟩)] Tryz.func95
def bK (o1:List Int) (t8:List vB) (t10:Int) (b0_1:Int) (b1:Int) (b2:List UInt8) (b3:List Int):Option ((Int×Int×Int×List UInt8×List Int)⊕((Int×Int×List UInt8×List Int)⊕(Int×Int×List UInt8×List Int))) :=
 cond (decide (t10<(t8.length:Int)))
 ((at? t8 t10).bind λx12 =>
 (aA x12.1 o1).bind λt17 =>
 cond t17
 (some (.inr (.inr x12.2)))
 (some (.inl (vA (t10+1),b0_1,b1,b2,b3))))
 (some (.inr (.inl (b0_1,b1,b2,b3))))
def cI (b0:vw) (o1:List Int):Option zj :=
 (cf b0).bind λt8 =>
 (loop (λz=>bK o1 t8 z.1 z.2.1 z.2.2.1 z.2.2.2.1 z.2.2.2.2) (0,0,0,[],[])).bind (Sum.elim (λd =>
 some (128,0,[],[])) (λr=>some r))
def oV:FL:=(21,⟨[.val true vN false,.val false yl false],[.val true Aw none],λa=>cI a.1 a.2⟩)::oU
theorem uQ:Gd oV:=vH uP 21 Tryz.f21 [(0,⟨⟨[(10,false,[dI])],[(2048,.box [dI,dI,dS,.own 1000000000]),(1000000000,.root vG true)]⟩,
 ⟨[],[(2048,.box [dI,dI,dS,.own 1000000300]),(1000000300,.root vG true)]⟩,some ⟨[],[(2048,.box [dI,dI,dS,.dat (.sl vG)])]⟩⟩)] Tryz.func21
def ff (a0:List Int) (b1:List Int) (i5:Int):Option (Int⊕(Unit⊕Bool)) :=
 (cond (decide (i5<(a0.length:Int))) (some (decide (i5<(b1.length:Int)))) (some false)).bind λt15 =>
 cond t15
 ((at? a0 i5).bind λx20 =>
 (at? b1 i5).bind λx24 =>
 cond (x20 != x24)
 ((at? a0 i5).bind λx29 =>
 (at? b1 i5).bind λx33 =>
 some (.inr (.inr (decide (x29<x33)))))
 (some (.inl (vA (i5+1)))))
 (some (.inr (.inl ())))
def gk (a0:List Int) (b1:List Int):Option Bool :=
 (loop (λz=>ff a0 b1 z) 0).bind (Sum.elim (λd =>
 let t4:=decide ((a0.length:Int)<(b1.length:Int))
 some t4) (λr=>some r))
def oW:FL:=(96,⟨[.val false yl false,.val false yl false],[.val false wD (some true)],λa=>gk a.1 a.2⟩)::oV
theorem uR:Gd oW:=vH uQ 96 Tryz.f96 [(0,⟨⟨(5,false,[dI])::us 11 4 [],[]⟩,
 ⟨[],[]⟩,some ⟨[(4,false,[dB])],[]⟩⟩)] Tryz.func96
def cJ (o1:List Int) (t8:List vB) (t10:Int) (b1:Int) (b2:Int) (b3:List UInt8) (b0_1:List Int) (b4:List Int):Option ((Int×Int×Int×List UInt8×List Int×List Int)⊕((Int×Int×List UInt8×List Int×List Int)⊕(List Int×Int×Int×List UInt8×List Int))) :=
 cond (decide (t10<(t8.length:Int)))
 ((at? t8 t10).bind λx12 =>
 (gk o1 x12.1).bind λt17 =>
 cond t17
 (some (.inr (.inr x12)))
 (some (.inl (vA (t10+1),b1,b2,b3,b0_1,b4))))
 (some (.inr (.inl (b1,b2,b3,b0_1,b4))))
def bL (b0:vw) (o1:List Int):Option vB :=
 (cf b0).bind λt8 =>
 (loop (λz=>cJ o1 t8 z.1 z.2.1 z.2.2.1 z.2.2.2.1 z.2.2.2.2.1 z.2.2.2.2.2) (0,0,0,[],[],[])).bind (Sum.elim (λd =>
 (br o1).bind λt21 =>
 some (t21,130,0,[],[])) (λr=>some r))
def oX:FL:=(22,⟨[.val true vN false,.val false yl false],[.val true vU none],λa=>bL a.1 a.2⟩)::oW
theorem uS:Gd oX:=vH uR 22 Tryz.f22 [(0,⟨⟨[(10,false,[dI])],[(2048,.box [.own 1000000000,dI,dI,dS,.own 1000000001]),(1000000000,.root vG true),(1000000001,.root vG true)]⟩,
 ⟨[],[(2048,.box [.own 1000000300,dI,dI,dS,.own 1000000301]),(1000000300,.root vG true),(1000000301,.root vG true)]⟩,some ⟨[],[(2048,.box [.dat (.sl vG),dI,dI,dS,.dat (.sl vG)])]⟩⟩)] Tryz.func22
def fg (p0:vw) (t24:List vB) (t26:Int) (t5:List vB):Option ((Int×List vB)⊕(List vB)) :=
 cond (decide (t26<(t24.length:Int)))
 ((at? t24 t26).bind λx28 =>
 (bL p0 x28.1).bind λt34 =>
 (vS t5 [t34]).bind λzs36 =>
 some (.inl (vA (t26+1),zs36)))
 (some (.inr t5))
def fh (t41:List vB) (t43:Int) (t9:List (List Int)):Option ((Int×List (List Int))⊕(List (List Int))) :=
 cond (decide (t43<(t41.length:Int)))
 ((at? t41 t43).bind λx45 =>
 (vS t9 [x45.1]).bind λzs51 =>
 some (.inl (vA (t43+1),zs51)))
 (some (.inr t9))
def dL (p0:vw) (l:List (List Int)) (t71:Int) (t5_3:List vB) (l_1:List (List Int)):Option ((Int×List vB×List (List Int))⊕(List vB×List (List Int))) :=
 cond (decide (t71<(l.length:Int)))
 (cond (decide ((t5_3.length:Int)>=10))
 (some (.inr (t5_3,l_1)))
 ((ix l_1.length t71).bind λj80 =>
 (l_1[j80]?).bind λx81 =>
 (bL p0 x81).bind λt82 =>
 (ix l_1.length t71).bind λj87 =>
 (l_1[j87]?).bind λx =>
 (vS t5_3 [t82]).bind λzs91 =>
 some (.inl (vA (t71+1),zs91,l_1.set j87 t82.1))))
 (some (.inr (t5_3,l_1)))
def cg (p0:vw) (i1:wd) (t12:Int) (t5_2:List vB) (l:List (List Int)):Option ((Int×List vB×List (List Int))⊕(List vB×List (List Int))) :=
 (cond (decide (t12<i1.2.2.2.1)) (some (decide ((l.length:Int)>0))) (some false)).bind λt61 =>
 (cond t61 (some (decide ((t5_2.length:Int)<10))) (some false)).bind λt66 =>
 cond t66
 ((loop (λz=>dL p0 l z.1 z.2.1 z.2.2) (0,t5_2,l)).bind λd_2 =>
 some (.inl (vA (t12+1),d_2.1,d_2.2)))
 (some (.inr (t5_2,l)))
def iU (p0:vw) (i1:wd):Option (List vB) :=
 let t6:=min2 i1.2.2.1 (i1.2.2.2.2.length:Int)
 (cut i1.2.2.2.2 0 t6).bind λt24 =>
 (loop (λz=>fg p0 t24 z.1 z.2) (0,[])).bind λd =>
 (cut i1.2.2.2.2 t6 (i1.2.2.2.2.length:Int)).bind λt41 =>
 (loop (λz=>fh t41 z.1 z.2) (0,[])).bind λd_1 =>
 (loop (λz=>cg p0 i1 z.1 z.2.1 z.2.2) (0,d,d_1)).bind λd_3 =>
 some d_3.1
def oY:FL:=(79,⟨[.val true vN false,.val true xU false],[.val false (.one (.sl vU)) none],λa=>iU a.1 a.2⟩)::oX
theorem uT:Gd oY:=vH uS 79 Tryz.f79 [(0,⟨⟨[(5,false,[.own 1000000000]),(26,false,[dI])],[(1000000000,.root vU false)]⟩,
 ⟨[(5,false,[.own 1000000300])],[(1000000300,.root vU false)]⟩,none⟩),
 (2,⟨⟨[(9,false,[.own 1000002000]),(43,false,[dI])],[(1000002000,.root yl false)]⟩,
 ⟨[(9,false,[.own 1000002300])],[(1000002300,.root yl false)]⟩,none⟩),
 (4,⟨⟨(5,false,[.own 1000004000])::(12,false,[dI])::us 58 3 (us 63 3 []),[(1000004000,.root vU false),(1000002300,.keep yl false)]⟩,
 ⟨[(5,false,[.own 1000004300])],[(1000004300,.root vU false),(1000002300,.keep yl false)]⟩,none⟩),
 (6,⟨⟨[(5,false,[.own 1000006000]),(71,false,[dI])],[(1000006000,.root vU false),(1000002300,.keep yl false)]⟩,
 ⟨[(5,false,[.own 1000006300])],[(1000006300,.root vU false),(1000002300,.keep yl false)]⟩,none⟩)] Tryz.func79
def bf (o0:List Int) (low1:Int) (high2:Int) (head3:List Int):Option Bool :=
 cond ((o0.length:Int)==(vA ((head3.length:Int)+4)))
 ((cut o0 0 (vA ((o0.length:Int)-1))).bind λt20 =>
 (vS ([1,3,1]:List Int) head3).bind λzs23 =>
 (aA t20 zs23).bind λt24 =>
 (cond t24
 ((at? o0 (vA ((o0.length:Int)-1))).bind λx31 =>
 (ac x31 low1 high2).bind λt35 =>
 some t35)
 (some false)).bind λt36 =>
 some t36)
 ((some false).bind λt36_1 =>
 some t36_1)
def oZ:FL:=(335,⟨[.val false yl false,.val false vG false,.val false vG false,.val false yl false],[.val false wD (some true)],λa=>bf a.1 a.2.1 a.2.2.1 a.2.2.2⟩)::oY
theorem uU:Gd oZ:=vH uT 335 Tryz.f335 [] Tryz.func335
def iV (b0:vw) (o1:List Int):Option Bool :=
 (bf o1 1 1 ([1]:List Int)).bind λt11 =>
 (cond t11
 (some true)
 ((bf o1 1 (b0.2.2.1.length:Int) ([2,2]:List Int)).bind λt16 =>
 some t16)).bind λt17 =>
 (cond t17
 (some true)
 ((bf o1 1 (b0.2.2.1.length:Int) ([2,4]:List Int)).bind λt22 =>
 some t22)).bind λt23 =>
 (cond t23
 (some true)
 ((bf o1 1 99 ([3,1]:List Int)).bind λt27 =>
 some t27)).bind λt28 =>
 cond t28
 (some true)
 ((bf o1 1 99 ([3,2]:List Int)).bind λt31 =>
 (cond t31
 (some true)
 ((bf o1 1 99 ([3,3]:List Int)).bind λt35 =>
 some t35)).bind λt36 =>
 (cond t36
 ((at? o1 5).bind λx41 =>
 (aj (b0.2.2.2.2.1,b0.2.2.2.2.2.1) x41).bind λt43 =>
 some (decide (t43>=0)))
 (some false)).bind λt45 =>
 some t45)
def p5:FL:=(280,⟨[.val true vN false,.val false yl false],[.val false wD (some true)],λa=>iV a.1 a.2⟩)::oZ
theorem uV:Gd p5:=vH uU 280 Tryz.f280 [] Tryz.func280
def iW (v0:wz) (r1:vP) (k7:Int):Option (Int⊕Int) :=
 (cond (decide (k7<(v0.1.length:Int)))
 ((at? v0.1 k7).bind λx31 =>
 some (decide (x31.1<=r1.1)))
 (some false)).bind λt37 =>
 cond t37 (some (.inl (vA (k7+1)))) (some (.inr k7))
def gl (v0:wz) (r1:vP):Option wz :=
 (eT v0).bind λt9 =>
 (aj v0 r1.1).bind λt13 =>
 cond (decide (t13>=0))
 ((ix t9.1.length t13).bind λj20 =>
 (t9.1[j20]?).bind λx =>
 some (t9.1.set j20 r1,t9.2))
 ((loop (λz=>iW v0 r1 z) 0).bind λd =>
 (cut v0.1 0 d).bind λt43 =>
 (vS [] t43).bind λzs44 =>
 (vS zs44 [r1]).bind λzs47 =>
 (cut v0.1 d (v0.1.length:Int)).bind λt51 =>
 (vS zs47 t51).bind λzs52 =>
 some (zs52,t9.2))
def p6:FL:=(360,⟨[.val true xw false,.val true wL false],[.val true xw (some true)],λa=>gl a.1 a.2⟩)::p5
theorem uW:Gd p6:=vH uV 360 Tryz.f360 [(0,⟨⟨(7,false,[dI])::us 28 9 [],[]⟩,
 ⟨[(7,false,[dI])],[]⟩,none⟩)] Tryz.func360
def gm (v0:wz) (id1:Int):Option wz :=
 (eT v0).bind λt8 =>
 (aj v0 id1).bind λt11 =>
 cond (decide (t11>=0))
 ((cut v0.1 0 t11).bind λt17 =>
 (vS [] t17).bind λzs18 =>
 (cut v0.1 (vA (t11+1)) (v0.1.length:Int)).bind λt23 =>
 (vS zs18 t23).bind λzs24 =>
 some (zs24,t8.2))
 (some t8)
def p7:FL:=(361,⟨[.val true xw false,.val false vG false],[.val true xw (some true)],λa=>gm a.1 a.2⟩)::p6
theorem uX:Gd p7:=vH uW 361 Tryz.f361 [] Tryz.func361
def iX (p0:vw) (i1:Int) (a2:Int) (a3:Int):Option (vw×Int) :=
 (aj (p0.2.2.2.2.1,p0.2.2.2.2.2.1) a2).bind λt15 =>
 cond (i1==1)
 ((cond (a3==4) (some (decide (t15<0))) (some false)).bind λt24 =>
 (cond t24 (some (decide ((p0.2.2.2.2.1.length:Int)<6))) (some false)).bind λt33 =>
 cond t33
 ((gl (p0.2.2.2.2.1,p0.2.2.2.2.2.1) (a2,0,0)).bind λt41 =>
 some ((p0.1,p0.2.1,p0.2.2.1,p0.2.2.2.1,t41.1,t41.2,p0.2.2.2.2.2.2.1,p0.2.2.2.2.2.2.2.1,p0.2.2.2.2.2.2.2.2.1,p0.2.2.2.2.2.2.2.2.2.1,p0.2.2.2.2.2.2.2.2.2.2),0))
 ((cond (a3==6) (some (decide (t15>=0))) (some false)).bind λt50 =>
 cond t50
 ((gm (p0.2.2.2.2.1,p0.2.2.2.2.2.1) a2).bind λt57 =>
 some ((p0.1,p0.2.1,p0.2.2.1,p0.2.2.2.1,t57.1,t57.2,p0.2.2.2.2.2.2.1,p0.2.2.2.2.2.2.2.1,p0.2.2.2.2.2.2.2.2.1,p0.2.2.2.2.2.2.2.2.2.1,p0.2.2.2.2.2.2.2.2.2.2),0))
 (some (p0,2))))
 ((fY (p0.2.2.1.length:Int)).bind λt66 =>
 (ac a3 0 t66).bind λt67 =>
 cond (!t67)
 (some (p0,2))
 (cond (i1==2)
 ((ix p0.2.2.2.2.1.length t15).bind λj78 =>
 (p0.2.2.2.2.1[j78]?).bind λx =>
 some ((p0.1,p0.2.1,p0.2.2.1,p0.2.2.2.1,p0.2.2.2.2.1.set j78 (x.1,a3,x.2.2),p0.2.2.2.2.2.1,p0.2.2.2.2.2.2.1,p0.2.2.2.2.2.2.2.1,p0.2.2.2.2.2.2.2.2.1,p0.2.2.2.2.2.2.2.2.2.1,p0.2.2.2.2.2.2.2.2.2.2),0))
 ((ix p0.2.2.2.2.1.length t15).bind λj87 =>
 (p0.2.2.2.2.1[j87]?).bind λx_1 =>
 some ((p0.1,p0.2.1,p0.2.2.1,p0.2.2.2.1,p0.2.2.2.2.1.set j87 (x_1.1,x_1.2.1,a3),p0.2.2.2.2.2.1,p0.2.2.2.2.2.2.1,p0.2.2.2.2.2.2.2.1,p0.2.2.2.2.2.2.2.2.1,p0.2.2.2.2.2.2.2.2.2.1,p0.2.2.2.2.2.2.2.2.2.2),0))))
def p8:FL:=(336,⟨[.ptr vN (some true),.val false vG false,.val false vG false,.val false vG false],[.val false vG (some true)],λa=>iX a.1 a.2.1 a.2.2.1 a.2.2.2⟩)::p7
theorem uY:Gd p8:=vH uX 336 Tryz.f336 [] Tryz.func336
def jJ (p0:vw) (i1:List Int) (a2:zj):Option (vw×Int) :=
 (at? i1 3).bind λx9 =>
 (cond (x9==1) (some (a2.1 != 4)) (some false)).bind λt17 =>
 (cond t17
 (some true)
 ((cond (!(x9==1)) (some (a2.1 != 2)) (some false)).bind λt25 =>
 some t25)).bind λt26 =>
 cond t26
 (some (p0,1))
 (cond (x9==1)
 (cond (decide ((a2.2.2.1.length:Int)>10))
 (some (p0,2))
 (some ((p0.1,a2.2.2.1,p0.2.2.1,p0.2.2.2.1,p0.2.2.2.2.1,p0.2.2.2.2.2.1,p0.2.2.2.2.2.2.1,p0.2.2.2.2.2.2.2.1,p0.2.2.2.2.2.2.2.2.1,p0.2.2.2.2.2.2.2.2.2.1,p0.2.2.2.2.2.2.2.2.2.2),0)))
 ((at? i1 3).bind λx52 =>
 cond (x52==3)
 ((at? i1 4).bind λx57 =>
 (at? i1 5).bind λx60 =>
 (iX p0 x57 x60 a2.2.1).bind λt64 =>
 some t64)
 ((at? i1 4).bind λx67 =>
 cond (x67==2)
 ((ac a2.2.1 1 1000).bind λt72 =>
 cond (!t72)
 (some (p0,2))
 ((at? i1 5).bind λx79 =>
 (ix p0.2.2.1.length (vA (x79-1))).bind λj84 =>
 (p0.2.2.1[j84]?).bind λx =>
 some ((p0.1,p0.2.1,p0.2.2.1.set j84 (x.1,a2.2.1,x.2.2.1,x.2.2.2.1,x.2.2.2.2.1,x.2.2.2.2.2.1,x.2.2.2.2.2.2.1,x.2.2.2.2.2.2.2),p0.2.2.2.1,p0.2.2.2.2.1,p0.2.2.2.2.2.1,p0.2.2.2.2.2.2.1,p0.2.2.2.2.2.2.2.1,p0.2.2.2.2.2.2.2.2.1,p0.2.2.2.2.2.2.2.2.2.1,p0.2.2.2.2.2.2.2.2.2.2),0)))
 ((at? i1 5).bind λx33 =>
 (ix p0.2.2.2.2.2.1.length (vA (x33-1))).bind λj38 =>
 (p0.2.2.2.2.2.1[j38]?).bind λx_1 =>
 some ((p0.1,p0.2.1,p0.2.2.1,p0.2.2.2.1,p0.2.2.2.2.1,p0.2.2.2.2.2.1.set j38 a2.2.1,p0.2.2.2.2.2.2.1,p0.2.2.2.2.2.2.2.1,p0.2.2.2.2.2.2.2.2.1,p0.2.2.2.2.2.2.2.2.2.1,p0.2.2.2.2.2.2.2.2.2.2),0)))))
def p9:FL:=(281,⟨[.ptr vN (some true),.val false yl false,.val true Aw false],[.val false vG (some true)],λa=>jJ a.1 a.2.1 a.2.2⟩)::p8
theorem uZ:Gd p9:=vH uY 281 Tryz.f281 [] Tryz.func281
def dM (l0:List vD) (tag1:Int) (mac2:Int) (t11:Int):Option (Int⊕(Unit⊕Int)) :=
 cond (decide (t11<(l0.length:Int)))
 ((at? l0 t11).bind λx14 =>
 (cond (x14.1==tag1) (some (x14.2.1==mac2)) (some false)).bind λt25 =>
 cond t25 (some (.inr (.inr t11))) (some (.inl (vA (t11+1)))))
 (some (.inr (.inl ())))
def dN (l0:List vD) (tag1:Int) (mac2:Int):Option Int :=
 (loop (λz=>dM l0 tag1 mac2 z) 0).bind (Sum.elim (λd =>
 some (-1)) (λr=>some r))
def pa:FL:=(337,⟨[.val false (.one (.sl vX)) false,.val false vG false,.val false vG false],[.val false vG (some true)],λa=>dN a.1 a.2.1 a.2.2⟩)::p9
theorem v5:Gd pa:=vH uZ 337 Tryz.f337 [(0,⟨⟨(11,false,[dI])::us 21 4 [],[]⟩,
 ⟨[],[]⟩,some ⟨[(6,false,[dI])],[]⟩⟩)] Tryz.func337
def iY (b0:vw) (o1:List Int):Option Bool :=
 (bf o1 2 5 ([1]:List Int)).bind λt11 =>
 (cond t11
 (some true)
 ((bf o1 1 (b0.2.2.1.length:Int) ([2,1]:List Int)).bind λt16 =>
 some t16)).bind λt17 =>
 (cond t17
 (some true)
 ((bf o1 1 (b0.2.2.1.length:Int) ([2,3]:List Int)).bind λt22 =>
 some t22)).bind λt23 =>
 cond t23
 (some true)
 ((cond ((o1.length:Int)==7)
 ((cut o1 0 5).bind λt29 =>
 (aA t29 ([1,3,1,4,1]:List Int)).bind λt31 =>
 some t31)
 (some false)).bind λt32 =>
 (cond t32
 ((at? o1 5).bind λx37 =>
 (at? o1 6).bind λx40 =>
 (dN b0.2.2.2.1 x37 x40).bind λt42 =>
 some (decide (t42>=0)))
 (some false)).bind λt44 =>
 some t44)
def pb:FL:=(282,⟨[.val true vN false,.val false yl false],[.val false wD (some true)],λa=>iY a.1 a.2⟩)::pa
theorem v7:Gd pb:=vH v5 282 Tryz.f282 [] Tryz.func282
def dO (b0:vw) (x1:vB):Option (vw×Int) :=
 (iV b0 x1.1).bind λt11 =>
 cond t11
 ((jJ b0 x1.1 x1.2).bind λt17 =>
 some t17)
 ((iY b0 x1.1).bind λt24 =>
 cond t24 (some (b0,4)) (some (b0,3)))
def pc:FL:=(171,⟨[.ptr vN (some true),.val true vU false],[.val false vG (some true)],λa=>dO a.1 a.2⟩)::pb
theorem v8:Gd pc:=vH v7 171 Tryz.f171 [] Tryz.func171
def bu (id0:Int) (l1:List Pt) (bits5:Int) (port6:Int):Option ((Int×Int)⊕Int) :=
 (cond (decide (port6<(l1.length:Int))) (some (decide (port6<6))) (some false)).bind λt15 =>
 cond t15
 ((bc id0 l1 port6).bind λt21 =>
 (cond (t21==1) (some true) (some (t21==2))).bind λt27 =>
 cond t27
 ((shl .i64 1 port6).bind λt30 =>
 some (.inl (CP .i64 bits5 t30,vA (port6+1))))
 (some (.inl (bits5,vA (port6+1)))))
 (some (.inr bits5))
def gn (id0:Int) (l1:List Pt):Option Int :=
 (loop (λz=>bu id0 l1 z.1 z.2) (0,0)).bind λd =>
 some d
def pf:FL:=(283,⟨[.val false vG false,.val false (.one (.sl xS)) false],[.val false vG (some true)],λa=>gn a.1 a.2⟩)::pc
theorem v9:Gd pf:=vH v8 283 Tryz.f283 [(0,⟨⟨[(5,false,[dI]),(6,false,[dI]),(13,false,[.undef]),(14,false,[.undef]),(25,false,[.undef]),(26,false,[.undef])],[]⟩,
 ⟨[(5,false,[dI])],[]⟩,none⟩)] Tryz.func283
def ay (bits0:Int) (port1:Int):Option Bool :=
 (ac port1 0 62).bind λt6 =>
 (cond t6
 ((shr .i64 bits0 port1).bind λt10 =>
 some ((xM .i64 t10 1)==1))
 (some false)).bind λt13 =>
 some t13
def pj:FL:=(284,⟨[.val false vG false,.val false vG false],[.val false wD (some true)],λa=>ay a.1 a.2⟩)::pf
theorem va:Gd pj:=vH v9 284 Tryz.f284 [] Tryz.func284
def fi (l0:List vD) (port1:Int) (t10:Int) (out5:List vD):Option ((Int×List vD)⊕(List vD)) :=
 cond (decide (t10<(l0.length:Int)))
 ((at? l0 t10).bind λx12 =>
 (cond x12.2.2.2.2 (some true) (some (x12.2.2.1 != port1))).bind λt21 =>
 cond t21
 ((vS out5 [x12]).bind λzs25 =>
 some (.inl (vA (t10+1),zs25)))
 (some (.inl (vA (t10+1),out5))))
 (some (.inr out5))
def iZ (l0:List vD) (port1:Int):Option (List vD) :=
 (loop (λz=>fi l0 port1 z.1 z.2) (0,[])).bind λd =>
 some d
def pk:FL:=(285,⟨[.val false (.one (.sl vX)) false,.val false vG false],[.val false (.one (.sl vX)) (some true)],λa=>iZ a.1 a.2⟩)::pj
theorem vb:Gd pk:=vH va 285 Tryz.f285 [(0,⟨⟨(5,false,[.own 1000000000])::(10,false,[dI])::us 17 4 [],[(1000000000,.root vX true)]⟩,
 ⟨[(5,false,[.own 1000000300])],[(1000000300,.root vX true)]⟩,none⟩)] Tryz.func285
def ja (b0:vw) (t20:Int) (t26:Int) (b0_1:Int) (b1:List UInt8) (b6:Int) (b7:Int) (b8:Int) (b9:Int) (b10:Int) (b3:List vD):Option ((Int×Int×List UInt8×Int×Int×Int×Int×Int×List vD)⊕(Int×List UInt8×Int×Int×Int×Int×Int×List vD)) :=
 cond (decide (t26<(b0.2.2.1.length:Int)))
 ((ay t20 t26).bind λt31 =>
 cond (!t31)
 ((iZ b3 t26).bind λt39 =>
 some (.inl (vA (t26+1),b0_1,b1,b6,b7,b8,b9,b10,t39)))
 (some (.inl (vA (t26+1),b0_1,b1,b6,b7,b8,b9,b10,b3))))
 (some (.inr (b0_1,b1,b6,b7,b8,b9,b10,b3)))
def aI (b0:vw):Option vw :=
 (az b0.2.2.2.2.2.2.2.2.2.2).bind λt9 =>
 (gn b0.1 b0.2.2.1).bind λt20 =>
 (loop (λz=>ja b0 t20 z.1 z.2.1 z.2.2.1 z.2.2.2.1 z.2.2.2.2.1 z.2.2.2.2.2.1 z.2.2.2.2.2.2.1 z.2.2.2.2.2.2.2.1 z.2.2.2.2.2.2.2.2) (0,b0.1,b0.2.1,b0.2.2.2.2.2.2.1,b0.2.2.2.2.2.2.2.1,b0.2.2.2.2.2.2.2.2.1,b0.2.2.2.2.2.2.2.2.2.1,t9,b0.2.2.2.1)).bind λd =>
 some (d.1,d.2.1,b0.2.2.1,d.2.2.2.2.2.2.2,b0.2.2.2.2.1,b0.2.2.2.2.2.1,d.2.2.1,d.2.2.2.1,d.2.2.2.2.1,d.2.2.2.2.2.1,d.2.2.2.2.2.2.1)
def pm:FL:=(172,⟨[.ptr vN (some true)],[],λa=>aI a⟩)::pk
theorem vc:Gd pm:=vH vb 172 Tryz.f172 [(0,⟨⟨[(26,false,[dI])],[(1,.box [dI,dS,.same 4,.own 1000000000,.same 6,.same 7,dI,dI,dI,dI,dI]),(1000000000,.root vX true)]⟩,
 ⟨[],[(1,.box [dI,dS,.same 4,.own 1000000300,.same 6,.same 7,dI,dI,dI,dI,dI]),(1000000300,.root vX true)]⟩,none⟩)] Tryz.func172
def gp (p0:vw) (t25:Int) (x28:vB) (t32:List vB) (t34:Int) (b0_2:Int) (b1_2:List UInt8) (b6_2:Int) (b7_2:Int) (b8_2:Int) (b9_2:Int) (b10_2:Int):Option ((Int×Int×List UInt8×Int×Int×Int×Int×Int)⊕((Int×List UInt8×Int×Int×Int×Int×Int)⊕(Int×Int×Int×List UInt8×Int×Int×Int×Int×Int×List Pt×List vD×List vP×List Int))) :=
 cond (decide (t34<(t32.length:Int)))
 ((at? t32 t34).bind λx36 =>
 (aA x28.1 x36.1).bind λt42 =>
 cond t42
 ((al p0).bind λt44 =>
 some (.inr (.inr (5,vA (t25+1),t44.1,t44.2.1,t44.2.2.2.2.2.2.1,t44.2.2.2.2.2.2.2.1,t44.2.2.2.2.2.2.2.2.1,t44.2.2.2.2.2.2.2.2.2.1,t44.2.2.2.2.2.2.2.2.2.2,t44.2.2.1,t44.2.2.2.1,t44.2.2.2.2.1,t44.2.2.2.2.2.1))))
 (some (.inl (vA (t34+1),b0_2,b1_2,b6_2,b7_2,b8_2,b9_2,b10_2))))
 (some (.inr (.inl (b0_2,b1_2,b6_2,b7_2,b8_2,b9_2,b10_2))))
def jb (p0:vw) (i1:List vB) (t25:Int) (b0:Int) (b1:List UInt8) (b6:Int) (b7:Int) (b8:Int) (b9:Int) (b10:Int) (b0_1:Int) (b1_1:List UInt8) (b6_1:Int) (b7_1:Int) (b8_1:Int) (b9_1:Int) (b10_1:Int) (b2:List Pt) (b3:List vD) (b4:List vP) (b5:List Int) (b2_1:List Pt) (b3_1:List vD) (b4_1:List vP) (b5_1:List Int):Option ((Int×Int×List UInt8×Int×Int×Int×Int×Int×Int×List UInt8×Int×Int×Int×Int×Int×List Pt×List vD×List vP×List Int×List Pt×List vD×List vP×List Int)⊕((Int×List UInt8×Int×Int×Int×Int×Int×Int×List UInt8×Int×Int×Int×Int×Int×List Pt×List vD×List vP×List Int×List Pt×List vD×List vP×List Int)⊕(Int×Int×Int×List UInt8×Int×Int×Int×Int×Int×List Pt×List vD×List vP×List Int))) :=
 cond (decide (t25<(i1.length:Int)))
 ((at? i1 t25).bind λx28 =>
 (cut i1 0 t25).bind λt32 =>
 (loop (λz=>gp p0 t25 x28 t32 z.1 z.2.1 z.2.2.1 z.2.2.2.1 z.2.2.2.2.1 z.2.2.2.2.2.1 z.2.2.2.2.2.2.1 z.2.2.2.2.2.2.2) (0,b0,b1,b6,b7,b8,b9,b10)).bind (Sum.elim (λd =>
 (dO (b0_1,b1_1,b2_1,b3_1,b4_1,b5_1,b6_1,b7_1,b8_1,b9_1,b10_1) x28).bind λt49 =>
 cond (t49.2 != 0)
 ((al p0).bind λt53 =>
 some (.inr (.inr (t49.2,vA (t25+1),t53.1,t53.2.1,t53.2.2.2.2.2.2.1,t53.2.2.2.2.2.2.2.1,t53.2.2.2.2.2.2.2.2.1,t53.2.2.2.2.2.2.2.2.2.1,t53.2.2.2.2.2.2.2.2.2.2,t53.2.2.1,t53.2.2.2.1,t53.2.2.2.2.1,t53.2.2.2.2.2.1))))
 (some (.inl (vA (t25+1),d.1,d.2.1,d.2.2.1,d.2.2.2.1,d.2.2.2.2.1,d.2.2.2.2.2.1,d.2.2.2.2.2.2,t49.1.1,t49.1.2.1,t49.1.2.2.2.2.2.2.1,t49.1.2.2.2.2.2.2.2.1,t49.1.2.2.2.2.2.2.2.2.1,t49.1.2.2.2.2.2.2.2.2.2.1,t49.1.2.2.2.2.2.2.2.2.2.2,b2,b3,b4,b5,t49.1.2.2.1,t49.1.2.2.2.1,t49.1.2.2.2.2.1,t49.1.2.2.2.2.2.1)))) (λr=>some (.inr (.inr r)))))
 (some (.inr (.inl (b0,b1,b6,b7,b8,b9,b10,b0_1,b1_1,b6_1,b7_1,b8_1,b9_1,b10_1,b2,b3,b4,b5,b2_1,b3_1,b4_1,b5_1))))
def fj (p0:vw) (i1:List vB):Option (vw×Int×Int) :=
 (al p0).bind λt14 =>
 cond ((i1.length:Int)==0)
 (some (t14,0,0))
 ((bg p0).bind λt20 =>
 cond (!t20)
 (some (t14,3,1))
 ((loop (λz=>jb p0 i1 z.1 z.2.1 z.2.2.1 z.2.2.2.1 z.2.2.2.2.1 z.2.2.2.2.2.1 z.2.2.2.2.2.2.1 z.2.2.2.2.2.2.2.1 z.2.2.2.2.2.2.2.2.1 z.2.2.2.2.2.2.2.2.2.1 z.2.2.2.2.2.2.2.2.2.2.1 z.2.2.2.2.2.2.2.2.2.2.2.1 z.2.2.2.2.2.2.2.2.2.2.2.2.1 z.2.2.2.2.2.2.2.2.2.2.2.2.2.1 z.2.2.2.2.2.2.2.2.2.2.2.2.2.2.1 z.2.2.2.2.2.2.2.2.2.2.2.2.2.2.2.1 z.2.2.2.2.2.2.2.2.2.2.2.2.2.2.2.2.1 z.2.2.2.2.2.2.2.2.2.2.2.2.2.2.2.2.2.1 z.2.2.2.2.2.2.2.2.2.2.2.2.2.2.2.2.2.2.1 z.2.2.2.2.2.2.2.2.2.2.2.2.2.2.2.2.2.2.2.1 z.2.2.2.2.2.2.2.2.2.2.2.2.2.2.2.2.2.2.2.2.1 z.2.2.2.2.2.2.2.2.2.2.2.2.2.2.2.2.2.2.2.2.2.1 z.2.2.2.2.2.2.2.2.2.2.2.2.2.2.2.2.2.2.2.2.2.2) (0,0,[],0,0,0,0,0,t14.1,t14.2.1,t14.2.2.2.2.2.2.1,t14.2.2.2.2.2.2.2.1,t14.2.2.2.2.2.2.2.2.1,t14.2.2.2.2.2.2.2.2.2.1,t14.2.2.2.2.2.2.2.2.2.2,[],[],[],[],t14.2.2.1,t14.2.2.2.1,t14.2.2.2.2.1,t14.2.2.2.2.2.1)).bind (Sum.elim (λd_1 =>
 (eV d_1.2.2.2.2.2.2.2.2.2.2.2.2.2.2.2.2.2.2.2.2 (d_1.2.2.2.2.2.2.2.2.2.2.2.2.2.2.2.2.2.2.1.length:Int)).bind λt63 =>
 cond (!t63)
 ((al p0).bind λt66 =>
 some (t66,5,(i1.length:Int)))
 ((aI (d_1.2.2.2.2.2.2.2.1,d_1.2.2.2.2.2.2.2.2.1,d_1.2.2.2.2.2.2.2.2.2.2.2.2.2.2.2.2.2.2.1,d_1.2.2.2.2.2.2.2.2.2.2.2.2.2.2.2.2.2.2.2.1,d_1.2.2.2.2.2.2.2.2.2.2.2.2.2.2.2.2.2.2.2.2.1,d_1.2.2.2.2.2.2.2.2.2.2.2.2.2.2.2.2.2.2.2.2.2,d_1.2.2.2.2.2.2.2.2.2.1,d_1.2.2.2.2.2.2.2.2.2.2.1,d_1.2.2.2.2.2.2.2.2.2.2.2.1,d_1.2.2.2.2.2.2.2.2.2.2.2.2.1,d_1.2.2.2.2.2.2.2.2.2.2.2.2.2.1)).bind λt69 =>
 some (t69,0,0))) (λr_1=>some ((r_1.2.2.1,r_1.2.2.2.1,r_1.2.2.2.2.2.2.2.2.2.1,r_1.2.2.2.2.2.2.2.2.2.2.1,r_1.2.2.2.2.2.2.2.2.2.2.2.1,r_1.2.2.2.2.2.2.2.2.2.2.2.2,r_1.2.2.2.2.1,r_1.2.2.2.2.2.1,r_1.2.2.2.2.2.2.1,r_1.2.2.2.2.2.2.2.1,r_1.2.2.2.2.2.2.2.2.1),r_1.1,r_1.2.1)))))
def po:FL:=(80,⟨[.val true vN false,.val false (.one (.sl vU)) false],[.val true vN (some true),.val false vG (some true),.val false vG (some true)],λa=>fj a.1 a.2⟩)::pm
theorem vd:Gd po:=vH vc 80 Tryz.f80 [(0,⟨⟨[(25,false,[dI])],[(2048,.box [dI,dS,.own 1000000000,.own 1000000001,.own 1000000002,.own 1000000003,dI,dI,dI,dI,dI]),(265216,.box [dI,dS,.own 1000000004,.own 1000000005,.own 1000000006,.own 1000000007,dI,dI,dI,dI,dI]),(1000000000,.root xS true),(1000000001,.root vX true),(1000000002,.root wL true),(1000000003,.root vG true),(1000000004,.root xS true),(1000000005,.root vX true),(1000000006,.root wL true),(1000000007,.root vG true)]⟩,
 ⟨[],[(2048,.box [dI,dS,.own 1000000300,.own 1000000301,.own 1000000302,.own 1000000303,dI,dI,dI,dI,dI]),(265216,.box [dI,dS,.own 1000000304,.own 1000000305,.own 1000000306,.own 1000000307,dI,dI,dI,dI,dI]),(1000000300,.root xS true),(1000000301,.root vX true),(1000000302,.root wL true),(1000000303,.root vG true),(1000000304,.root xS true),(1000000305,.root vX true),(1000000306,.root wL true),(1000000307,.root vG true)]⟩,some ⟨[(5,false,[dI]),(6,false,[dI])],[(2048,.box [dI,dS,.own 1000000600,.own 1000000601,.own 1000000602,.own 1000000603,dI,dI,dI,dI,dI]),(1000000600,.root xS true),(1000000601,.root vX true),(1000000602,.root wL true),(1000000603,.root vG true)]⟩⟩),
 (2,⟨⟨[(34,false,[dI])],[(2048,.box [dI,dS,.same 1000000000,.same 1000000001,.same 1000000002,.same 1000000003,dI,dI,dI,dI,dI])]⟩,
 ⟨[],[(2048,.box [dI,dS,.same 1000000000,.same 1000000001,.same 1000000002,.same 1000000003,dI,dI,dI,dI,dI])]⟩,some ⟨[(5,false,[dI]),(6,false,[dI])],[(2048,.box [dI,dS,.own 1000002600,.own 1000002601,.own 1000002602,.own 1000002603,dI,dI,dI,dI,dI]),(1000002600,.root xS true),(1000002601,.root vX true),(1000002602,.root wL true),(1000002603,.root vG true)]⟩⟩)] Tryz.func80
def gq (p0:vw) (i1:wd) (t54:Int) (b0:Int) (b1:Int) (b2:Int) (b3:Int) (b4:List vB):Option ((Int×Int×Int×Int×Int×List vB)⊕(Int×Int×Int×Int×List vB)) :=
 cond (decide (t54<(i1.2.2.2.2.length:Int)))
 ((at? i1.2.2.2.2 t54).bind λx56 =>
 (br x56.1).bind λt62 =>
 (cI p0 x56.1).bind λt66 =>
 (vS b4 [(t62,t66.1,t66.2.1,t66.2.2.1,t66.2.2.2)]).bind λzs69 =>
 some (.inl (vA (t54+1),b0,b1,b2,b3,zs69)))
 (some (.inr (b0,b1,b2,b3,b4)))
def pp (i1:wd) (b0_2:Int) (b1_2:List UInt8) (b6:Int) (b7:Int) (b8:Int) (b9:Int) (b10:Int) (b0_3:Int) (b1_3:Int) (b2_2:Int) (b3_2:Int) (b0_4:Int) (b1_4:List UInt8) (b6_1:Int) (b7_1:Int) (b8_1:Int) (b9_1:Int) (b10_1:Int) (b0_5:Int) (b1_5:Int) (b2_3:Int) (b3_3:Int) (b4_2:List vB) (b2_4:List Pt) (b3_4:List vD) (b4_3:List vP) (b5:List Int) (b4_4:List vB) (b2_5:List Pt) (b3_5:List vD) (b4_5:List vP) (b5_1:List Int):Option ((Int×List UInt8×Int×Int×Int×Int×Int×Int×Int×Int×Int×Int×List UInt8×Int×Int×Int×Int×Int×Int×Int×Int×Int×List vB×List Pt×List vD×List vP×List Int×List vB×List Pt×List vD×List vP×List Int)⊕((Int×List UInt8×Int×Int×Int×Int×Int×Int×Int×Int×Int×Int×List UInt8×Int×Int×Int×Int×Int×Int×Int×Int×Int×List vB×List Pt×List vD×List vP×List Int×List vB×List Pt×List vD×List vP×List Int)⊕(Bool×Int×List UInt8×Int×Int×Int×Int×Int×Int×Int×Int×Int×List vB×List Pt×List vD×List vP×List Int))) :=
 (cond (i1.1==165) (some (decide ((b4_2.length:Int)>0))) (some false)).bind λt109 =>
 cond t109
 ((cut b4_2 0 (vA ((b4_2.length:Int)-1))).bind λt116 =>
 (bb (b0_5,b1_5,b2_3,b3_3,t116)).bind λt119 =>
 cond t119
 (some (.inr (.inr (true,b0_4,b1_4,b6_1,b7_1,b8_1,b9_1,b10_1,b0_5,b1_5,b2_3,b3_3,t116,b2_5,b3_5,b4_5,b5_1))))
 (some (.inl (b0_2,b1_2,b6,b7,b8,b9,b10,b0_3,b1_3,b2_2,b3_2,b0_4,b1_4,b6_1,b7_1,b8_1,b9_1,b10_1,b0_5,b1_5,b2_3,b3_3,t116,b2_4,b3_4,b4_3,b5,b4_4,b2_5,b3_5,b4_5,b5_1))))
 (some (.inr (.inl (b0_2,b1_2,b6,b7,b8,b9,b10,b0_3,b1_3,b2_2,b3_2,b0_4,b1_4,b6_1,b7_1,b8_1,b9_1,b10_1,b0_5,b1_5,b2_3,b3_3,b4_2,b2_4,b3_4,b4_3,b5,b4_4,b2_5,b3_5,b4_5,b5_1))))
def gt (p0:vw) (i1:wd) (t77:Int) (b0_10:Int) (b1_10:Int) (b2_10:Int) (b3_10:Int) (b4_10:List vB):Option ((Int×Int×Int×Int×Int×List vB)⊕(Int×Int×Int×Int×List vB)) :=
 cond (decide (t77<(i1.2.2.2.2.length:Int)))
 ((at? i1.2.2.2.2 t77).bind λx79 =>
 (bL p0 x79.1).bind λt86 =>
 (vS b4_10 [t86]).bind λzs88 =>
 some (.inl (vA (t77+1),b0_10,b1_10,b2_10,b3_10,zs88)))
 (some (.inr (b0_10,b1_10,b2_10,b3_10,b4_10)))
def pq (i1:wd) (b0_12:Int) (b1_12:List UInt8) (b6_4:Int) (b7_4:Int) (b8_4:Int) (b9_4:Int) (b10_4:Int) (b0_13:Int) (b1_13:Int) (b2_12:Int) (b3_12:Int) (b0_14:Int) (b1_14:List UInt8) (b6_5:Int) (b7_5:Int) (b8_5:Int) (b9_5:Int) (b10_5:Int) (b0_15:Int) (b1_15:Int) (b2_13:Int) (b3_13:Int) (b4_12:List vB) (b2_14:List Pt) (b3_14:List vD) (b4_13:List vP) (b5_4:List Int) (b4_14:List vB) (b2_15:List Pt) (b3_15:List vD) (b4_15:List vP) (b5_5:List Int):Option ((Int×List UInt8×Int×Int×Int×Int×Int×Int×Int×Int×Int×Int×List UInt8×Int×Int×Int×Int×Int×Int×Int×Int×Int×List vB×List Pt×List vD×List vP×List Int×List vB×List Pt×List vD×List vP×List Int)⊕((Int×List UInt8×Int×Int×Int×Int×Int×Int×Int×Int×Int×Int×List UInt8×Int×Int×Int×Int×Int×Int×Int×Int×Int×List vB×List Pt×List vD×List vP×List Int×List vB×List Pt×List vD×List vP×List Int)⊕(Bool×Int×List UInt8×Int×Int×Int×Int×Int×Int×Int×Int×Int×List vB×List Pt×List vD×List vP×List Int))) :=
 (cond (i1.1==165) (some (decide ((b4_12.length:Int)>0))) (some false)).bind λt109_1 =>
 cond t109_1
 ((cut b4_12 0 (vA ((b4_12.length:Int)-1))).bind λt116_1 =>
 (bb (b0_15,b1_15,b2_13,b3_13,t116_1)).bind λt119_1 =>
 cond t119_1
 (some (.inr (.inr (true,b0_14,b1_14,b6_5,b7_5,b8_5,b9_5,b10_5,b0_15,b1_15,b2_13,b3_13,t116_1,b2_15,b3_15,b4_15,b5_5))))
 (some (.inl (b0_12,b1_12,b6_4,b7_4,b8_4,b9_4,b10_4,b0_13,b1_13,b2_12,b3_12,b0_14,b1_14,b6_5,b7_5,b8_5,b9_5,b10_5,b0_15,b1_15,b2_13,b3_13,t116_1,b2_14,b3_14,b4_13,b5_4,b4_14,b2_15,b3_15,b4_15,b5_5))))
 (some (.inr (.inl (b0_12,b1_12,b6_4,b7_4,b8_4,b9_4,b10_4,b0_13,b1_13,b2_12,b3_12,b0_14,b1_14,b6_5,b7_5,b8_5,b9_5,b10_5,b0_15,b1_15,b2_13,b3_13,b4_12,b2_14,b3_14,b4_13,b5_4,b4_14,b2_15,b3_15,b4_15,b5_5))))
def gu (i1:wd) (b0_20:Int) (b1_20:List UInt8) (b6_8:Int) (b7_8:Int) (b8_8:Int) (b9_8:Int) (b10_8:Int) (b0_21:Int) (b1_21:Int) (b2_20:Int) (b3_20:Int) (b0_22:Int) (b1_22:List UInt8) (b6_9:Int) (b7_9:Int) (b8_9:Int) (b9_9:Int) (b10_9:Int) (b0_23:Int) (b1_23:Int) (b2_21:Int) (b3_21:Int) (b4_20:List vB) (b2_22:List Pt) (b3_22:List vD) (b4_21:List vP) (b5_8:List Int) (b4_22:List vB) (b2_23:List Pt) (b3_23:List vD) (b4_23:List vP) (b5_9:List Int):Option ((Int×List UInt8×Int×Int×Int×Int×Int×Int×Int×Int×Int×Int×List UInt8×Int×Int×Int×Int×Int×Int×Int×Int×Int×List vB×List Pt×List vD×List vP×List Int×List vB×List Pt×List vD×List vP×List Int)⊕((Int×List UInt8×Int×Int×Int×Int×Int×Int×Int×Int×Int×Int×List UInt8×Int×Int×Int×Int×Int×Int×Int×Int×Int×List vB×List Pt×List vD×List vP×List Int×List vB×List Pt×List vD×List vP×List Int)⊕(Bool×Int×List UInt8×Int×Int×Int×Int×Int×Int×Int×Int×Int×List vB×List Pt×List vD×List vP×List Int))) :=
 (cond (i1.1==165) (some (decide ((b4_20.length:Int)>0))) (some false)).bind λt109_2 =>
 cond t109_2
 ((cut b4_20 0 (vA ((b4_20.length:Int)-1))).bind λt116_2 =>
 (bb (b0_23,b1_23,b2_21,b3_21,t116_2)).bind λt119_2 =>
 cond t119_2
 (some (.inr (.inr (true,b0_22,b1_22,b6_9,b7_9,b8_9,b9_9,b10_9,b0_23,b1_23,b2_21,b3_21,t116_2,b2_23,b3_23,b4_23,b5_9))))
 (some (.inl (b0_20,b1_20,b6_8,b7_8,b8_8,b9_8,b10_8,b0_21,b1_21,b2_20,b3_20,b0_22,b1_22,b6_9,b7_9,b8_9,b9_9,b10_9,b0_23,b1_23,b2_21,b3_21,t116_2,b2_22,b3_22,b4_21,b5_8,b4_22,b2_23,b3_23,b4_23,b5_9))))
 (some (.inr (.inl (b0_20,b1_20,b6_8,b7_8,b8_8,b9_8,b10_8,b0_21,b1_21,b2_20,b3_20,b0_22,b1_22,b6_9,b7_9,b8_9,b9_9,b10_9,b0_23,b1_23,b2_21,b3_21,b4_20,b2_22,b3_22,b4_21,b5_8,b4_22,b2_23,b3_23,b4_23,b5_9))))
def pr (i1:wd) (b0_28:Int) (b1_28:List UInt8) (b6_12:Int) (b7_12:Int) (b8_12:Int) (b9_12:Int) (b10_12:Int) (b0_29:Int) (b1_29:Int) (b2_28:Int) (b3_28:Int) (b0_30:Int) (b1_30:List UInt8) (b6_13:Int) (b7_13:Int) (b8_13:Int) (b9_13:Int) (b10_13:Int) (b0_31:Int) (b1_31:Int) (b2_29:Int) (b3_29:Int) (b4_28:List vB) (b2_30:List Pt) (b3_30:List vD) (b4_29:List vP) (b5_12:List Int) (b4_30:List vB) (b2_31:List Pt) (b3_31:List vD) (b4_31:List vP) (b5_13:List Int):Option ((Int×List UInt8×Int×Int×Int×Int×Int×Int×Int×Int×Int×Int×List UInt8×Int×Int×Int×Int×Int×Int×Int×Int×Int×List vB×List Pt×List vD×List vP×List Int×List vB×List Pt×List vD×List vP×List Int)⊕((Int×List UInt8×Int×Int×Int×Int×Int×Int×Int×Int×Int×Int×List UInt8×Int×Int×Int×Int×Int×Int×Int×Int×Int×List vB×List Pt×List vD×List vP×List Int×List vB×List Pt×List vD×List vP×List Int)⊕(Bool×Int×List UInt8×Int×Int×Int×Int×Int×Int×Int×Int×Int×List vB×List Pt×List vD×List vP×List Int))) :=
 (cond (i1.1==165) (some (decide ((b4_28.length:Int)>0))) (some false)).bind λt109_3 =>
 cond t109_3
 ((cut b4_28 0 (vA ((b4_28.length:Int)-1))).bind λt116_3 =>
 (bb (b0_31,b1_31,b2_29,b3_29,t116_3)).bind λt119_3 =>
 cond t119_3
 (some (.inr (.inr (true,b0_30,b1_30,b6_13,b7_13,b8_13,b9_13,b10_13,b0_31,b1_31,b2_29,b3_29,t116_3,b2_31,b3_31,b4_31,b5_13))))
 (some (.inl (b0_28,b1_28,b6_12,b7_12,b8_12,b9_12,b10_12,b0_29,b1_29,b2_28,b3_28,b0_30,b1_30,b6_13,b7_13,b8_13,b9_13,b10_13,b0_31,b1_31,b2_29,b3_29,t116_3,b2_30,b3_30,b4_29,b5_12,b4_30,b2_31,b3_31,b4_31,b5_13))))
 (some (.inr (.inl (b0_28,b1_28,b6_12,b7_12,b8_12,b9_12,b10_12,b0_29,b1_29,b2_28,b3_28,b0_30,b1_30,b6_13,b7_13,b8_13,b9_13,b10_13,b0_31,b1_31,b2_29,b3_29,b4_28,b2_30,b3_30,b4_29,b5_12,b4_30,b2_31,b3_31,b4_31,b5_13))))
def dP (p0:vw) (i1:wd):Option (vw×wd×Bool) :=
 (al p0).bind λt14 =>
 (bg p0).bind λt16 =>
 (cond (!t16)
 (some true)
 ((dD i1).bind λt20 =>
 some (!t20))).bind λt22 =>
 (cond t22 (some true) (some (i1.1==162))).bind λt27 =>
 cond t27
 (some (t14,(0,0,0,0,[]),false))
 (cond (i1.1==160)
 ((loop (λz=>gq p0 i1 z.1 z.2.1 z.2.2.1 z.2.2.2.1 z.2.2.2.2.1 z.2.2.2.2.2) (0,162,i1.2.1,0,0,[])).bind λd =>
 (bb d).bind λt98 =>
 cond t98
 (some (t14,d,true))
 ((loop (λz=>pp i1 z.1 z.2.1 z.2.2.1 z.2.2.2.1 z.2.2.2.2.1 z.2.2.2.2.2.1 z.2.2.2.2.2.2.1 z.2.2.2.2.2.2.2.1 z.2.2.2.2.2.2.2.2.1 z.2.2.2.2.2.2.2.2.2.1 z.2.2.2.2.2.2.2.2.2.2.1 z.2.2.2.2.2.2.2.2.2.2.2.1 z.2.2.2.2.2.2.2.2.2.2.2.2.1 z.2.2.2.2.2.2.2.2.2.2.2.2.2.1 z.2.2.2.2.2.2.2.2.2.2.2.2.2.2.1 z.2.2.2.2.2.2.2.2.2.2.2.2.2.2.2.1 z.2.2.2.2.2.2.2.2.2.2.2.2.2.2.2.2.1 z.2.2.2.2.2.2.2.2.2.2.2.2.2.2.2.2.2.1 z.2.2.2.2.2.2.2.2.2.2.2.2.2.2.2.2.2.2.1 z.2.2.2.2.2.2.2.2.2.2.2.2.2.2.2.2.2.2.2.1 z.2.2.2.2.2.2.2.2.2.2.2.2.2.2.2.2.2.2.2.2.1 z.2.2.2.2.2.2.2.2.2.2.2.2.2.2.2.2.2.2.2.2.2.1 z.2.2.2.2.2.2.2.2.2.2.2.2.2.2.2.2.2.2.2.2.2.2.1 z.2.2.2.2.2.2.2.2.2.2.2.2.2.2.2.2.2.2.2.2.2.2.2.1 z.2.2.2.2.2.2.2.2.2.2.2.2.2.2.2.2.2.2.2.2.2.2.2.2.1 z.2.2.2.2.2.2.2.2.2.2.2.2.2.2.2.2.2.2.2.2.2.2.2.2.2.1 z.2.2.2.2.2.2.2.2.2.2.2.2.2.2.2.2.2.2.2.2.2.2.2.2.2.2.1 z.2.2.2.2.2.2.2.2.2.2.2.2.2.2.2.2.2.2.2.2.2.2.2.2.2.2.2.1 z.2.2.2.2.2.2.2.2.2.2.2.2.2.2.2.2.2.2.2.2.2.2.2.2.2.2.2.2.1 z.2.2.2.2.2.2.2.2.2.2.2.2.2.2.2.2.2.2.2.2.2.2.2.2.2.2.2.2.2.1 z.2.2.2.2.2.2.2.2.2.2.2.2.2.2.2.2.2.2.2.2.2.2.2.2.2.2.2.2.2.2.1 z.2.2.2.2.2.2.2.2.2.2.2.2.2.2.2.2.2.2.2.2.2.2.2.2.2.2.2.2.2.2.2) (0,[],0,0,0,0,0,0,0,0,0,t14.1,t14.2.1,t14.2.2.2.2.2.2.1,t14.2.2.2.2.2.2.2.1,t14.2.2.2.2.2.2.2.2.1,t14.2.2.2.2.2.2.2.2.2.1,t14.2.2.2.2.2.2.2.2.2.2,d.1,d.2.1,d.2.2.1,d.2.2.2.1,d.2.2.2.2,[],[],[],[],[],t14.2.2.1,t14.2.2.2.1,t14.2.2.2.2.1,t14.2.2.2.2.2.1)).bind (Sum.elim (λd_1 =>
 (al p0).bind λt123 =>
 some (t123,(162,i1.2.1,7,0,[]),true)) (λr=>some ((r.2.1,r.2.2.1,r.2.2.2.2.2.2.2.2.2.2.2.2.2.1,r.2.2.2.2.2.2.2.2.2.2.2.2.2.2.1,r.2.2.2.2.2.2.2.2.2.2.2.2.2.2.2.1,r.2.2.2.2.2.2.2.2.2.2.2.2.2.2.2.2,r.2.2.2.1,r.2.2.2.2.1,r.2.2.2.2.2.1,r.2.2.2.2.2.2.1,r.2.2.2.2.2.2.2.1),(r.2.2.2.2.2.2.2.2.1,r.2.2.2.2.2.2.2.2.2.1,r.2.2.2.2.2.2.2.2.2.2.1,r.2.2.2.2.2.2.2.2.2.2.2.1,r.2.2.2.2.2.2.2.2.2.2.2.2.1),r.1)))))
 (cond (i1.1==161)
 ((loop (λz=>gt p0 i1 z.1 z.2.1 z.2.2.1 z.2.2.2.1 z.2.2.2.2.1 z.2.2.2.2.2) (0,162,i1.2.1,0,0,[])).bind λd_2 =>
 (bb d_2).bind λt98_1 =>
 cond t98_1
 (some (t14,d_2,true))
 ((loop (λz=>pq i1 z.1 z.2.1 z.2.2.1 z.2.2.2.1 z.2.2.2.2.1 z.2.2.2.2.2.1 z.2.2.2.2.2.2.1 z.2.2.2.2.2.2.2.1 z.2.2.2.2.2.2.2.2.1 z.2.2.2.2.2.2.2.2.2.1 z.2.2.2.2.2.2.2.2.2.2.1 z.2.2.2.2.2.2.2.2.2.2.2.1 z.2.2.2.2.2.2.2.2.2.2.2.2.1 z.2.2.2.2.2.2.2.2.2.2.2.2.2.1 z.2.2.2.2.2.2.2.2.2.2.2.2.2.2.1 z.2.2.2.2.2.2.2.2.2.2.2.2.2.2.2.1 z.2.2.2.2.2.2.2.2.2.2.2.2.2.2.2.2.1 z.2.2.2.2.2.2.2.2.2.2.2.2.2.2.2.2.2.1 z.2.2.2.2.2.2.2.2.2.2.2.2.2.2.2.2.2.2.1 z.2.2.2.2.2.2.2.2.2.2.2.2.2.2.2.2.2.2.2.1 z.2.2.2.2.2.2.2.2.2.2.2.2.2.2.2.2.2.2.2.2.1 z.2.2.2.2.2.2.2.2.2.2.2.2.2.2.2.2.2.2.2.2.2.1 z.2.2.2.2.2.2.2.2.2.2.2.2.2.2.2.2.2.2.2.2.2.2.1 z.2.2.2.2.2.2.2.2.2.2.2.2.2.2.2.2.2.2.2.2.2.2.2.1 z.2.2.2.2.2.2.2.2.2.2.2.2.2.2.2.2.2.2.2.2.2.2.2.2.1 z.2.2.2.2.2.2.2.2.2.2.2.2.2.2.2.2.2.2.2.2.2.2.2.2.2.1 z.2.2.2.2.2.2.2.2.2.2.2.2.2.2.2.2.2.2.2.2.2.2.2.2.2.2.1 z.2.2.2.2.2.2.2.2.2.2.2.2.2.2.2.2.2.2.2.2.2.2.2.2.2.2.2.1 z.2.2.2.2.2.2.2.2.2.2.2.2.2.2.2.2.2.2.2.2.2.2.2.2.2.2.2.2.1 z.2.2.2.2.2.2.2.2.2.2.2.2.2.2.2.2.2.2.2.2.2.2.2.2.2.2.2.2.2.1 z.2.2.2.2.2.2.2.2.2.2.2.2.2.2.2.2.2.2.2.2.2.2.2.2.2.2.2.2.2.2.1 z.2.2.2.2.2.2.2.2.2.2.2.2.2.2.2.2.2.2.2.2.2.2.2.2.2.2.2.2.2.2.2) (0,[],0,0,0,0,0,0,0,0,0,t14.1,t14.2.1,t14.2.2.2.2.2.2.1,t14.2.2.2.2.2.2.2.1,t14.2.2.2.2.2.2.2.2.1,t14.2.2.2.2.2.2.2.2.2.1,t14.2.2.2.2.2.2.2.2.2.2,d_2.1,d_2.2.1,d_2.2.2.1,d_2.2.2.2.1,d_2.2.2.2.2,[],[],[],[],[],t14.2.2.1,t14.2.2.2.1,t14.2.2.2.2.1,t14.2.2.2.2.2.1)).bind (Sum.elim (λd_3 =>
 (al p0).bind λt123_1 =>
 some (t123_1,(162,i1.2.1,7,0,[]),true)) (λr_1=>some ((r_1.2.1,r_1.2.2.1,r_1.2.2.2.2.2.2.2.2.2.2.2.2.2.1,r_1.2.2.2.2.2.2.2.2.2.2.2.2.2.2.1,r_1.2.2.2.2.2.2.2.2.2.2.2.2.2.2.2.1,r_1.2.2.2.2.2.2.2.2.2.2.2.2.2.2.2.2,r_1.2.2.2.1,r_1.2.2.2.2.1,r_1.2.2.2.2.2.1,r_1.2.2.2.2.2.2.1,r_1.2.2.2.2.2.2.2.1),(r_1.2.2.2.2.2.2.2.2.1,r_1.2.2.2.2.2.2.2.2.2.1,r_1.2.2.2.2.2.2.2.2.2.2.1,r_1.2.2.2.2.2.2.2.2.2.2.2.1,r_1.2.2.2.2.2.2.2.2.2.2.2.2.1),r_1.1)))))
 (cond (i1.1==165)
 ((iU p0 i1).bind λt95 =>
 (bb (162,i1.2.1,0,0,t95)).bind λt98_2 =>
 cond t98_2
 (some (t14,(162,i1.2.1,0,0,t95),true))
 ((loop (λz=>gu i1 z.1 z.2.1 z.2.2.1 z.2.2.2.1 z.2.2.2.2.1 z.2.2.2.2.2.1 z.2.2.2.2.2.2.1 z.2.2.2.2.2.2.2.1 z.2.2.2.2.2.2.2.2.1 z.2.2.2.2.2.2.2.2.2.1 z.2.2.2.2.2.2.2.2.2.2.1 z.2.2.2.2.2.2.2.2.2.2.2.1 z.2.2.2.2.2.2.2.2.2.2.2.2.1 z.2.2.2.2.2.2.2.2.2.2.2.2.2.1 z.2.2.2.2.2.2.2.2.2.2.2.2.2.2.1 z.2.2.2.2.2.2.2.2.2.2.2.2.2.2.2.1 z.2.2.2.2.2.2.2.2.2.2.2.2.2.2.2.2.1 z.2.2.2.2.2.2.2.2.2.2.2.2.2.2.2.2.2.1 z.2.2.2.2.2.2.2.2.2.2.2.2.2.2.2.2.2.2.1 z.2.2.2.2.2.2.2.2.2.2.2.2.2.2.2.2.2.2.2.1 z.2.2.2.2.2.2.2.2.2.2.2.2.2.2.2.2.2.2.2.2.1 z.2.2.2.2.2.2.2.2.2.2.2.2.2.2.2.2.2.2.2.2.2.1 z.2.2.2.2.2.2.2.2.2.2.2.2.2.2.2.2.2.2.2.2.2.2.1 z.2.2.2.2.2.2.2.2.2.2.2.2.2.2.2.2.2.2.2.2.2.2.2.1 z.2.2.2.2.2.2.2.2.2.2.2.2.2.2.2.2.2.2.2.2.2.2.2.2.1 z.2.2.2.2.2.2.2.2.2.2.2.2.2.2.2.2.2.2.2.2.2.2.2.2.2.1 z.2.2.2.2.2.2.2.2.2.2.2.2.2.2.2.2.2.2.2.2.2.2.2.2.2.2.1 z.2.2.2.2.2.2.2.2.2.2.2.2.2.2.2.2.2.2.2.2.2.2.2.2.2.2.2.1 z.2.2.2.2.2.2.2.2.2.2.2.2.2.2.2.2.2.2.2.2.2.2.2.2.2.2.2.2.1 z.2.2.2.2.2.2.2.2.2.2.2.2.2.2.2.2.2.2.2.2.2.2.2.2.2.2.2.2.2.1 z.2.2.2.2.2.2.2.2.2.2.2.2.2.2.2.2.2.2.2.2.2.2.2.2.2.2.2.2.2.2.1 z.2.2.2.2.2.2.2.2.2.2.2.2.2.2.2.2.2.2.2.2.2.2.2.2.2.2.2.2.2.2.2) (0,[],0,0,0,0,0,0,0,0,0,t14.1,t14.2.1,t14.2.2.2.2.2.2.1,t14.2.2.2.2.2.2.2.1,t14.2.2.2.2.2.2.2.2.1,t14.2.2.2.2.2.2.2.2.2.1,t14.2.2.2.2.2.2.2.2.2.2,162,i1.2.1,0,0,t95,[],[],[],[],[],t14.2.2.1,t14.2.2.2.1,t14.2.2.2.2.1,t14.2.2.2.2.2.1)).bind (Sum.elim (λd_4 =>
 (al p0).bind λt123_2 =>
 some (t123_2,(162,i1.2.1,7,0,[]),true)) (λr_2=>some ((r_2.2.1,r_2.2.2.1,r_2.2.2.2.2.2.2.2.2.2.2.2.2.2.1,r_2.2.2.2.2.2.2.2.2.2.2.2.2.2.2.1,r_2.2.2.2.2.2.2.2.2.2.2.2.2.2.2.2.1,r_2.2.2.2.2.2.2.2.2.2.2.2.2.2.2.2.2,r_2.2.2.2.1,r_2.2.2.2.2.1,r_2.2.2.2.2.2.1,r_2.2.2.2.2.2.2.1,r_2.2.2.2.2.2.2.2.1),(r_2.2.2.2.2.2.2.2.2.1,r_2.2.2.2.2.2.2.2.2.2.1,r_2.2.2.2.2.2.2.2.2.2.2.1,r_2.2.2.2.2.2.2.2.2.2.2.2.1,r_2.2.2.2.2.2.2.2.2.2.2.2.2.1),r_2.1)))))
 ((fj p0 i1.2.2.2.2).bind λt39 =>
 (eX i1.2.2.2.2).bind λt47 =>
 (bb (162,i1.2.1,t39.2.1,t39.2.2,t47)).bind λt98_3 =>
 cond t98_3
 (some (t39.1,(162,i1.2.1,t39.2.1,t39.2.2,t47),true))
 ((loop (λz=>pr i1 z.1 z.2.1 z.2.2.1 z.2.2.2.1 z.2.2.2.2.1 z.2.2.2.2.2.1 z.2.2.2.2.2.2.1 z.2.2.2.2.2.2.2.1 z.2.2.2.2.2.2.2.2.1 z.2.2.2.2.2.2.2.2.2.1 z.2.2.2.2.2.2.2.2.2.2.1 z.2.2.2.2.2.2.2.2.2.2.2.1 z.2.2.2.2.2.2.2.2.2.2.2.2.1 z.2.2.2.2.2.2.2.2.2.2.2.2.2.1 z.2.2.2.2.2.2.2.2.2.2.2.2.2.2.1 z.2.2.2.2.2.2.2.2.2.2.2.2.2.2.2.1 z.2.2.2.2.2.2.2.2.2.2.2.2.2.2.2.2.1 z.2.2.2.2.2.2.2.2.2.2.2.2.2.2.2.2.2.1 z.2.2.2.2.2.2.2.2.2.2.2.2.2.2.2.2.2.2.1 z.2.2.2.2.2.2.2.2.2.2.2.2.2.2.2.2.2.2.2.1 z.2.2.2.2.2.2.2.2.2.2.2.2.2.2.2.2.2.2.2.2.1 z.2.2.2.2.2.2.2.2.2.2.2.2.2.2.2.2.2.2.2.2.2.1 z.2.2.2.2.2.2.2.2.2.2.2.2.2.2.2.2.2.2.2.2.2.2.1 z.2.2.2.2.2.2.2.2.2.2.2.2.2.2.2.2.2.2.2.2.2.2.2.1 z.2.2.2.2.2.2.2.2.2.2.2.2.2.2.2.2.2.2.2.2.2.2.2.2.1 z.2.2.2.2.2.2.2.2.2.2.2.2.2.2.2.2.2.2.2.2.2.2.2.2.2.1 z.2.2.2.2.2.2.2.2.2.2.2.2.2.2.2.2.2.2.2.2.2.2.2.2.2.2.1 z.2.2.2.2.2.2.2.2.2.2.2.2.2.2.2.2.2.2.2.2.2.2.2.2.2.2.2.1 z.2.2.2.2.2.2.2.2.2.2.2.2.2.2.2.2.2.2.2.2.2.2.2.2.2.2.2.2.1 z.2.2.2.2.2.2.2.2.2.2.2.2.2.2.2.2.2.2.2.2.2.2.2.2.2.2.2.2.2.1 z.2.2.2.2.2.2.2.2.2.2.2.2.2.2.2.2.2.2.2.2.2.2.2.2.2.2.2.2.2.2.1 z.2.2.2.2.2.2.2.2.2.2.2.2.2.2.2.2.2.2.2.2.2.2.2.2.2.2.2.2.2.2.2) (0,[],0,0,0,0,0,0,0,0,0,t39.1.1,t39.1.2.1,t39.1.2.2.2.2.2.2.1,t39.1.2.2.2.2.2.2.2.1,t39.1.2.2.2.2.2.2.2.2.1,t39.1.2.2.2.2.2.2.2.2.2.1,t39.1.2.2.2.2.2.2.2.2.2.2,162,i1.2.1,t39.2.1,t39.2.2,t47,[],[],[],[],[],t39.1.2.2.1,t39.1.2.2.2.1,t39.1.2.2.2.2.1,t39.1.2.2.2.2.2.1)).bind (Sum.elim (λd_5 =>
 (al p0).bind λt123_3 =>
 some (t123_3,(162,i1.2.1,7,0,[]),true)) (λr_3=>some ((r_3.2.1,r_3.2.2.1,r_3.2.2.2.2.2.2.2.2.2.2.2.2.2.1,r_3.2.2.2.2.2.2.2.2.2.2.2.2.2.2.1,r_3.2.2.2.2.2.2.2.2.2.2.2.2.2.2.2.1,r_3.2.2.2.2.2.2.2.2.2.2.2.2.2.2.2.2,r_3.2.2.2.1,r_3.2.2.2.2.1,r_3.2.2.2.2.2.1,r_3.2.2.2.2.2.2.1,r_3.2.2.2.2.2.2.2.1),(r_3.2.2.2.2.2.2.2.2.1,r_3.2.2.2.2.2.2.2.2.2.1,r_3.2.2.2.2.2.2.2.2.2.2.1,r_3.2.2.2.2.2.2.2.2.2.2.2.1,r_3.2.2.2.2.2.2.2.2.2.2.2.2.1),r_3.1))))))))
def pu:FL:=(13,⟨[.val true vN false,.val true xU false],[.val true vN (some true),.val true xU none,.val false wD (some true)],λa=>dP a.1 a.2⟩)::po
theorem ve:Gd pu:=vH vd 13 Tryz.f13 [(1,⟨⟨[(54,false,[dI])],[(1052672,.box [dI,dI,dI,dI,.own 1000001000]),(1000001000,.root vU false)]⟩,
 ⟨[],[(1052672,.box [dI,dI,dI,dI,.own 1000001300]),(1000001300,.root vU false)]⟩,none⟩),
 (3,⟨⟨[(77,false,[dI])],[(1052672,.box [dI,dI,dI,dI,.own 1000003000]),(1000003000,.root vU false)]⟩,
 ⟨[],[(1052672,.box [dI,dI,dI,dI,.own 1000003300]),(1000003300,.root vU false)]⟩,none⟩),
 (5,⟨⟨us 105 4 [],[(3072,.box [dI,dS,.own 1000005000,.own 1000005001,.own 1000005002,.own 1000005003,dI,dI,dI,dI,dI]),(4096,.box [dI,dI,dI,dI,.own 1000005004]),(265216,.box [dI,dS,.own 1000005005,.own 1000005006,.own 1000005007,.own 1000005008,dI,dI,dI,dI,dI]),(1052672,.box [dI,dI,dI,dI,.dat (.sl vU)]),(1000005000,.root xS true),(1000005001,.root vX true),(1000005002,.root wL true),(1000005003,.root vG true),(1000005004,.root vU true),(1000005005,.root xS true),(1000005006,.root vX true),(1000005007,.root wL true),(1000005008,.root vG true)]⟩,
 ⟨[],[(3072,.box [dI,dS,.own 1000005300,.own 1000005301,.own 1000005302,.own 1000005303,dI,dI,dI,dI,dI]),(4096,.box [dI,dI,dI,dI,.own 1000005304]),(265216,.box [dI,dS,.own 1000005305,.own 1000005306,.own 1000005307,.own 1000005308,dI,dI,dI,dI,dI]),(1052672,.box [dI,dI,dI,dI,.dat (.sl vU)]),(1000005300,.root xS true),(1000005301,.root vX true),(1000005302,.root wL true),(1000005303,.root vG true),(1000005304,.root vU true),(1000005305,.root xS true),(1000005306,.root vX true),(1000005307,.root wL true),(1000005308,.root vG true)]⟩,some ⟨[(6,false,[dB])],[(3072,.box [dI,dS,.own 1000005600,.own 1000005601,.own 1000005602,.own 1000005603,dI,dI,dI,dI,dI]),(4096,.box [dI,dI,dI,dI,.dat (.sl vU)]),(1000005600,.root xS true),(1000005601,.root vX true),(1000005602,.root wL true),(1000005603,.root vG true)]⟩⟩)] Tryz.func13
def gv (p0:wd):Option wd :=
 (eX p0.2.2.2.2).bind λt8 =>
 (bb (162,p0.2.1,6,1,t8)).bind λt11 =>
 cond (!t11) (some (162,p0.2.1,7,0,[])) (some (162,p0.2.1,6,1,t8))
def pv:FL:=(315,⟨[.val true xU false],[.val true xU (some true)],λa=>gv a⟩)::pu
theorem vf:Gd pv:=vH ve 315 Tryz.f315 [] Tryz.func315
def gw (p0:vO) (i1:Int):Option (vO×List wU) :=
 (ix p0.2.2.2.2.2.2.2.2.2.2.2.2.1.length i1).bind λj12 =>
 (p0.2.2.2.2.2.2.2.2.2.2.2.2.1[j12]?).bind λx13 =>
 cond (x13.2.2.2.1 != 163)
 ((dP (x13.2.2.2.2.2.2.2.2.1,x13.2.2.2.2.2.2.2.2.2.1,x13.2.2.2.2.2.2.2.2.2.2.1,x13.2.2.2.2.2.2.2.2.2.2.2.1,x13.2.2.2.2.2.2.2.2.2.2.2.2.1,x13.2.2.2.2.2.2.2.2.2.2.2.2.2.1,x13.2.2.2.2.2.2.2.2.2.2.2.2.2.2.1,x13.2.2.2.2.2.2.2.2.2.2.2.2.2.2.2.1,x13.2.2.2.2.2.2.2.2.2.2.2.2.2.2.2.2.1,x13.2.2.2.2.2.2.2.2.2.2.2.2.2.2.2.2.2.1,x13.2.2.2.2.2.2.2.2.2.2.2.2.2.2.2.2.2.2.1) (x13.2.2.2.1,x13.2.2.2.2.1,x13.2.2.2.2.2.1,x13.2.2.2.2.2.2.1,x13.2.2.2.2.2.2.2.1)).bind λt41 =>
 (cD p0 i1).bind λt81 =>
 some (t81,[(x13.1,t41.2.1.1,t41.2.1.2.1,t41.2.1.2.2.1,t41.2.1.2.2.2.1,t41.2.1.2.2.2.2)]))
 (let t46:=p0.2.2.2.2.2.2.2.2.2.2.1==x13.2.2.2.2.2.2.2.2.2.2.2.2.2.2.2.2.2.2.1
 cond t46
 ((dP (p0.1,p0.2.1,p0.2.2.1,p0.2.2.2.1,p0.2.2.2.2.1,p0.2.2.2.2.2.1,p0.2.2.2.2.2.2.1,p0.2.2.2.2.2.2.2.1,p0.2.2.2.2.2.2.2.2.1,p0.2.2.2.2.2.2.2.2.2.1,p0.2.2.2.2.2.2.2.2.2.2.1) (x13.2.2.2.1,x13.2.2.2.2.1,x13.2.2.2.2.2.1,x13.2.2.2.2.2.2.1,x13.2.2.2.2.2.2.2.1)).bind λt64 =>
 (cD (t64.1.1,t64.1.2.1,t64.1.2.2.1,t64.1.2.2.2.1,t64.1.2.2.2.2.1,t64.1.2.2.2.2.2.1,t64.1.2.2.2.2.2.2.1,t64.1.2.2.2.2.2.2.2.1,t64.1.2.2.2.2.2.2.2.2.1,t64.1.2.2.2.2.2.2.2.2.2.1,t64.1.2.2.2.2.2.2.2.2.2.2,p0.2.2.2.2.2.2.2.2.2.2.2.1,p0.2.2.2.2.2.2.2.2.2.2.2.2.1,p0.2.2.2.2.2.2.2.2.2.2.2.2.2.1,p0.2.2.2.2.2.2.2.2.2.2.2.2.2.2) i1).bind λt81_1 =>
 some (t81_1,[(x13.1,t64.2.1.1,t64.2.1.2.1,t64.2.1.2.2.1,t64.2.1.2.2.2.1,t64.2.1.2.2.2.2)]))
 (let t71:=decide (x13.2.2.2.2.2.2.2.2.2.2.2.2.2.2.2.2.2.2.2.2>=3)
 cond t71
 ((gv (x13.2.2.2.1,x13.2.2.2.2.1,x13.2.2.2.2.2.1,x13.2.2.2.2.2.2.1,x13.2.2.2.2.2.2.2.1)).bind λt77 =>
 (cD p0 i1).bind λt81_2 =>
 some (t81_2,[(x13.1,t77.1,t77.2.1,t77.2.2.1,t77.2.2.2.1,t77.2.2.2.2)]))
 ((ix p0.2.2.2.2.2.2.2.2.2.2.2.2.1.length i1).bind λj22 =>
 (p0.2.2.2.2.2.2.2.2.2.2.2.2.1[j22]?).bind λx24 =>
 (ix p0.2.2.2.2.2.2.2.2.2.2.2.2.1.length i1).bind λj26 =>
 (p0.2.2.2.2.2.2.2.2.2.2.2.2.1[j26]?).bind λx =>
 (ge (p0.1,p0.2.1,p0.2.2.1,p0.2.2.2.1,p0.2.2.2.2.1,p0.2.2.2.2.2.1,p0.2.2.2.2.2.2.1,p0.2.2.2.2.2.2.2.1,p0.2.2.2.2.2.2.2.2.1,p0.2.2.2.2.2.2.2.2.2.1,p0.2.2.2.2.2.2.2.2.2.2.1,p0.2.2.2.2.2.2.2.2.2.2.2.1,p0.2.2.2.2.2.2.2.2.2.2.2.2.1.set j26 (x.1,x.2.1,x.2.2.1,x.2.2.2.1,x.2.2.2.2.1,x.2.2.2.2.2.1,x.2.2.2.2.2.2.1,x.2.2.2.2.2.2.2.1,x.2.2.2.2.2.2.2.2.1,x.2.2.2.2.2.2.2.2.2.1,x.2.2.2.2.2.2.2.2.2.2.1,x.2.2.2.2.2.2.2.2.2.2.2.1,x.2.2.2.2.2.2.2.2.2.2.2.2.1,x.2.2.2.2.2.2.2.2.2.2.2.2.2.1,x.2.2.2.2.2.2.2.2.2.2.2.2.2.2.1,x.2.2.2.2.2.2.2.2.2.2.2.2.2.2.2.1,x.2.2.2.2.2.2.2.2.2.2.2.2.2.2.2.2.1,x.2.2.2.2.2.2.2.2.2.2.2.2.2.2.2.2.2.1,x.2.2.2.2.2.2.2.2.2.2.2.2.2.2.2.2.2.2.1,x.2.2.2.2.2.2.2.2.2.2.2.2.2.2.2.2.2.2.2.1,vA (x24.2.2.2.2.2.2.2.2.2.2.2.2.2.2.2.2.2.2.2.2+1)),p0.2.2.2.2.2.2.2.2.2.2.2.2.2.1,p0.2.2.2.2.2.2.2.2.2.2.2.2.2.2) i1).bind λt30 =>
 some (t30,[]))))
def pw:FL:=(235,⟨[.ptr wO (some true),.val false vG false],[.val false (.one (.sl zw)) none],λa=>gw a.1 a.2⟩)::pv
theorem vg:Gd pw:=vH vf 235 Tryz.f235 [] Tryz.func235
def dU (a0:vO) (k1:Int):Option (vO×List wU) :=
 (ix a0.2.2.2.2.2.2.2.2.2.2.2.2.1.length k1).bind λj11 =>
 (a0.2.2.2.2.2.2.2.2.2.2.2.2.1[j11]?).bind λx19 =>
 cond (x19.2.2.1==0)
 ((gg a0 k1).bind λt23 =>
 some (t23,[]))
 ((a0.2.2.2.2.2.2.2.2.2.2.2.2.1[j11]?).bind λx28 =>
 cond (x28.2.2.1==2)
 ((gw a0 k1).bind λt32 =>
 some t32)
 ((a0.2.2.2.2.2.2.2.2.2.2.2.2.1[j11]?).bind λx37 =>
 (a0.2.2.2.2.2.2.2.2.2.2.2.2.1[j11]?).bind λx42 =>
 let t33:=decide (x37.2.2.2.2.2.2.2.2.2.2.2.2.2.2.2.2.2.2.2.1<(x42.2.2.2.2.2.2.2.1.length:Int))
 cond t33
 ((a0.2.2.2.2.2.2.2.2.2.2.2.2.1[j11]?).bind λx48 =>
 (a0.2.2.2.2.2.2.2.2.2.2.2.2.1[j11]?).bind λx =>
 some ((a0.1,a0.2.1,a0.2.2.1,a0.2.2.2.1,a0.2.2.2.2.1,a0.2.2.2.2.2.1,a0.2.2.2.2.2.2.1,a0.2.2.2.2.2.2.2.1,a0.2.2.2.2.2.2.2.2.1,a0.2.2.2.2.2.2.2.2.2.1,a0.2.2.2.2.2.2.2.2.2.2.1,a0.2.2.2.2.2.2.2.2.2.2.2.1,a0.2.2.2.2.2.2.2.2.2.2.2.2.1.set j11 (x.1,x.2.1,x.2.2.1,x.2.2.2.1,x.2.2.2.2.1,x.2.2.2.2.2.1,x.2.2.2.2.2.2.1,x.2.2.2.2.2.2.2.1,x.2.2.2.2.2.2.2.2.1,x.2.2.2.2.2.2.2.2.2.1,x.2.2.2.2.2.2.2.2.2.2.1,x.2.2.2.2.2.2.2.2.2.2.2.1,x.2.2.2.2.2.2.2.2.2.2.2.2.1,x.2.2.2.2.2.2.2.2.2.2.2.2.2.1,x.2.2.2.2.2.2.2.2.2.2.2.2.2.2.1,x.2.2.2.2.2.2.2.2.2.2.2.2.2.2.2.1,x.2.2.2.2.2.2.2.2.2.2.2.2.2.2.2.2.1,x.2.2.2.2.2.2.2.2.2.2.2.2.2.2.2.2.2.1,x.2.2.2.2.2.2.2.2.2.2.2.2.2.2.2.2.2.2.1,vA (x48.2.2.2.2.2.2.2.2.2.2.2.2.2.2.2.2.2.2.2.1+1),x.2.2.2.2.2.2.2.2.2.2.2.2.2.2.2.2.2.2.2.2),a0.2.2.2.2.2.2.2.2.2.2.2.2.2.1,a0.2.2.2.2.2.2.2.2.2.2.2.2.2.2),[]))
 ((a0.2.2.2.2.2.2.2.2.2.2.2.2.1[j11]?).bind λx_1 =>
 some ((a0.1,a0.2.1,a0.2.2.1,a0.2.2.2.1,a0.2.2.2.2.1,a0.2.2.2.2.2.1,a0.2.2.2.2.2.2.1,a0.2.2.2.2.2.2.2.1,a0.2.2.2.2.2.2.2.2.1,a0.2.2.2.2.2.2.2.2.2.1,a0.2.2.2.2.2.2.2.2.2.2.1,a0.2.2.2.2.2.2.2.2.2.2.2.1,a0.2.2.2.2.2.2.2.2.2.2.2.2.1.set j11 (x_1.1,x_1.2.1,2,x_1.2.2.2.1,x_1.2.2.2.2.1,x_1.2.2.2.2.2.1,x_1.2.2.2.2.2.2.1,x_1.2.2.2.2.2.2.2.1,x_1.2.2.2.2.2.2.2.2.1,x_1.2.2.2.2.2.2.2.2.2.1,x_1.2.2.2.2.2.2.2.2.2.2.1,x_1.2.2.2.2.2.2.2.2.2.2.2.1,x_1.2.2.2.2.2.2.2.2.2.2.2.2.1,x_1.2.2.2.2.2.2.2.2.2.2.2.2.2.1,x_1.2.2.2.2.2.2.2.2.2.2.2.2.2.2.1,x_1.2.2.2.2.2.2.2.2.2.2.2.2.2.2.2.1,x_1.2.2.2.2.2.2.2.2.2.2.2.2.2.2.2.2.1,x_1.2.2.2.2.2.2.2.2.2.2.2.2.2.2.2.2.2.1,x_1.2.2.2.2.2.2.2.2.2.2.2.2.2.2.2.2.2.2.1,x_1.2.2.2.2.2.2.2.2.2.2.2.2.2.2.2.2.2.2.2.1,x_1.2.2.2.2.2.2.2.2.2.2.2.2.2.2.2.2.2.2.2.2),a0.2.2.2.2.2.2.2.2.2.2.2.2.2.1,a0.2.2.2.2.2.2.2.2.2.2.2.2.2.2),[]))))
def pz:FL:=(132,⟨[.ptr wO (some true),.val false vG false],[.val false (.one (.sl zw)) none],λa=>dU a.1 a.2⟩)::pw
theorem vh:Gd pz:=vH vg 132 Tryz.f132 [] Tryz.func132
def bM (b0:vw) (port1:Int):Option Bool :=
 (bg b0).bind λt6 =>
 (cond t6
 ((ac port1 0 (vA ((b0.2.2.1.length:Int)-1))).bind λt13 =>
 some t13)
 (some false)).bind λt14 =>
 some t14
def pA:FL:=(303,⟨[.val true vN false,.val false vG false],[.val false wD (some true)],λa=>bM a.1 a.2⟩)::pz
theorem vi:Gd pA:=vH vh 303 Tryz.f303 [] Tryz.func303
def gx (f0:ym):Option Bool :=
 (ac f0.1 0 9999).bind λt5 =>
 (cond t5
 ((ac f0.2.1 1 9999).bind λt9 =>
 some t9)
 (some false)).bind λt10 =>
 (cond t10
 ((ac f0.2.2.1 0 99).bind λt14 =>
 some t14)
 (some false)).bind λt15 =>
 (cond t15 (some (decide ((f0.2.2.2.length:Int)<=20))) (some false)).bind λt21 =>
 some t21
def pB:FL:=(304,⟨[.val true zn false],[.val false wD (some true)],λa=>gx a⟩)::pA
theorem vj:Gd pB:=vH vi 304 Tryz.f304 [] Tryz.func304
def fk (v0:wz) (port1:Int) (tag2:Int):Option (Int×Bool) :=
 (ac port1 0 (vA ((v0.2.length:Int)-1))).bind λt15 =>
 cond (!t15)
 (some (0,false))
 (cond (tag2==0)
 ((at? v0.2 port1).bind λx23 =>
 (aj v0 x23).bind λt27 =>
 (cond (decide (t27<0))
 (some true)
 ((at? v0.1 t27).bind λx34 =>
 (ay x34.2.1 port1).bind λt38 =>
 some (!t38))).bind λt40 =>
 cond t40 (some (0,false)) (some (x23,true)))
 ((aj v0 tag2).bind λt27_1 =>
 (cond (decide (t27_1<0))
 (some true)
 ((at? v0.1 t27_1).bind λx34_1 =>
 (ay x34_1.2.1 port1).bind λt38_1 =>
 some (!t38_1))).bind λt40_1 =>
 cond t40_1 (some (0,false)) (some (tag2,true))))
def pC:FL:=(305,⟨[.val true xw false,.val false vG false,.val false vG false],[.val false vG (some true),.val false wD (some true)],λa=>fk a.1 a.2.1 a.2.2⟩)::pB
theorem vk:Gd pC:=vH vj 305 Tryz.f305 [] Tryz.func305
def bv (l0:List vD) (e1:vD) (k8:Int):Option (Int⊕Int) :=
 (cond (decide (k8<(l0.length:Int)))
 ((at? l0 k8).bind λx35 =>
 (eU x35 e1.1 e1.2.1).bind λt41 =>
 some (!t41))
 (some false)).bind λt43 =>
 cond t43 (some (.inl (vA (k8+1)))) (some (.inr k8))
def dQ (l0:List vD) (e1:vD):Option ((List vD)×Bool) :=
 (cz l0).bind λt10 =>
 (dN l0 e1.1 e1.2.1).bind λt16 =>
 cond (decide (t16>=0))
 ((ix t10.length t16).bind λj22 =>
 (t10[j22]?).bind λx =>
 some (t10.set j22 e1,true))
 (cond (decide ((l0.length:Int)>=12))
 (some (t10,false))
 ((loop (λz=>bv l0 e1 z) 0).bind λd =>
 (cut l0 0 d).bind λt48 =>
 (cz t48).bind λt49 =>
 (vS t49 [e1]).bind λzs52 =>
 (cut l0 d (l0.length:Int)).bind λt55 =>
 (vS zs52 t55).bind λzs56 =>
 some (zs56,true)))
def pD:FL:=(349,⟨[.val false (.one (.sl vX)) false,.val true vX false],[.val false (.one (.sl vX)) (some true),.val false wD (some true)],λa=>dQ a.1 a.2⟩)::pC
theorem vl:Gd pD:=vH vk 349 Tryz.f349 [(0,⟨⟨(8,false,[dI])::us 33 10 [],[]⟩,
 ⟨[(8,false,[dI])],[]⟩,none⟩)] Tryz.func349
def fm (l0:List vD) (tag1:Int) (mac2:Int) (port3:Int):Option (List vD) :=
 (dN l0 tag1 mac2).bind λt20 =>
 (fX l0).bind λt22 =>
 (cond (!t22)
 (some true)
 ((dC (tag1,mac2,port3,0,false)).bind λt26 =>
 some (!t26))).bind λt28 =>
 (cond t28
 (some true)
 ((cond (decide (t20>=0))
 ((at? l0 t20).bind λx35 =>
 some x35.2.2.2.2)
 (some false)).bind λt38 =>
 some t38)).bind λt39 =>
 cond t39
 ((cz l0).bind λt41 =>
 some t41)
 ((dQ l0 (tag1,mac2,port3,0,false)).bind λt45 =>
 some t45.1)
def pE:FL:=(306,⟨[.val false (.one (.sl vX)) false,.val false vG false,.val false vG false,.val false vG false],[.val false (.one (.sl vX)) (some true)],λa=>fm a.1 a.2.1 a.2.2.1 a.2.2.2⟩)::pD
theorem vm:Gd pE:=vH vl 306 Tryz.f306 [] Tryz.func306
def fo (l0:List vD) (tag1:Int) (mac2:Int):Option Int :=
 (dN l0 tag1 mac2).bind λt11 =>
 cond (decide (t11<0))
 (some (-1))
 ((at? l0 t11).bind λx16 =>
 some x16.2.2.1)
def pF:FL:=(307,⟨[.val false (.one (.sl vX)) false,.val false vG false,.val false vG false],[.val false vG (some true)],λa=>fo a.1 a.2.1 a.2.2⟩)::pE
theorem vn:Gd pF:=vH vm 307 Tryz.f307 [] Tryz.func307
def ch (v0:wz) (id1:Int):Option Int :=
 (aj v0 id1).bind λt8 =>
 cond (decide (t8<0))
 (some 0)
 ((at? v0.1 t8).bind λx14 =>
 some x14.2.1)
def pG:FL:=(308,⟨[.val true xw false,.val false vG false],[.val false vG (some true)],λa=>ch a.1 a.2⟩)::pF
theorem vp:Gd pG:=vH vn 308 Tryz.f308 [] Tryz.func308
def dR (f0:ym) (tag1:Int):Option ym :=
 (bH f0.2.2.2).bind λt7 =>
 some (f0.1,f0.2.1,tag1,t7)
def pH:FL:=(309,⟨[.val true zn false,.val false vG false],[.val true zn (some true)],λa=>dR a.1 a.2⟩)::pG
theorem vq:Gd pH:=vH vp 309 Tryz.f309 [] Tryz.func309
def ci (v0:wz) (id1:Int) (port2:Int):Option Int :=
 (aj v0 id1).bind λt10 =>
 (cond (decide (t10<0))
 (some true)
 ((at? v0.1 t10).bind λx17 =>
 (ay x17.2.2 port2).bind λt21 =>
 some t21)).bind λt22 =>
 cond t22 (some 0) (some id1)
def pI:FL:=(310,⟨[.val true xw false,.val false vG false,.val false vG false],[.val false vG (some true)],λa=>ci a.1 a.2.1 a.2.2⟩)::pH
theorem vr:Gd pI:=vH vq 310 Tryz.f310 [] Tryz.func310
def bx (p0:vw) (i1:Int) (a2:ym) (t31:Int) (t38:Int×Bool) (t74:Int) (t78:Int) (t13:List wF):Option ((Int×List wF)⊕(List wF)) :=
 cond (decide (t78<(p0.2.2.1.length:Int)))
 ((cond (t78 != i1)
 ((ch (p0.2.2.2.2.1,p0.2.2.2.2.2.1) t38.1).bind λt89 =>
 (ay (xM .i64 t31 t89) t78).bind λt92 =>
 some t92)
 (some false)).bind λt93 =>
 (cond t93
 ((cond (decide (t74<0)) (some true) (some (t74==t78))).bind λt101 =>
 some t101)
 (some false)).bind λt102 =>
 cond t102
 ((ci (p0.2.2.2.2.1,p0.2.2.2.2.2.1) t38.1 t78).bind λt110 =>
 (dR a2 t110).bind λt111 =>
 (vS t13 [(t78,t111.1,t111.2.1,t111.2.2.1,t111.2.2.2)]).bind λzs114 =>
 some (.inl (vA (t78+1),zs114)))
 (some (.inl (vA (t78+1),t13))))
 (some (.inr t13))
def bz (p0:vw) (i1:Int) (a2:ym) (t31:Int) (t38:Int×Bool) (t78_1:Int) (t13_2:List wF):Option ((Int×List wF)⊕(List wF)) :=
 cond (decide (t78_1<(p0.2.2.1.length:Int)))
 ((cond (t78_1 != i1)
 ((ch (p0.2.2.2.2.1,p0.2.2.2.2.2.1) t38.1).bind λt89_1 =>
 (ay (xM .i64 t31 t89_1) t78_1).bind λt92_1 =>
 some t92_1)
 (some false)).bind λt93_1 =>
 (cond t93_1
 ((cond (decide ((-1)<0)) (some true) (some ((-1)==t78_1))).bind λt101_1 =>
 some t101_1)
 (some false)).bind λt102_1 =>
 cond t102_1
 ((ci (p0.2.2.2.2.1,p0.2.2.2.2.2.1) t38.1 t78_1).bind λt110_1 =>
 (dR a2 t110_1).bind λt111_1 =>
 (vS t13_2 [(t78_1,t111_1.1,t111_1.2.1,t111_1.2.2.1,t111_1.2.2.2)]).bind λzs114_1 =>
 some (.inl (vA (t78_1+1),zs114_1)))
 (some (.inl (vA (t78_1+1),t13_2))))
 (some (.inr t13_2))
def bN (p0:vw) (i1:Int) (a2:ym):Option (vw×List wF) :=
 (al p0).bind λt16 =>
 (bM p0 i1).bind λt19 =>
 (cond (!t19)
 (some true)
 ((gx a2).bind λt23 =>
 some (!t23))).bind λt25 =>
 cond t25
 (some (t16,[]))
 ((gn p0.1 p0.2.2.1).bind λt31 =>
 (fk (p0.2.2.2.2.1,p0.2.2.2.2.2.1) i1 a2.2.2.1).bind λt38 =>
 (ay t31 i1).bind λt43 =>
 (cond (!t43) (some true) (some (!t38.2))).bind λt48 =>
 cond t48
 ((az p0.2.2.2.2.2.2.2.2.2.1).bind λt51 =>
 some ((t16.1,t16.2.1,t16.2.2.1,t16.2.2.2.1,t16.2.2.2.2.1,t16.2.2.2.2.2.1,t16.2.2.2.2.2.2.1,t16.2.2.2.2.2.2.2.1,t16.2.2.2.2.2.2.2.2.1,t51,t16.2.2.2.2.2.2.2.2.2.2),[]))
 ((fm p0.2.2.2.1 t38.1 a2.2.1 i1).bind λt60 =>
 (az p0.2.2.2.2.2.2.2.2.2.2).bind λt64 =>
 cond (a2.1 != 0)
 ((fo t60 t38.1 a2.1).bind λt74 =>
 (loop (λz=>bx p0 i1 a2 t31 t38 t74 z.1 z.2) (0,[])).bind λd =>
 some ((t16.1,t16.2.1,t16.2.2.1,t60,t16.2.2.2.2.1,t16.2.2.2.2.2.1,t16.2.2.2.2.2.2.1,t16.2.2.2.2.2.2.2.1,t16.2.2.2.2.2.2.2.2.1,t16.2.2.2.2.2.2.2.2.2.1,t64),d))
 ((loop (λz=>bz p0 i1 a2 t31 t38 z.1 z.2) (0,[])).bind λd_1 =>
 some ((t16.1,t16.2.1,t16.2.2.1,t60,t16.2.2.2.2.1,t16.2.2.2.2.2.1,t16.2.2.2.2.2.2.1,t16.2.2.2.2.2.2.2.1,t16.2.2.2.2.2.2.2.2.1,t16.2.2.2.2.2.2.2.2.2.1,t64),d_1))))
def pJ:FL:=(216,⟨[.val true vN false,.val false vG false,.val true zn false],[.val true vN (some true),.val false (.one (.sl Ah)) (some true)],λa=>bN a.1 a.2.1 a.2.2⟩)::pI
theorem vu:Gd pJ:=vH vr 216 Tryz.f216 [(0,⟨⟨(13,false,[.own 1000000000])::(78,false,[dI])::us 85 8 (us 95 7 []),[(1000000000,.root Ah true)]⟩,
 ⟨[(13,false,[.own 1000000300])],[(1000000300,.root Ah true)]⟩,none⟩)] Tryz.func216
def cm (b0:vw) (port1:Int) (v2:AO):Option vw :=
 (al b0).bind λt9 =>
 (bM b0 port1).bind λt12 =>
 (cond t12
 ((at? b0.2.2.1 port1).bind λx17 =>
 some x17.1)
 (some false)).bind λt20 =>
 (cond t20
 ((cA v2).bind λt23 =>
 some t23)
 (some false)).bind λt24 =>
 cond t24
 ((ix t9.2.2.1.length port1).bind λj32 =>
 (t9.2.2.1[j32]?).bind λx =>
 (ix (t9.2.2.1.set j32 (x.1,x.2.1,true,x.2.2.2.1,x.2.2.2.2.1,x.2.2.2.2.2.1,x.2.2.2.2.2.2.1,x.2.2.2.2.2.2.2)).length port1).bind λj34 =>
 ((t9.2.2.1.set j32 (x.1,x.2.1,true,x.2.2.2.1,x.2.2.2.2.1,x.2.2.2.2.2.1,x.2.2.2.2.2.2.1,x.2.2.2.2.2.2.2))[j34]?).bind λx_1 =>
 (aI (t9.1,t9.2.1,(t9.2.2.1.set j32 (x.1,x.2.1,true,x.2.2.2.1,x.2.2.2.2.1,x.2.2.2.2.2.1,x.2.2.2.2.2.2.1,x.2.2.2.2.2.2.2)).set j34 (x_1.1,x_1.2.1,x_1.2.2.1,v2.1,v2.2.1,v2.2.2.1,v2.2.2.2.1,v2.2.2.2.2),t9.2.2.2.1,t9.2.2.2.2.1,t9.2.2.2.2.2.1,t9.2.2.2.2.2.2.1,t9.2.2.2.2.2.2.2.1,t9.2.2.2.2.2.2.2.2.1,t9.2.2.2.2.2.2.2.2.2.1,t9.2.2.2.2.2.2.2.2.2.2)).bind λt36 =>
 some t36)
 (some t9)
def jL:FL:=(217,⟨[.val true vN false,.val false vG false,.val true Ag false],[.val true vN (some true)],λa=>cm a.1 a.2.1 a.2.2⟩)::pJ
theorem pL:Gd jL:=vH vu 217 Tryz.f217 [] Tryz.func217
def cj (b0:vw) (port1:Int) (up2:Bool):Option vw :=
 (al b0).bind λt9 =>
 (bM b0 port1).bind λt12 =>
 cond t12
 ((at? b0.2.2.1 port1).bind λx20 =>
 (ix t9.2.2.1.length port1).bind λj24 =>
 (t9.2.2.1[j24]?).bind λx =>
 (aI (t9.1,t9.2.1,t9.2.2.1.set j24 (up2,x20.2.1,false,0,0,0,0,0),t9.2.2.2.1,t9.2.2.2.2.1,t9.2.2.2.2.2.1,t9.2.2.2.2.2.2.1,t9.2.2.2.2.2.2.2.1,t9.2.2.2.2.2.2.2.2.1,t9.2.2.2.2.2.2.2.2.2.1,t9.2.2.2.2.2.2.2.2.2.2)).bind λt25 =>
 some t25)
 (some t9)
end
end Go.V.W
