/- The law FnAllGo: part of the proof that for every input it returns true. No condition. -/
import Derived.Test.YtpidgkkbmlgehaaGreatV4
import Derived.Test.YtpidgkkbmlgehaaGreatProg
import Derived.Test.YtpidgkkbmlgehaaGreatChecked
import Derived.KernelRfl
set_option linter.unusedVariables false
set_option linter.unusedSimpArgs false
namespace Go.V.W
open Go.Proofs
noncomputable section
def us:Nat->Nat->List (Nat×Bool×List uj)->List (Nat×Bool×List uj)|_,0,l=>l|a,n+1,l=>(a,false,[.undef])::us (a+1) n l
@[reducible] def sH:Cs:=.one (.int .i64)
@[reducible] def tK:Cs:=.one .bool
@[reducible] def uh:Cs:=.one (.sl (.one (.int .u8)))
@[reducible] def vb:Cs:=.one (.sl (.one (.int .i64)))
@[reducible] def Hx:Cs:=.one .str
@[reducible] def dI:uj:=.dat (.int .i64)
@[reducible] def dB:uj:=.dat .bool
@[reducible] def dS:uj:=.dat .str
@[reducible] def ue:Cs:=.cons (.sl (.one (.int .u8))) (.cons (.int .i64) sH)
@[reducible] def xO:Cs:=.cons (.int .i64) (.cons (.int .i64) (.cons (.int .i64) (.cons (.int .i64) sH)))
@[reducible] def vc:Cs:=.cons .bool (.cons (.int .i64) (.cons .bool (.cons (.int .i64) (.cons (.int .i64) (.cons (.int .i64) (.cons (.int .i64) sH))))))
@[reducible] def th:Cs:=.cons (.int .i64) (.cons (.int .i64) (.cons (.int .i64) (.cons (.int .i64) tK)))
@[reducible] def u0:Cs:=.cons (.int .i64) (.cons (.int .i64) sH)
@[reducible] def uS:Cs:=.cons (.sl u0) vb
@[reducible] def sX:Cs:=.cons (.int .i64) (.cons .str (.cons (.sl vc) (.cons (.sl th) (.cons (.sl u0) (.cons (.sl sH) (.cons (.int .i64) (.cons (.int .i64) (.cons (.int .i64) (.cons (.int .i64) sH)))))))))
@[reducible] def xB:Cs:=.cons (.int .i64) (.cons (.int .i64) (.cons .str vb))
@[reducible] def sS:Cs:=.cons (.sl sH) (.cons (.int .i64) (.cons (.int .i64) (.cons .str vb)))
@[reducible] def uN:Cs:=.cons (.int .i64) (.cons (.int .i64) (.cons (.int .i64) (.cons (.int .i64) (.one (.sl sS)))))
@[reducible] def yp:Cs:=.cons (.int .i64) (.cons (.sl (.one (.int .u8))) (.cons (.int .i64) (.cons (.int .i64) (.cons (.int .i64) (.cons (.int .i64) (.cons (.int .i64) (.cons (.sl sS) (.cons (.int .i64) (.cons .str (.cons (.sl vc) (.cons (.sl th) (.cons (.sl u0) (.cons (.sl sH) (.cons (.int .i64) (.cons (.int .i64) (.cons (.int .i64) (.cons (.int .i64) (.cons (.int .i64) (.cons (.int .i64) sH)))))))))))))))))))
@[reducible] def tV:Cs:=.cons (.int .i64) (.cons .str (.cons (.sl vc) (.cons (.sl th) (.cons (.sl u0) (.cons (.sl sH) (.cons (.int .i64) (.cons (.int .i64) (.cons (.int .i64) (.cons (.int .i64) (.cons (.int .i64) (.cons .str (.cons (.sl yp) (.cons (.int .i64) sH)))))))))))))
@[reducible] def xh:Cs:=.cons (.sl (.one (.int .u8))) (.cons (.int .i64) tK)
@[reducible] def yX:Cs:=.cons (.int .i64) (.cons (.int .i64) (.cons (.int .i64) (.cons (.int .i64) (.cons (.int .i64) (.one (.sl sS))))))
abbrev sN:Type:=List Int×Int×Int
abbrev zg:Type:=Int×Int×Int×Int×Int
abbrev Pt:Type:=Bool×Int×Bool×Int×Int×Int×Int×Int
abbrev sD:Type:=Int×Int×Int×Int×Bool
abbrev sM:Type:=Int×Int×Int
abbrev tH:Type:=List sM×List Int
abbrev sx:Type:=Int×List UInt8×List Pt×List sD×List sM×List Int×Int×Int×Int×Int×Int
abbrev wl:Type:=Int×Int×List UInt8×List Int
abbrev sB:Type:=List Int×Int×Int×List UInt8×List Int
abbrev tg:Type:=Int×Int×Int×Int×List sB
abbrev tQ:Type:=Int×List Int×Int×Int×Int×Int×Int×List sB×Int×List UInt8×List Pt×List sD×List sM×List Int×Int×Int×Int×Int×Int×Int×Int
abbrev sL:Type:=Int×List UInt8×List Pt×List sD×List sM×List Int×Int×Int×Int×Int×Int×List UInt8×List tQ×Int×Int
abbrev uX:Type:=List Int×Int×Bool
abbrev vT:Type:=Int×Int×Int×Int×Int×List sB
def tis:List (Nat×tj):=[(2,⟨false,.one (.int .i64),[],0⟩),
 (3,⟨false,.one (.int .i64),[],0⟩),
 (4,⟨false,.one .bool,[],0⟩),
 (5,⟨false,.one (.int .u8),[],0⟩),
 (6,⟨false,.one (.int .u8),[],0⟩),
 (9,⟨false,.one .str,[],0⟩),
 (10,⟨false,.one .str,[],0⟩),
 (11,⟨false,.one .str,[],0⟩),
 (12,⟨false,.one (.int .u64),[],0⟩),
 (21,⟨false,.one (.int .i32),[],0⟩),
 (22,⟨false,.one (.sl (.one (.int .u8))),[],5⟩),
 (24,⟨false,.one (.sl vc),[],131⟩),
 (25,⟨false,.one (.sl th),[],133⟩),
 (26,⟨false,.one (.sl u0),[],219⟩),
 (27,⟨false,.one (.sl sH),[],3⟩),
 (28,⟨true,uS,[(26,0),(27,1)],0⟩),
 (29,⟨true,uS,[(26,0),(27,1)],0⟩),
 (30,⟨true,sX,[(3,0),(9,1),(24,2),(25,3),(29,4),(3,6),(3,7),(3,8),(3,9),(3,10)],0⟩),
 (31,⟨true,sX,[(3,0),(9,1),(24,2),(25,3),(29,4),(3,6),(3,7),(3,8),(3,9),(3,10)],0⟩),
 (32,⟨false,.one (.sl sS),[],46⟩),
 (33,⟨true,uN,[(3,0),(3,1),(3,2),(3,3),(32,4)],0⟩),
 (34,⟨true,uN,[(3,0),(3,1),(3,2),(3,3),(32,4)],0⟩),
 (43,⟨true,xB,[(3,0),(3,1),(9,2),(27,3)],0⟩),
 (44,⟨true,xB,[(3,0),(3,1),(9,2),(27,3)],0⟩),
 (45,⟨true,sS,[(27,0),(44,1)],0⟩),
 (46,⟨true,sS,[(27,0),(44,1)],0⟩),
 (51,⟨false,.one (.sl vc),[],241⟩),
 (52,⟨false,.one (.sl th),[],243⟩),
 (53,⟨false,.one (.sl u0),[],308⟩),
 (54,⟨true,uS,[(53,0),(27,1)],0⟩),
 (55,⟨true,uS,[(53,0),(27,1)],0⟩),
 (56,⟨true,sX,[(3,0),(9,1),(51,2),(52,3),(55,4),(3,6),(3,7),(3,8),(3,9),(3,10)],0⟩),
 (57,⟨true,sX,[(3,0),(9,1),(51,2),(52,3),(55,4),(3,6),(3,7),(3,8),(3,9),(3,10)],0⟩),
 (58,⟨false,.one (.sl (.cons (.int .i64) (.cons (.int .i64) (.cons .bool (.cons (.sl (.one (.int .u8))) (.cons (.int .i64) (.cons (.int .i64) (.cons (.int .i64) (.cons (.sl (.one (.int .u8))) (.cons (.int .i64) (.cons (.int .i64) (.cons (.int .i64) (.cons (.int .i64) sH))))))))))))),[],152⟩),
 (63,⟨false,.one (.sl (.cons (.int .i64) (.cons (.int .i64) (.cons .bool (.cons (.sl (.one (.int .u8))) (.cons (.int .i64) (.cons (.int .i64) (.cons (.int .i64) (.cons (.sl (.one (.int .u8))) (.cons (.int .i64) (.cons (.int .i64) (.cons (.int .i64) (.cons (.int .i64) sH))))))))))))),[],101⟩),
 (69,⟨false,.one (.sl yp),[],174⟩),
 (70,⟨true,tV,[(31,0),(9,11),(69,12),(3,13),(3,14)],0⟩),
 (71,⟨true,tV,[(31,0),(9,11),(69,12),(3,13),(3,14)],0⟩),
 (75,⟨false,.one (.sl yX),[],81⟩),
 (80,⟨true,yX,[(3,0),(34,1)],0⟩),
 (81,⟨true,yX,[(3,0),(34,1)],0⟩),
 (92,⟨false,.one (.sl (.cons (.int .i64) (.cons (.int .i64) (.cons (.int .i64) (.cons (.int .i64) uh))))),[],190⟩),
 (96,⟨true,.cons (.int .i64) (.cons (.int .i64) (.cons (.int .i64) uh)),[(3,0),(3,1),(3,2),(22,3)],0⟩),
 (97,⟨true,.cons (.int .i64) (.cons (.int .i64) (.cons (.int .i64) uh)),[(3,0),(3,1),(3,2),(22,3)],0⟩),
 (98,⟨true,xO,[(3,0),(3,1),(3,2),(3,3),(3,4)],0⟩),
 (99,⟨true,xO,[(3,0),(3,1),(3,2),(3,3),(3,4)],0⟩),
 (100,⟨true,.cons (.int .i64) (.cons (.int .i64) (.cons .bool (.cons (.sl (.one (.int .u8))) (.cons (.int .i64) (.cons (.int .i64) (.cons (.int .i64) (.cons (.sl (.one (.int .u8))) (.cons (.int .i64) (.cons (.int .i64) (.cons (.int .i64) (.cons (.int .i64) sH))))))))))),[(3,0),(3,1),(4,2),(22,3),(97,4),(99,8)],0⟩),
 (101,⟨true,.cons (.int .i64) (.cons (.int .i64) (.cons .bool (.cons (.sl (.one (.int .u8))) (.cons (.int .i64) (.cons (.int .i64) (.cons (.int .i64) (.cons (.sl (.one (.int .u8))) (.cons (.int .i64) (.cons (.int .i64) (.cons (.int .i64) (.cons (.int .i64) sH))))))))))),[(3,0),(3,1),(4,2),(22,3),(97,4),(99,8)],0⟩),
 (108,⟨false,.one (.sl sS),[],284⟩),
 (109,⟨true,uN,[(3,0),(3,1),(3,2),(3,3),(108,4)],0⟩),
 (110,⟨true,uN,[(3,0),(3,1),(3,2),(3,3),(108,4)],0⟩),
 (130,⟨true,vc,[(4,0),(3,1),(4,2),(99,3)],0⟩),
 (131,⟨true,vc,[(4,0),(3,1),(4,2),(99,3)],0⟩),
 (132,⟨true,th,[(3,0),(3,1),(3,2),(3,3),(4,4)],0⟩),
 (133,⟨true,th,[(3,0),(3,1),(3,2),(3,3),(4,4)],0⟩),
 (149,⟨true,.cons (.int .i64) (.cons (.int .i64) (.cons (.int .i64) uh)),[(3,0),(3,1),(3,2),(22,3)],0⟩),
 (150,⟨true,xO,[(3,0),(3,1),(3,2),(3,3),(3,4)],0⟩),
 (151,⟨true,.cons (.int .i64) (.cons (.int .i64) (.cons .bool (.cons (.sl (.one (.int .u8))) (.cons (.int .i64) (.cons (.int .i64) (.cons (.int .i64) (.cons (.sl (.one (.int .u8))) (.cons (.int .i64) (.cons (.int .i64) (.cons (.int .i64) (.cons (.int .i64) sH))))))))))),[(3,0),(3,1),(4,2),(22,3),(149,4),(150,8)],0⟩),
 (152,⟨true,.cons (.int .i64) (.cons (.int .i64) (.cons .bool (.cons (.sl (.one (.int .u8))) (.cons (.int .i64) (.cons (.int .i64) (.cons (.int .i64) (.cons (.sl (.one (.int .u8))) (.cons (.int .i64) (.cons (.int .i64) (.cons (.int .i64) (.cons (.int .i64) sH))))))))))),[(3,0),(3,1),(4,2),(22,3),(149,4),(150,8)],0⟩),
 (173,⟨true,yp,[(3,0),(22,1),(3,2),(34,3),(31,8),(3,19),(3,20)],0⟩),
 (174,⟨true,yp,[(3,0),(22,1),(3,2),(34,3),(31,8),(3,19),(3,20)],0⟩),
 (185,⟨false,.one (.sl Hx),[],9⟩),
 (189,⟨true,.cons (.int .i64) (.cons (.int .i64) (.cons (.int .i64) (.cons (.int .i64) uh))),[(3,0),(97,1)],0⟩),
 (190,⟨true,.cons (.int .i64) (.cons (.int .i64) (.cons (.int .i64) (.cons (.int .i64) uh))),[(3,0),(97,1)],0⟩),
 (201,⟨true,ue,[(22,0),(3,1),(3,2)],0⟩),
 (202,⟨true,ue,[(22,0),(3,1),(3,2)],0⟩),
 (214,⟨false,.one (.sl vb),[],27⟩),
 (218,⟨true,u0,[(3,0),(3,1),(3,2)],0⟩),
 (219,⟨true,u0,[(3,0),(3,1),(3,2)],0⟩),
 (240,⟨true,vc,[(4,0),(3,1),(4,2),(150,3)],0⟩),
 (241,⟨true,vc,[(4,0),(3,1),(4,2),(150,3)],0⟩),
 (243,⟨true,th,[(3,0),(3,1),(3,2),(3,3),(4,4)],0⟩),
 (260,⟨true,xh,[(22,0),(3,1),(4,2)],0⟩),
 (261,⟨true,xh,[(22,0),(3,1),(4,2)],0⟩),
 (270,⟨false,.one (.int .u64),[],0⟩),
 (282,⟨true,xB,[(3,0),(3,1),(9,2),(27,3)],0⟩),
 (283,⟨true,sS,[(27,0),(282,1)],0⟩),
 (284,⟨true,sS,[(27,0),(282,1)],0⟩),
 (308,⟨true,u0,[(3,0),(3,1),(3,2)],0⟩),
 (313,⟨true,xh,[(22,0),(3,1),(4,2)],0⟩),
 (314,⟨true,xh,[(22,0),(3,1),(4,2)],0⟩),
 (343,⟨false,.one (.int .i8),[],0⟩),
 (351,⟨false,.one (.int .u32),[],0⟩),
 (352,⟨false,.one (.int .u8),[],0⟩),
 (353,⟨false,.one (.int .u8),[],0⟩),
 (356,⟨false,.one (.int .i32),[],0⟩),
 (357,⟨false,.one (.int .i32),[],0⟩)]
theorem tisT:vf Tryz.prog tis:=vf.of_all (by kernel_rfl)
theorem Qm:H8 Tryz.prog tis:=H8.of_all (by kernel_rfl)
theorem tisD:Deep Tryz.prog tis:=Deep.of_all (by kernel_rfl)
theorem Pk:Tryz.prog.follows .mixedOrders=true:=by kernel_rfl
def EX (fn:Func):Code:=match fn.body with|some c=>c|none=>.skip
theorem pP:xX Tryz.prog ⟨tis,[],[],false⟩:=⟨tisT,Qm,(λf F h=>by cases h),(λf M h=>by cases h),(λh=>by cases h)⟩
theorem Qa {l : List (FuncId×Fn)} (g : xX Tryz.prog ⟨tis, l, [], false⟩) (n : FuncId) (f : Func) (ann : List (Nat×sJ)) (F : Fn) (h1 : Tryz.prog.funcs[n]?=some f) (h2 : (f.name == "runtime.NumGoroutine")=false := by kernel_rfl) (h3 : f.body=some (EX f) := by kernel_rfl) (h4 : EE ⟨tis, l, [], false⟩ ann f (EX f) F.ps F.rs=F.den := by kernel_rfl) : Bg Tryz.prog n F := by
 have h:=LD (ann:=ann) (ps:=F.ps) (rs:=F.rs) g Pk h1 h2 h3;rw[h4]at h;exact h
abbrev FL:=List (FuncId×Fn)
def Gd (l:FL):Prop:=xX Tryz.prog ⟨tis,l,[],false⟩
theorem sI {l : List (FuncId×Fn)} (g : Gd l) (n : FuncId) (f : Func) (ann : List (Nat×sJ)) {F : Fn} (h1 : Tryz.prog.funcs[n]?=some f) (h2 : (f.name == "runtime.NumGoroutine")=false := by kernel_rfl) (h3 : f.body=some (EX f) := by kernel_rfl) (h4 : EE ⟨tis, l, [], false⟩ ann f (EX f) F.ps F.rs=F.den := by kernel_rfl) : Gd ((n, F)::l) := xX.cons g (Qa g n f ann F h1 h2 h3 h4)
def hP (code0:List Int):Option Bool :=
 let t2:=decide ((code0.length:Int)>1048576)
 some t2
def l9:FL:=(11,⟨[.val false uh false],[.val false tK (some true)],λa=>hP a⟩)::[]
theorem pQ:Gd l9:=sI pP 11 Tryz.f11 [] Tryz.func11
def cP (code0:List Int) (h3_1:Int) (i4:Int):Option ((Int×Int)⊕Int) :=
 (cond (decide (i4<(code0.length:Int))) (some (decide (i4<4000))) (some false)).bind λt15 =>
 cond t15
 ((at? code0 i4).bind λx22 =>
 let h3_2:=wh .i64 (sy ((sy ((sy (h3_1*137))+(sy (x22))))+11)) 1073741823
 some (.inl (h3_2,sy (i4+1))))
 (some (.inr h3_1))
def eB (code0:List Int):Option sN :=
 let h3:=sy (762762+(code0.length:Int))
 (loop (λz=>cP code0 z.1 z.2) (h3,0)).bind λd =>
 some (code0,0,d)
def lb:FL:=(73,⟨[.val false uh false],[.ptr ue none],λa=>eB a⟩)::l9
theorem pR:Gd lb:=sI pQ 73 Tryz.f73 [(0,⟨⟨[(3,false,[dI]),(4,false,[dI]),(13,false,[.undef]),(14,false,[.undef])],[]⟩,
 ⟨[(3,false,[dI])],[]⟩,none⟩)] Tryz.func73
def ae (x0:Int) (least1:Int) (most2:Int):Option Bool :=
 (cond (decide (x0>=least1)) (some (decide (x0<=most2))) (some false)).bind λt14 =>
 some t14
def lc:FL:=(103,⟨[.val false sH false,.val false sH false,.val false sH false],[.val false tK (some true)],λa=>ae a.1 a.2.1 a.2.2⟩)::lb
theorem pS:Gd lc:=sI pR 103 Tryz.f103 [] Tryz.func103
def f8 (v0:zg):Option Bool :=
 (ae v0.1 1 99).bind λt5 =>
 (cond t5
 ((ae v0.2.1 0 100000).bind λt9 =>
 some t9)
 (some false)).bind λt10 =>
 (cond t10
 ((ae v0.2.2.1 0 10).bind λt14 =>
 some t14)
 (some false)).bind λt15 =>
 (cond t15
 ((ae v0.2.2.2.1 1 99).bind λt19 =>
 some t19)
 (some false)).bind λt20 =>
 (cond t20
 ((ae v0.2.2.2.2 0 7).bind λt24 =>
 some t24)
 (some false)).bind λt25 =>
 some t25
def ld:FL:=(247,⟨[.val true xO false],[.val false tK (some true)],λa=>f8 a⟩)::lc
theorem pT:Gd ld:=sI pS 247 Tryz.f247 [] Tryz.func247
def f9 (p0:Pt):Option Bool :=
 (ae p0.2.1 1 1000).bind λt5 =>
 (cond (!t5)
 (some true)
 ((cond (!p0.1) (some p0.2.2.1) (some false)).bind λt14 =>
 some t14)).bind λt15 =>
 cond t15
 (some false)
 (cond (!p0.2.2.1)
 (let t2:=p0.2.2.2.1==0&&(p0.2.2.2.2.1==0&&(p0.2.2.2.2.2.1==0&&(p0.2.2.2.2.2.2.1==0&&(p0.2.2.2.2.2.2.2==0))))
 some t2)
 ((f8 p0.2.2.2).bind λt25 =>
 some t25))
def lf:FL:=(147,⟨[.val true vc false],[.val false tK (some true)],λa=>f9 a⟩)::ld
theorem pU:Gd lf:=sI pT 147 Tryz.f147 [] Tryz.func147
def cQ (e0:sD):Option Bool :=
 (ae e0.1 1 99).bind λt5 =>
 (cond t5
 ((ae e0.2.1 1 9999).bind λt9 =>
 some t9)
 (some false)).bind λt10 =>
 (cond t10
 ((ae e0.2.2.1 0 7).bind λt14 =>
 some t14)
 (some false)).bind λt15 =>
 (cond t15
 ((ae e0.2.2.2.1 0 4).bind λt19 =>
 some t19)
 (some false)).bind λt20 =>
 (cond t20
 ((cond (!e0.2.2.2.2) (some true) (some (e0.2.2.2.1==0))).bind λt29 =>
 some t29)
 (some false)).bind λt30 =>
 some t30
def lg:FL:=(248,⟨[.val true th false],[.val false tK (some true)],λa=>cQ a⟩)::lf
theorem pV:Gd lg:=sI pU 248 Tryz.f248 [] Tryz.func248
def cf (e0:sD) (tag1:Int) (mac2:Int):Option Bool :=
 cond (e0.1 != tag1) (some (decide (e0.1<tag1))) (some (decide (e0.2.1<mac2)))
def lh:FL:=(249,⟨[.val true th false,.val false sH false,.val false sH false],[.val false tK (some true)],λa=>cf a.1 a.2.1 a.2.2⟩)::lg
theorem pW:Gd lh:=sI pV 249 Tryz.f249 [] Tryz.func249
def hZ (l0:List sD) (i3:Int):Option (Int⊕(Unit⊕Bool)) :=
 cond (decide (i3<(l0.length:Int)))
 ((at? l0 i3).bind λx12 =>
 (cQ x12).bind λt14 =>
 (cond (!t14)
 (some true)
 ((cond (decide (i3>0))
 ((at? l0 (sy (i3-1))).bind λx23 =>
 (at? l0 i3).bind λx27 =>
 (at? l0 i3).bind λx32 =>
 (cf x23 x27.1 x32.2.1).bind λt35 =>
 some (!t35))
 (some false)).bind λt37 =>
 some t37)).bind λt38 =>
 cond t38 (some (.inr (.inr false))) (some (.inl (sy (i3+1)))))
 (some (.inr (.inl ())))
def cR (l0:List sD):Option Bool :=
 (loop (λz=>hZ l0 z) 0).bind (Sum.elim (λd =>
 let t2:=decide ((l0.length:Int)<=12)
 some t2) (λr=>some r))
def lj:FL:=(148,⟨[.val false (.one (.sl th)) false],[.val false tK (some true)],λa=>cR a⟩)::lh
theorem pX:Gd lj:=sI pW 148 Tryz.f148 [(0,⟨⟨(3,false,[dI])::us 17 21 [],[]⟩,
 ⟨[],[]⟩,some ⟨[(2,false,[dB])],[]⟩⟩)] Tryz.func148
def pY (v0:tH) (id1:Int) (i5:Int):Option (Int⊕(Unit⊕Int)) :=
 cond (decide (i5<(v0.1.length:Int)))
 ((at? v0.1 i5).bind λx16 =>
 cond (x16.1==id1) (some (.inr (.inr i5))) (some (.inl (sy (i5+1)))))
 (some (.inr (.inl ())))
def bu (v0:tH) (id1:Int):Option Int :=
 (loop (λz=>pY v0 id1 z) 0).bind (Sum.elim (λd =>
 some (-1)) (λr=>some r))
def lk:FL:=(250,⟨[.val true uS false,.val false sH false],[.val false sH (some true)],λa=>bu a.1 a.2⟩)::lj
theorem pZ:Gd lk:=sI pX 250 Tryz.f250 [(0,⟨⟨[(5,false,[dI])],[]⟩,
 ⟨[],[]⟩,some ⟨[(4,false,[dI])],[]⟩⟩)] Tryz.func250
def i0 (p0:tH) (t27:Int) (t6:Int):Option (Int⊕(Unit⊕Bool)) :=
 cond (decide (t6<(p0.1.length:Int)))
 ((at? p0.1 t6).bind λx39 =>
 (ae x39.1 1 99).bind λt43 =>
 (cond (!t43)
 (some true)
 ((ae x39.2.1 0 (sy (t27-1))).bind λt49 =>
 some (!t49))).bind λt51 =>
 (cond t51
 (some true)
 ((ae x39.2.2 0 (sy (t27-1))).bind λt56 =>
 some (!t56))).bind λt58 =>
 (cond t58 (some true) (some ((wh .i64 x39.2.2 x39.2.1) != x39.2.2))).bind λt68 =>
 (cond t68
 (some true)
 ((cond (decide (t6>0))
 ((at? p0.1 (sy (t6-1))).bind λx77 =>
 some (decide (x77.1>=x39.1)))
 (some false)).bind λt83 =>
 some t83)).bind λt84 =>
 cond t84 (some (.inr (.inr false))) (some (.inl (sy (t6+1)))))
 (some (.inr (.inl ())))
def ll (p0:tH) (t8:Int):Option (Int⊕(Unit⊕Bool)) :=
 cond (decide (t8<(p0.2.length:Int)))
 ((at? p0.2 t8).bind λx96 =>
 (bu p0 x96).bind λt98 =>
 cond (decide (t98<0)) (some (.inr (.inr false))) (some (.inl (sy (t8+1)))))
 (some (.inr (.inl ())))
def aQ (p0:tH) (i1:Int):Option Bool :=
 (ae i1 1 6).bind λt10 =>
 (cond (!t10) (some true) (some ((p0.2.length:Int) != i1))).bind λt18 =>
 (cond t18 (some true) (some (decide ((p0.1.length:Int)>6)))).bind λt24 =>
 cond t24
 (some false)
 ((shl .i64 1 (IntKind.u64.wrap (i1))).bind λt27 =>
 (loop (λz=>i0 p0 t27 z) 0).bind (Sum.elim (λd =>
 (loop (λz=>ll p0 z) 0).bind (Sum.elim (λd_1 =>
 some true) (λr=>some r))) (λr_1=>some r_1)))
def lm:FL:=(149,⟨[.val true uS false,.val false sH false],[.val false tK (some true)],λa=>aQ a.1 a.2⟩)::lk
theorem q8:Gd lm:=sI pZ 149 Tryz.f149 [(0,⟨⟨(6,false,[dI])::us 46 5 (us 53 5 (us 60 8 (us 70 14 []))),[]⟩,
 ⟨[],[]⟩,some ⟨[(4,false,[dB])],[]⟩⟩),
 (2,⟨⟨[(8,false,[dI])],[]⟩,
 ⟨[],[]⟩,some ⟨[(4,false,[dB])],[]⟩⟩)] Tryz.func149
def gu (b0:sx):Option Bool :=
 (ae b0.2.2.2.2.2.2.1 0 1000000).bind λt5 =>
 (cond t5
 ((ae b0.2.2.2.2.2.2.2.1 0 1000000).bind λt9 =>
 some t9)
 (some false)).bind λt10 =>
 (cond t10
 ((ae b0.2.2.2.2.2.2.2.2.1 0 1000000).bind λt14 =>
 some t14)
 (some false)).bind λt15 =>
 (cond t15
 ((ae b0.2.2.2.2.2.2.2.2.2.1 0 1000000).bind λt19 =>
 some t19)
 (some false)).bind λt20 =>
 (cond t20
 ((ae b0.2.2.2.2.2.2.2.2.2.2 0 1000000).bind λt24 =>
 some t24)
 (some false)).bind λt25 =>
 some t25
def ln:FL:=(150,⟨[.val true sX false],[.val false tK (some true)],λa=>gu a⟩)::lm
theorem q9:Gd ln:=sI q8 150 Tryz.f150 [] Tryz.func150
def ia (b0:sx) (i3:Int):Option (Int⊕(Unit⊕Bool)) :=
 cond (decide (i3<(b0.2.2.1.length:Int)))
 ((at? b0.2.2.1 i3).bind λx14 =>
 (f9 x14).bind λt16 =>
 cond (!t16) (some (.inr (.inr false))) (some (.inl (sy (i3+1)))))
 (some (.inr (.inl ())))
def aV (b0:sx):Option Bool :=
 (loop (λz=>ia b0 z) 0).bind (Sum.elim (λd =>
 (ae b0.1 1 99).bind λt20 =>
 (cond t20 (some (decide ((b0.2.1.length:Int)<=10))) (some false)).bind λt26 =>
 (cond t26
 ((ae (b0.2.2.1.length:Int) 1 6).bind λt31 =>
 some t31)
 (some false)).bind λt32 =>
 (cond t32
 ((cR b0.2.2.2.1).bind λt36 =>
 some t36)
 (some false)).bind λt37 =>
 (cond t37
 ((aQ (b0.2.2.2.2.1,b0.2.2.2.2.2.1) (b0.2.2.1.length:Int)).bind λt44 =>
 some t44)
 (some false)).bind λt45 =>
 (cond t45
 ((gu b0).bind λt48 =>
 some t48)
 (some false)).bind λt49 =>
 some t49) (λr=>some r))
def lp:FL:=(64,⟨[.val true sX false],[.val false tK (some true)],λa=>aV a⟩)::ln
theorem qc:Gd lp:=sI q9 64 Tryz.f64 [(0,⟨⟨[(3,false,[dI])],[]⟩,
 ⟨[],[]⟩,some ⟨[(2,false,[dB])],[]⟩⟩)] Tryz.func64
def av (n0:Int):Option Int :=
 cond (decide (n0>2147483647))
 (some 2147483647)
 (cond (decide (n0<(-2147483648))) (some (-2147483648)) (some n0))
def lq:FL:=(198,⟨[.val false sH false],[.val false sH (some true)],λa=>av a⟩)::lp
theorem qd:Gd lq:=sI qc 198 Tryz.f198 [] Tryz.func198
def qe (o0:List Int) (i3:Int):Option (Int⊕(Unit⊕Bool)) :=
 cond (decide (i3<(o0.length:Int)))
 ((at? o0 i3).bind λx12 =>
 (ae x12 0 100000).bind λt14 =>
 cond (!t14) (some (.inr (.inr false))) (some (.inl (sy (i3+1)))))
 (some (.inr (.inl ())))
def bJ (o0:List Int):Option Bool :=
 (loop (λz=>qe o0 z) 0).bind (Sum.elim (λd =>
 (ae (o0.length:Int) 1 10).bind λt18 =>
 some t18) (λr=>some r))
def lr:FL:=(286,⟨[.val false vb false],[.val false tK (some true)],λa=>bJ a⟩)::lq
theorem qf:Gd lr:=sI qd 286 Tryz.f286 [(0,⟨⟨[(3,false,[dI])],[]⟩,
 ⟨[],[]⟩,some ⟨[(2,false,[dB])],[]⟩⟩)] Tryz.func286
def bv (p0:wl):Option Bool :=
 cond (p0.1==5)
 (cond (p0.1==5)
 ((cond (p0.2.1==0) (some (p0.2.2.1==[])) (some false)).bind λt16 =>
 (cond t16 (some ((p0.2.2.2.length:Int)==0)) (some false)).bind λt22 =>
 some t22)
 (cond (p0.1==2)
 ((av p0.2.1).bind λt27 =>
 (cond (t27==p0.2.1) (some (p0.2.2.1==[])) (some false)).bind λt35 =>
 (cond t35 (some ((p0.2.2.2.length:Int)==0)) (some false)).bind λt41 =>
 some t41)
 (cond (p0.1==4)
 ((cond (decide ((p0.2.2.1.length:Int)<=20)) (some (p0.2.1==0)) (some false)).bind λt52 =>
 (cond t52 (some ((p0.2.2.2.length:Int)==0)) (some false)).bind λt58 =>
 some t58)
 (cond (p0.1==6)
 ((bJ p0.2.2.2).bind λt63 =>
 (cond t63 (some (p0.2.1==0)) (some false)).bind λt68 =>
 (cond t68 (some (p0.2.2.1==[])) (some false)).bind λt73 =>
 some t73)
 (some false)))))
 (cond (p0.1==128)
 (cond (p0.1==128)
 ((cond (p0.2.1==0) (some (p0.2.2.1==[])) (some false)).bind λt16_1 =>
 (cond t16_1 (some ((p0.2.2.2.length:Int)==0)) (some false)).bind λt22_1 =>
 some t22_1)
 (cond (p0.1==2)
 ((av p0.2.1).bind λt27_1 =>
 (cond (t27_1==p0.2.1) (some (p0.2.2.1==[])) (some false)).bind λt35_1 =>
 (cond t35_1 (some ((p0.2.2.2.length:Int)==0)) (some false)).bind λt41_1 =>
 some t41_1)
 (cond (p0.1==4)
 ((cond (decide ((p0.2.2.1.length:Int)<=20)) (some (p0.2.1==0)) (some false)).bind λt52_1 =>
 (cond t52_1 (some ((p0.2.2.2.length:Int)==0)) (some false)).bind λt58_1 =>
 some t58_1)
 (cond (p0.1==6)
 ((bJ p0.2.2.2).bind λt63_1 =>
 (cond t63_1 (some (p0.2.1==0)) (some false)).bind λt68_1 =>
 (cond t68_1 (some (p0.2.2.1==[])) (some false)).bind λt73_1 =>
 some t73_1)
 (some false)))))
 (cond (p0.1==130)
 ((cond (p0.2.1==0) (some (p0.2.2.1==[])) (some false)).bind λt16_2 =>
 (cond t16_2 (some ((p0.2.2.2.length:Int)==0)) (some false)).bind λt22_2 =>
 some t22_2)
 (cond (p0.1==2)
 ((av p0.2.1).bind λt27_2 =>
 (cond (t27_2==p0.2.1) (some (p0.2.2.1==[])) (some false)).bind λt35_2 =>
 (cond t35_2 (some ((p0.2.2.2.length:Int)==0)) (some false)).bind λt41_2 =>
 some t41_2)
 (cond (p0.1==4)
 ((cond (decide ((p0.2.2.1.length:Int)<=20)) (some (p0.2.1==0)) (some false)).bind λt52_2 =>
 (cond t52_2 (some ((p0.2.2.2.length:Int)==0)) (some false)).bind λt58_2 =>
 some t58_2)
 (cond (p0.1==6)
 ((bJ p0.2.2.2).bind λt63_2 =>
 (cond t63_2 (some (p0.2.1==0)) (some false)).bind λt68_2 =>
 (cond t68_2 (some (p0.2.2.1==[])) (some false)).bind λt73_2 =>
 some t73_2)
 (some false))))))
def lu:FL:=(287,⟨[.val true xB false],[.val false tK (some true)],λa=>bv a⟩)::lr
theorem qg:Gd lu:=sI qf 287 Tryz.f287 [] Tryz.func287
def ib (k0:Int):Option Bool :=
 (cond (k0==160) (some true) (some (k0==161))).bind λt8 =>
 (cond t8 (some true) (some (k0==162))).bind λt12 =>
 (cond t12 (some true) (some (k0==163))).bind λt16 =>
 (cond t16 (some true) (some (k0==165))).bind λt20 =>
 some t20
def lv:FL:=(288,⟨[.val false sH false],[.val false tK (some true)],λa=>ib a⟩)::lu
theorem qh:Gd lv:=sI qg 288 Tryz.f288 [] Tryz.func288
def gv (p0:tg) (t3:Int):Option (Int⊕(Unit⊕Bool)) :=
 cond (decide (t3<(p0.2.2.2.2.length:Int)))
 ((at? p0.2.2.2.2 t3).bind λx14 =>
 (bJ x14.1).bind λt17 =>
 (cond (!t17)
 (some true)
 ((at? p0.2.2.2.2 t3).bind λx23 =>
 (bv x23.2).bind λt26 =>
 some (!t26))).bind λt28 =>
 cond t28 (some (.inr (.inr false))) (some (.inl (sy (t3+1)))))
 (some (.inr (.inl ())))
def bK (p0:tg):Option Bool :=
 (loop (λz=>gv p0 z) 0).bind (Sum.elim (λd =>
 (cond (p0.1 != 162) (some (p0.1 != 165)) (some false)).bind λt36 =>
 (cond t36
 ((cond (p0.2.2.1 != 0) (some true) (some (p0.2.2.2.1 != 0))).bind λt45 =>
 some t45)
 (some false)).bind λt46 =>
 cond t46
 (some false)
 ((ib p0.1).bind λt49 =>
 (cond t49
 ((av p0.2.1).bind λt53 =>
 some (t53==p0.2.1))
 (some false)).bind λt57 =>
 (cond t57
 ((ae p0.2.2.1 0 1000).bind λt61 =>
 some t61)
 (some false)).bind λt62 =>
 (cond t62
 ((ae p0.2.2.2.1 0 1000).bind λt66 =>
 some t66)
 (some false)).bind λt67 =>
 (cond t67 (some (decide ((p0.2.2.2.2.length:Int)<=10))) (some false)).bind λt73 =>
 some t73)) (λr=>some r))
def lw:FL:=(174,⟨[.val true uN false],[.val false tK (some true)],λa=>bK a⟩)::lv
theorem qi:Gd lw:=sI qh 174 Tryz.f174 [(0,⟨⟨(3,false,[dI])::us 20 8 [],[]⟩,
 ⟨[],[]⟩,some ⟨[(2,false,[dB])],[]⟩⟩)] Tryz.func174
def ic (p0:tg):Option Bool :=
 (bK p0).bind λt4 =>
 (cond t4 (some (p0.1 != 162)) (some false)).bind λt9 =>
 some t9
def lz:FL:=(246,⟨[.val true uN false],[.val false tK (some true)],λa=>ic a⟩)::lw
theorem qj:Gd lz:=sI qi 246 Tryz.f246 [] Tryz.func246
def fa (j0:tQ) (last1:Int):Option Bool :=
 (ae j0.1 1 last1).bind λt8 =>
 (cond (!t8)
 (some true)
 ((ae j0.2.2.1 0 2).bind λt13 =>
 some (!t13))).bind λt15 =>
 (cond t15
 (some true)
 ((ae j0.2.2.2.2.2.2.2.2.2.2.2.2.2.2.2.2.2.2.2.2 0 3).bind λt19 =>
 some (!t19))).bind λt21 =>
 (cond t21
 (some true)
 ((ae j0.2.2.2.2.2.2.2.2.2.2.2.2.2.2.2.2.2.2.2.1 0 (j0.2.2.2.2.2.2.2.1.length:Int)).bind λt29 =>
 some (!t29))).bind λt31 =>
 cond t31
 (some false)
 ((cond (j0.2.2.1==0)
 (some true)
 ((ic (j0.2.2.2.1,j0.2.2.2.2.1,j0.2.2.2.2.2.1,j0.2.2.2.2.2.2.1,j0.2.2.2.2.2.2.2.1)).bind λt38 =>
 (cond t38
 ((aV (j0.2.2.2.2.2.2.2.2.1,j0.2.2.2.2.2.2.2.2.2.1,j0.2.2.2.2.2.2.2.2.2.2.1,j0.2.2.2.2.2.2.2.2.2.2.2.1,j0.2.2.2.2.2.2.2.2.2.2.2.2.1,j0.2.2.2.2.2.2.2.2.2.2.2.2.2.1,j0.2.2.2.2.2.2.2.2.2.2.2.2.2.2.1,j0.2.2.2.2.2.2.2.2.2.2.2.2.2.2.2.1,j0.2.2.2.2.2.2.2.2.2.2.2.2.2.2.2.2.1,j0.2.2.2.2.2.2.2.2.2.2.2.2.2.2.2.2.2.1,j0.2.2.2.2.2.2.2.2.2.2.2.2.2.2.2.2.2.2.1)).bind λt42 =>
 some t42)
 (some false)).bind λt43 =>
 some t43)).bind λt44 =>
 some t44)
def lA:FL:=(144,⟨[.val true yp false,.val false sH false],[.val false tK (some true)],λa=>fa a.1 a.2⟩)::lz
theorem qk:Gd lA:=sI qj 144 Tryz.f144 [] Tryz.func144
def ie (p0:sL) (t3:Int):Option (Int⊕(Unit⊕Bool)) :=
 cond (decide (t3<(p0.2.2.2.2.2.2.2.2.2.2.2.2.1.length:Int)))
 ((at? p0.2.2.2.2.2.2.2.2.2.2.2.2.1 t3).bind λx14 =>
 (fa x14 p0.2.2.2.2.2.2.2.2.2.2.2.2.2.2).bind λt18 =>
 (cond (!t18)
 (some true)
 ((cond (decide (t3>0))
 ((at? p0.2.2.2.2.2.2.2.2.2.2.2.2.1 (sy (t3-1))).bind λx28 =>
 (at? p0.2.2.2.2.2.2.2.2.2.2.2.2.1 t3).bind λx34 =>
 some (decide (x28.1>=x34.1)))
 (some false)).bind λt38 =>
 some t38)).bind λt39 =>
 cond t39 (some (.inr (.inr false))) (some (.inl (sy (t3+1)))))
 (some (.inr (.inl ())))
def dX (p0:sL):Option Bool :=
 (loop (λz=>ie p0 z) 0).bind (Sum.elim (λd =>
 (aV (p0.1,p0.2.1,p0.2.2.1,p0.2.2.2.1,p0.2.2.2.2.1,p0.2.2.2.2.2.1,p0.2.2.2.2.2.2.1,p0.2.2.2.2.2.2.2.1,p0.2.2.2.2.2.2.2.2.1,p0.2.2.2.2.2.2.2.2.2.1,p0.2.2.2.2.2.2.2.2.2.2.1)).bind λt42 =>
 (cond t42
 (some (decide ((p0.2.2.2.2.2.2.2.2.2.2.2.1.length:Int)<=20)))
 (some false)).bind λt48 =>
 (cond t48
 (some (decide ((p0.2.2.2.2.2.2.2.2.2.2.2.2.1.length:Int)<=6)))
 (some false)).bind λt54 =>
 (cond t54
 ((ae p0.2.2.2.2.2.2.2.2.2.2.2.2.2.1 0 1000000).bind λt58 =>
 some t58)
 (some false)).bind λt59 =>
 (cond t59
 ((ae p0.2.2.2.2.2.2.2.2.2.2.2.2.2.2 0 1000000).bind λt63 =>
 some t63)
 (some false)).bind λt64 =>
 some t64) (λr=>some r))
def lB:FL:=(57,⟨[.val true tV false],[.val false tK (some true)],λa=>dX a⟩)::lA
theorem qm:Gd lB:=sI qk 57 Tryz.f57 [(0,⟨⟨(3,false,[dI])::us 21 18 [],[]⟩,
 ⟨[],[]⟩,some ⟨[(2,false,[dB])],[]⟩⟩)] Tryz.func57
def cg (l0:List sD):Option (List sD) :=
 (sT ([]:List sD) l0).bind λzs5 =>
 some zs5
def lC:FL:=(175,⟨[.val false (.one (.sl th)) false],[.val false (.one (.sl th)) (some true)],λa=>cg a⟩)::lB
theorem qn:Gd lC:=sI qm 175 Tryz.f175 [] Tryz.func175
def aR (v0:tH):Option tH :=
 (sT ([]:List sM) v0.1).bind λzs6 =>
 (sT ([]:List Int) v0.2).bind λzs10 =>
 some (zs6,zs10)
def lD:FL:=(176,⟨[.val true uS false],[.val true uS (some true)],λa=>aR a⟩)::lC
theorem qo:Gd lD:=sI qn 176 Tryz.f176 [] Tryz.func176
def am (b0:sx):Option sx :=
 (sT ([]:List Pt) b0.2.2.1).bind λzs8 =>
 (cg b0.2.2.2.1).bind λt12 =>
 (aR (b0.2.2.2.2.1,b0.2.2.2.2.2.1)).bind λt16 =>
 some (b0.1,b0.2.1,zs8,t12,t16.1,t16.2,b0.2.2.2.2.2.2.1,b0.2.2.2.2.2.2.2.1,b0.2.2.2.2.2.2.2.2.1,b0.2.2.2.2.2.2.2.2.2.1,b0.2.2.2.2.2.2.2.2.2.2)
def lE:FL:=(83,⟨[.val true sX false],[.val true sX (some true)],λa=>am a⟩)::lD
theorem qp:Gd lE:=sI qo 83 Tryz.f83 [] Tryz.func83
def dY (l0:List sB) (i4:Int) (out3:List sB):Option ((Int×List sB)⊕(List sB)) :=
 cond (decide (i4<(l0.length:Int)))
 ((at? l0 i4).bind λx15 =>
 (sT ([]:List Int) x15.2.2.2.2).bind λzs21 =>
 (at? l0 i4).bind λx27 =>
 (sT ([]:List Int) x27.1).bind λzs30 =>
 (sT out3 [(zs30,x15.2.1,x15.2.2.1,x15.2.2.2.1,zs21)]).bind λzs34 =>
 some (.inl (sy (i4+1),zs34)))
 (some (.inr out3))
def cS (l0:List sB):Option (List sB) :=
 (loop (λz=>dY l0 z.1 z.2) (0,([]:List sB))).bind λd =>
 some d
def lF:FL:=(85,⟨[.val false (.one (.sl sS)) false],[.val false (.one (.sl sS)) (some true)],λa=>cS a⟩)::lE
theorem qq:Gd lF:=sI qp 85 Tryz.f85 [(0,⟨⟨[(3,false,[.own 1000000000]),(4,false,[dI])],[(1000000000,.root sS true)]⟩,
 ⟨[(3,false,[.own 1000000300])],[(1000000300,.root sS true)]⟩,none⟩)] Tryz.func85
def fb (p0:tg):Option tg :=
 (cS p0.2.2.2.2).bind λt7 =>
 some (p0.1,p0.2.1,p0.2.2.1,p0.2.2.2.1,t7)
def lG:FL:=(241,⟨[.val true uN false],[.val true uN (some true)],λa=>fb a⟩)::lF
theorem qr:Gd lG:=sI qq 241 Tryz.f241 [] Tryz.func241
def fc (a0:sL) (i4:Int) (b0:Int) (b1:List UInt8) (b6:Int) (b7:Int) (b8:Int) (b9:Int) (b10:Int) (b11:List UInt8) (b13:Int) (b14:Int) (b12:List tQ):Option ((Int×Int×List UInt8×Int×Int×Int×Int×Int×List UInt8×Int×Int×List tQ)⊕(Int×List UInt8×Int×Int×Int×Int×Int×List UInt8×Int×Int×List tQ)) :=
 cond (decide (i4<(a0.2.2.2.2.2.2.2.2.2.2.2.2.1.length:Int)))
 ((at? a0.2.2.2.2.2.2.2.2.2.2.2.2.1 i4).bind λx26 =>
 (sT ([]:List Int) x26.2.1).bind λzs31 =>
 (fb (x26.2.2.2.1,x26.2.2.2.2.1,x26.2.2.2.2.2.1,x26.2.2.2.2.2.2.1,x26.2.2.2.2.2.2.2.1)).bind λt35 =>
 (am (x26.2.2.2.2.2.2.2.2.1,x26.2.2.2.2.2.2.2.2.2.1,x26.2.2.2.2.2.2.2.2.2.2.1,x26.2.2.2.2.2.2.2.2.2.2.2.1,x26.2.2.2.2.2.2.2.2.2.2.2.2.1,x26.2.2.2.2.2.2.2.2.2.2.2.2.2.1,x26.2.2.2.2.2.2.2.2.2.2.2.2.2.2.1,x26.2.2.2.2.2.2.2.2.2.2.2.2.2.2.2.1,x26.2.2.2.2.2.2.2.2.2.2.2.2.2.2.2.2.1,x26.2.2.2.2.2.2.2.2.2.2.2.2.2.2.2.2.2.1,x26.2.2.2.2.2.2.2.2.2.2.2.2.2.2.2.2.2.2.1)).bind λt39 =>
 (sT b12 [(x26.1,zs31,x26.2.2.1,t35.1,t35.2.1,t35.2.2.1,t35.2.2.2.1,t35.2.2.2.2,t39.1,t39.2.1,t39.2.2.1,t39.2.2.2.1,t39.2.2.2.2.1,t39.2.2.2.2.2.1,t39.2.2.2.2.2.2.1,t39.2.2.2.2.2.2.2.1,t39.2.2.2.2.2.2.2.2.1,t39.2.2.2.2.2.2.2.2.2.1,t39.2.2.2.2.2.2.2.2.2.2,x26.2.2.2.2.2.2.2.2.2.2.2.2.2.2.2.2.2.2.2.1,x26.2.2.2.2.2.2.2.2.2.2.2.2.2.2.2.2.2.2.2.2)]).bind λzs45 =>
 some (.inl (sy (i4+1),b0,b1,b6,b7,b8,b9,b10,b11,b13,b14,zs45)))
 (some (.inr (b0,b1,b6,b7,b8,b9,b10,b11,b13,b14,b12)))
def fe (a0:sL):Option sL :=
 (am (a0.1,a0.2.1,a0.2.2.1,a0.2.2.2.1,a0.2.2.2.2.1,a0.2.2.2.2.2.1,a0.2.2.2.2.2.2.1,a0.2.2.2.2.2.2.2.1,a0.2.2.2.2.2.2.2.2.1,a0.2.2.2.2.2.2.2.2.2.1,a0.2.2.2.2.2.2.2.2.2.2.1)).bind λt8 =>
 (loop (λz=>fc a0 z.1 z.2.1 z.2.2.1 z.2.2.2.1 z.2.2.2.2.1 z.2.2.2.2.2.1 z.2.2.2.2.2.2.1 z.2.2.2.2.2.2.2.1 z.2.2.2.2.2.2.2.2.1 z.2.2.2.2.2.2.2.2.2.1 z.2.2.2.2.2.2.2.2.2.2.1 z.2.2.2.2.2.2.2.2.2.2.2) (0,t8.1,t8.2.1,t8.2.2.2.2.2.2.1,t8.2.2.2.2.2.2.2.1,t8.2.2.2.2.2.2.2.2.1,t8.2.2.2.2.2.2.2.2.2.1,t8.2.2.2.2.2.2.2.2.2.2,a0.2.2.2.2.2.2.2.2.2.2.2.1,a0.2.2.2.2.2.2.2.2.2.2.2.2.2.1,a0.2.2.2.2.2.2.2.2.2.2.2.2.2.2,[])).bind λd =>
 some (d.1,d.2.1,t8.2.2.1,t8.2.2.2.1,t8.2.2.2.2.1,t8.2.2.2.2.2.1,d.2.2.1,d.2.2.2.1,d.2.2.2.2.1,d.2.2.2.2.2.1,d.2.2.2.2.2.2.1,d.2.2.2.2.2.2.2.1,d.2.2.2.2.2.2.2.2.2.2,d.2.2.2.2.2.2.2.2.1,d.2.2.2.2.2.2.2.2.2.1)
def lH:FL:=(139,⟨[.val true tV false],[.val true tV (some true)],λa=>fe a⟩)::lG
theorem qt:Gd lH:=sI qr 139 Tryz.f139 [(0,⟨⟨[(4,false,[dI])],[(273408,.box [dI,dS,.same 265218,.same 265219,.same 265220,.same 265221,dI,dI,dI,dI,dI,dS,.own 1000000000,dI,dI]),(1000000000,.root yp true)]⟩,
 ⟨[],[(273408,.box [dI,dS,.same 265218,.same 265219,.same 265220,.same 265221,dI,dI,dI,dI,dI,dS,.own 1000000300,dI,dI]),(1000000300,.root yp true)]⟩,none⟩)] Tryz.func139
def ig (b0:sx) (p1:tg):Option Bool :=
 (aV b0).bind λt6 =>
 (cond t6
 ((bK p1).bind λt9 =>
 some t9)
 (some false)).bind λt10 =>
 (cond t10 (some (p1.1 != 162)) (some false)).bind λt15 =>
 some t15
def lI:FL:=(82,⟨[.val true sX false,.val true uN false],[.val false tK (some true)],λa=>ig a.1 a.2⟩)::lH
theorem qu:Gd lI:=sI qt 82 Tryz.f82 [] Tryz.func82
def aq (b0:List Int) (tag1:Int) (body2:List Int):Option (List Int) :=
 (sT ([]:List Int) b0).bind λzs10 =>
 (ae tag1 0 255).bind λt12 =>
 (cond (!t12) (some true) (some (decide ((body2.length:Int)>250)))).bind λt18 =>
 cond t18
 (some zs10)
 ((sT zs10 [IntKind.u8.wrap (tag1)]).bind λzs24 =>
 cond (decide ((body2.length:Int)>127))
 ((sT zs24 ([129]:List Int)).bind λzs30 =>
 (sT zs30 [IntKind.u8.wrap ((body2.length:Int))]).bind λzs36 =>
 (sT zs36 body2).bind λzs38 =>
 some zs38)
 ((sT zs24 [IntKind.u8.wrap ((body2.length:Int))]).bind λzs36_1 =>
 (sT zs36_1 body2).bind λzs38_1 =>
 some zs38_1))
def lJ:FL:=(201,⟨[.val false uh false,.val false sH false,.val false uh false],[.val false uh (some true)],λa=>aq a.1 a.2.1 a.2.2⟩)::lI
theorem qv:Gd lJ:=sI qu 201 Tryz.f201 [] Tryz.func201
def ch (n0_1:Int) (out3:List Int):Option ((Int×List Int)⊕(List Int)) :=
 (cond (decide (n0_1<(-128))) (some true) (some (decide (n0_1>127)))).bind λt14 =>
 cond t14
 ((sT [IntKind.u8.wrap (n0_1.fdiv (2^8))] out3).bind λzs21 =>
 some (.inl (n0_1.fdiv (2^8),zs21)))
 (some (.inr out3))
def aU (n0:Int):Option (List Int) :=
 (av n0).bind λt5 =>
 (loop (λz=>ch z.1 z.2) (t5,[IntKind.u8.wrap (t5)])).bind λd =>
 some d
def lK:FL:=(300,⟨[.val false sH false],[.val false uh (some true)],λa=>aU a⟩)::lJ
theorem qw:Gd lK:=sI qv 300 Tryz.f300 [(0,⟨⟨[(0,false,[dI]),(3,false,[.own 1000000000]),(12,false,[.undef]),(13,false,[.undef])],[(1000000000,.root (.one (.int .u8)) true)]⟩,
 ⟨[(3,false,[.own 1000000300])],[(1000000300,.root (.one (.int .u8)) true)]⟩,none⟩)] Tryz.func300
def ci (n0_1:Int) (out3:List Int):Option ((Int×List Int)⊕(List Int)) :=
 cond (decide (n0_1>127))
 ((sT [IntKind.u8.wrap (zZ .i64 (wh .i64 (n0_1.fdiv (2^7)) 127) 128)] out3).bind λzs18 =>
 some (.inl (n0_1.fdiv (2^7),zs18)))
 (some (.inr out3))
def dZ (n0:Int):Option (List Int) :=
 (loop (λz=>ci z.1 z.2) (n0,[IntKind.u8.wrap (wh .i64 n0 127)])).bind λd =>
 some d
def lL:FL:=(365,⟨[.val false sH false],[.val false uh (some true)],λa=>dZ a⟩)::lK
theorem qx:Gd lL:=sI qw 365 Tryz.f365 [(0,⟨⟨[(0,false,[dI]),(3,false,[.own 1000000000])],[(1000000000,.root (.one (.int .u8)) true)]⟩,
 ⟨[(3,false,[.own 1000000300])],[(1000000300,.root (.one (.int .u8)) true)]⟩,none⟩)] Tryz.func365
def cU (o0:List Int) (i4:Int) (b3:List Int):Option ((Int×List Int)⊕(List Int)) :=
 cond (decide (i4<(o0.length:Int)))
 ((at? o0 i4).bind λx19 =>
 (dZ x19).bind λt21 =>
 (sT b3 t21).bind λzs22 =>
 some (.inl (sy (i4+1),zs22)))
 (some (.inr b3))
def ff (o0:List Int):Option (List Int) :=
 (bJ o0).bind λt7 =>
 cond (!t7)
 (some ([]:List Int))
 ((loop (λz=>cU o0 z.1 z.2) (0,([]:List Int))).bind λd =>
 some d)
def lM:FL:=(348,⟨[.val false vb false],[.val false uh (some true)],λa=>ff a⟩)::lL
theorem qy:Gd lM:=sI qx 348 Tryz.f348 [(0,⟨⟨[(3,false,[.own 1000000000]),(4,false,[dI])],[(1000000000,.root (.one (.int .u8)) true)]⟩,
 ⟨[(3,false,[.own 1000000300])],[(1000000300,.root (.one (.int .u8)) true)]⟩,none⟩)] Tryz.func348
def gw (b0:List Int) (v1:wl):Option (List Int) :=
 (bv v1).bind λt7 =>
 cond (!t7)
 ((sT ([]:List Int) b0).bind λzs11 =>
 some zs11)
 (cond (v1.1==2)
 ((aU v1.2.1).bind λt19 =>
 (aq b0 v1.1 t19).bind λt34 =>
 some t34)
 (cond (v1.1==4)
 ((aq b0 v1.1 (vl v1.2.2.1)).bind λt34_1 =>
 some t34_1)
 (cond (v1.1==6)
 ((ff v1.2.2.2).bind λt29 =>
 (aq b0 v1.1 t29).bind λt34_2 =>
 some t34_2)
 ((aq b0 v1.1 ([]:List Int)).bind λt34_3 =>
 some t34_3))))
def lN:FL:=(347,⟨[.val false uh false,.val true xB false],[.val false uh (some true)],λa=>gw a.1 a.2⟩)::lM
theorem qz:Gd lN:=sI qy 347 Tryz.f347 [] Tryz.func347
def cV (l0:List sB) (i4:Int) (b3:List Int):Option ((Int×List Int)⊕(List Int)) :=
 cond (decide (i4<(l0.length:Int)))
 ((at? l0 i4).bind λx16 =>
 (ff x16.1).bind λt19 =>
 (aq ([]:List Int) 6 t19).bind λt20 =>
 (at? l0 i4).bind λx23 =>
 (gw t20 x23.2).bind λt26 =>
 (aq b3 48 t26).bind λt29 =>
 some (.inl (sy (i4+1),t29)))
 (some (.inr b3))
def gx (l0:List sB):Option (List Int) :=
 (loop (λz=>cV l0 z.1 z.2) (0,([]:List Int))).bind λd =>
 some d
def lO:FL:=(299,⟨[.val false (.one (.sl sS)) false],[.val false uh (some true)],λa=>gx a⟩)::lN
theorem qA:Gd lO:=sI qz 299 Tryz.f299 [(0,⟨⟨[(3,false,[.own 1000000000]),(4,false,[dI])],[(1000000000,.root (.one (.int .u8)) true)]⟩,
 ⟨[(3,false,[.own 1000000300])],[(1000000300,.root (.one (.int .u8)) true)]⟩,none⟩)] Tryz.func299
def ii (p0:tg):Option ((List Int)×Bool) :=
 (gx p0.2.2.2.2).bind λt8 =>
 cond (decide ((t8.length:Int)>250))
 (some (([]:List Int),false))
 ((aU p0.2.1).bind λt16 =>
 (aq ([]:List Int) 2 t16).bind λt17 =>
 (aU p0.2.2.1).bind λt20 =>
 (aq t17 2 t20).bind λt21 =>
 (aU p0.2.2.2.1).bind λt24 =>
 (aq t21 2 t24).bind λt25 =>
 (aq t25 48 t8).bind λt28 =>
 let t3:=decide ((t28.length:Int)<=250)
 some (t28,t3))
def lP:FL:=(200,⟨[.val true uN false],[.val false uh (some true),.val false tK (some true)],λa=>ii a⟩)::lO
theorem qB:Gd lP:=sI qA 200 Tryz.f200 [] Tryz.func200
def ez (p0:tg):Option (List Int) :=
 (bK p0).bind λt6 =>
 cond (!t6)
 (some ([]:List Int))
 ((ii p0).bind λt11 =>
 cond (!t11.2)
 (some ([]:List Int))
 ((aq ([]:List Int) p0.1 t11.1).bind λt21 =>
 some t21))
def lQ:FL:=(104,⟨[.val true uN false],[.val false uh (some true)],λa=>ez a⟩)::lP
theorem qC:Gd lQ:=sI qB 104 Tryz.f104 [] Tryz.func104
def e9 (p0:tg):Option Bool :=
 (ez p0).bind λt4 =>
 (ae (t4.length:Int) 1 120).bind λt6 =>
 some t6
def lR:FL:=(25,⟨[.val true uN false],[.val false tK (some true)],λa=>e9 a⟩)::lQ
theorem qD:Gd lR:=sI qC 25 Tryz.f25 [] Tryz.func25
def cj (bulk1:Bool) (b0:Int) (b1:Int) (b2:Int) (b3:Int) (b4:List sB):Option ((Int×Int×Int×Int×List sB)⊕(Int×Int×Int×Int×List sB)) :=
 (cond bulk1
 ((e9 (b0,b1,b2,b3,b4)).bind λt8 =>
 some (!t8))
 (some false)).bind λt10 =>
 (cond t10 (some (decide ((b4.length:Int)>0))) (some false)).bind λt16 =>
 cond t16
 ((uG b4.length 0 (sy ((b4.length:Int)-1))).bind λp =>
 some (.inl (b0,b1,b2,b3,(b4.take p.2).drop p.1)))
 (some (.inr (b0,b1,b2,b3,b4)))
def cW (p0:tg) (bulk1:Bool):Option tg :=
 (loop (λz=>cj bulk1 z.1 z.2.1 z.2.2.1 z.2.2.2.1 z.2.2.2.2) p0).bind λd =>
 (e9 d).bind λt26 =>
 cond t26 (some d) (some (162,d.2.1,7,0,[]))
def lS:FL:=(87,⟨[.val true uN true,.val false tK false],[.val true uN (some true)],λa=>cW a.1 a.2⟩)::lR
theorem qE:Gd lS:=sI qD 87 Tryz.f87 [(0,⟨⟨us 7 3 (us 12 4 []),[(1024,.box [dI,dI,dI,dI,.own 1000000000]),(1000000000,.root sS true)]⟩,
 ⟨[],[(1024,.box [dI,dI,dI,dI,.own 1000000300]),(1000000300,.root sS true)]⟩,none⟩)] Tryz.func87
def qF (a0:List Int) (b1:List Int) (i5:Int):Option (Int⊕(Unit⊕Bool)) :=
 cond (decide (i5<(a0.length:Int)))
 ((at? a0 i5).bind λx19 =>
 (at? b1 i5).bind λx23 =>
 cond (x19 != x23) (some (.inr (.inr false))) (some (.inl (sy (i5+1)))))
 (some (.inr (.inl ())))
def cX (a0:List Int) (b1:List Int):Option Bool :=
 cond ((a0.length:Int) != (b1.length:Int))
 (some false)
 ((loop (λz=>qF a0 b1 z) 0).bind (Sum.elim (λd =>
 some true) (λr=>some r)))
def lT:FL:=(289,⟨[.val false vb false,.val false vb false],[.val false tK (some true)],λa=>cX a.1 a.2⟩)::lS
theorem qG:Gd lT:=sI qE 289 Tryz.f289 [(0,⟨⟨[(5,false,[dI])],[]⟩,
 ⟨[],[]⟩,some ⟨[(4,false,[dB])],[]⟩⟩)] Tryz.func289
def ij (o0:List Int) (head1:List Int):Option Bool :=
 (cond (decide ((o0.length:Int)>(head1.length:Int)))
 ((cut o0 0 (head1.length:Int)).bind λt14 =>
 (cX t14 head1).bind λt16 =>
 some t16)
 (some false)).bind λt17 =>
 some t17
def lU:FL:=(369,⟨[.val false vb false,.val false vb false],[.val false tK (some true)],λa=>ij a.1 a.2⟩)::lT
theorem qH:Gd lU:=sI qG 369 Tryz.f369 [] Tryz.func369
def fg (o0:List Int):Option ((List Int)×Bool) :=
 (ij o0 ([1,3,1]:List Int)).bind λt6 =>
 cond (!t6)
 (some (([]:List Int),false))
 ((cut o0 3 (o0.length:Int)).bind λt10 =>
 some (t10,true))
def lV:FL:=(362,⟨[.val false vb false],[.val false vb none,.val false tK (some true)],λa=>fg a⟩)::lU
theorem qI:Gd lV:=sI qH 362 Tryz.f362 [] Tryz.func362
def gy (p0:sx) (i1:List Int):Option Bool :=
 (fg i1).bind λt9 =>
 cond (!t9.2)
 (some false)
 (cond ((t9.1.length:Int)==2)
 ((at? t9.1 0).bind λx18 =>
 (cond (x18==1)
 ((at? t9.1 1).bind λx23 =>
 some (x23==1))
 (some false)).bind λt26 =>
 some t26)
 (cond ((t9.1.length:Int) != 3)
 (some false)
 ((at? t9.1 0).bind λx31 =>
 cond (x31==2)
 ((at? t9.1 1).bind λx36 =>
 (cond (x36==2)
 (some true)
 ((at? t9.1 1).bind λx41 =>
 some (x41==4))).bind λt44 =>
 (cond t44
 ((at? t9.1 2).bind λx47 =>
 (ae x47 1 (p0.2.2.1.length:Int)).bind λt52 =>
 some t52)
 (some false)).bind λt53 =>
 some t53)
 (cond (x31==3)
 ((at? t9.1 1).bind λx57 =>
 (cond (x57==1)
 ((at? t9.1 2).bind λx62 =>
 (ae x62 1 99).bind λt64 =>
 some t64)
 (some false)).bind λt65 =>
 (cond t65
 (some true)
 ((at? t9.1 1).bind λx68 =>
 (cond (x68==2)
 (some true)
 ((at? t9.1 1).bind λx73 =>
 some (x73==3))).bind λt76 =>
 (cond t76
 ((at? t9.1 2).bind λx81 =>
 (bu (p0.2.2.2.2.1,p0.2.2.2.2.2.1) x81).bind λt83 =>
 some (decide (t83>=0)))
 (some false)).bind λt85 =>
 some t85)).bind λt86 =>
 some t86)
 (some false)))))
def lW:FL:=(338,⟨[.val true sX false,.val false vb false],[.val false tK (some true)],λa=>gy a.1 a.2⟩)::lV
theorem qJ:Gd lW:=sI qI 338 Tryz.f338 [] Tryz.func338
def aS (l0:List sD) (tag1:Int) (mac2:Int) (i7:Int):Option (Int⊕(Unit⊕Int)) :=
 cond (decide (i7<(l0.length:Int)))
 ((at? l0 i7).bind λx16 =>
 (cond (x16.1==tag1)
 ((at? l0 i7).bind λx24 =>
 some (x24.2.1==mac2))
 (some false)).bind λt29 =>
 cond t29 (some (.inr (.inr i7))) (some (.inl (sy (i7+1)))))
 (some (.inr (.inl ())))
def ck (l0:List sD) (tag1:Int) (mac2:Int):Option Int :=
 (loop (λz=>aS l0 tag1 mac2 z) 0).bind (Sum.elim (λd =>
 some (-1)) (λr=>some r))
def lX:FL:=(270,⟨[.val false (.one (.sl th)) false,.val false sH false,.val false sH false],[.val false sH (some true)],λa=>ck a.1 a.2.1 a.2.2⟩)::lW
theorem qK:Gd lX:=sI qJ 270 Tryz.f270 [(0,⟨⟨(7,false,[dI])::us 22 7 [],[]⟩,
 ⟨[],[]⟩,some ⟨[(6,false,[dI])],[]⟩⟩)] Tryz.func270
def gz (p0:sx) (i1:List Int):Option Bool :=
 (fg i1).bind λt9 =>
 cond (!t9.2)
 (some false)
 (cond ((t9.1.length:Int)==2)
 ((at? t9.1 0).bind λx19 =>
 (cond (x19==1)
 ((at? t9.1 1).bind λx24 =>
 (ae x24 2 5).bind λt26 =>
 some t26)
 (some false)).bind λt27 =>
 some t27)
 (cond ((t9.1.length:Int)==3)
 ((at? t9.1 0).bind λx31 =>
 (cond (x31==2)
 ((at? t9.1 1).bind λx36 =>
 (cond (x36==1)
 (some true)
 ((at? t9.1 1).bind λx41 =>
 some (x41==3))).bind λt44 =>
 some t44)
 (some false)).bind λt45 =>
 (cond t45
 ((at? t9.1 2).bind λx48 =>
 (ae x48 1 (p0.2.2.1.length:Int)).bind λt53 =>
 some t53)
 (some false)).bind λt54 =>
 some t54)
 (cond ((t9.1.length:Int)==4)
 ((at? t9.1 0).bind λx58 =>
 (cond (x58==4)
 ((at? t9.1 1).bind λx63 =>
 some (x63==1))
 (some false)).bind λt66 =>
 (cond t66
 ((at? t9.1 2).bind λx71 =>
 (at? t9.1 3).bind λx74 =>
 (ck p0.2.2.2.1 x71 x74).bind λt76 =>
 some (decide (t76>=0)))
 (some false)).bind λt78 =>
 some t78)
 (some false))))
def lY:FL:=(339,⟨[.val true sX false,.val false vb false],[.val false tK (some true)],λa=>gz a.1 a.2⟩)::lX
theorem qL:Gd lY:=sI qK 339 Tryz.f339 [] Tryz.func339
def il (b0:sx) (c1:Int) (p2:Int) (n3:Int):Option (sx×Int) :=
 cond (c1==2)
 ((ae n3 1 1000).bind λt13 =>
 cond (!t13)
 (some (b0,2))
 ((ix b0.2.2.1.length p2).bind λj20 =>
 (b0.2.2.1[j20]?).bind λx =>
 some ((b0.1,b0.2.1,b0.2.2.1.set j20 (x.1,n3,x.2.2.1,x.2.2.2.1,x.2.2.2.2.1,x.2.2.2.2.2.1,x.2.2.2.2.2.2.1,x.2.2.2.2.2.2.2),b0.2.2.2.1,b0.2.2.2.2.1,b0.2.2.2.2.2.1,b0.2.2.2.2.2.2.1,b0.2.2.2.2.2.2.2.1,b0.2.2.2.2.2.2.2.2.1,b0.2.2.2.2.2.2.2.2.2.1,b0.2.2.2.2.2.2.2.2.2.2),0)))
 ((ix b0.2.2.2.2.2.1.length p2).bind λj28 =>
 (b0.2.2.2.2.2.1[j28]?).bind λx_1 =>
 some ((b0.1,b0.2.1,b0.2.2.1,b0.2.2.2.1,b0.2.2.2.2.1,b0.2.2.2.2.2.1.set j28 n3,b0.2.2.2.2.2.2.1,b0.2.2.2.2.2.2.2.1,b0.2.2.2.2.2.2.2.2.1,b0.2.2.2.2.2.2.2.2.2.1,b0.2.2.2.2.2.2.2.2.2.2),0))
def lZ:FL:=(340,⟨[.val true sX true,.val false sH false,.val false sH false,.val false sH false],[.val true sX (some true),.val false sH (some true)],λa=>il a.1 a.2.1 a.2.2.1 a.2.2.2⟩)::lY
theorem qM:Gd lZ:=sI qL 340 Tryz.f340 [] Tryz.func340
def aD (p0:tH) (i1:sM) (t6:Bool) (t7:Int) (b0:List sM):Option ((Bool×Int×List sM)⊕(Bool×List sM)) :=
 cond (decide (t7<(p0.1.length:Int)))
 ((cond (!t6)
 ((at? p0.1 t7).bind λx26 =>
 some (decide (x26.1>=i1.1)))
 (some false)).bind λt32 =>
 cond t32
 ((sT b0 [i1]).bind λzs37 =>
 (at? p0.1 t7).bind λx42 =>
 cond (x42.1 != i1.1)
 ((at? p0.1 t7).bind λx53 =>
 (sT zs37 [x53]).bind λzs56 =>
 some (.inl (true,sy (t7+1),zs56)))
 (some (.inl (true,sy (t7+1),zs37))))
 ((at? p0.1 t7).bind λx42_1 =>
 cond (x42_1.1 != i1.1)
 ((at? p0.1 t7).bind λx53_1 =>
 (sT b0 [x53_1]).bind λzs56_1 =>
 some (.inl (t6,sy (t7+1),zs56_1)))
 (some (.inl (t6,sy (t7+1),b0)))))
 (some (.inr (t6,b0)))
def aH (p0:tH) (i1:sM):Option tH :=
 (sT ([]:List Int) p0.2).bind λzs11 =>
 (loop (λz=>aD p0 i1 z.1 z.2.1 z.2.2) (false,0,[])).bind λd =>
 cond (!d.1)
 ((sT d.2 [i1]).bind λzs64 =>
 some (zs64,zs11))
 (some (d.2,zs11))
def m5:FL:=(298,⟨[.val true uS false,.val true u0 false],[.val true uS (some true)],λa=>aH a.1 a.2⟩)::lZ
theorem qN:Gd m5:=sI qM 298 Tryz.f298 [(0,⟨⟨(6,false,[dB])::(7,false,[dI])::us 23 9 [],[(268288,.box [.own 1000000000,.same 266240]),(1000000000,.root u0 true)]⟩,
 ⟨[(6,false,[dB])],[(268288,.box [.own 1000000300,.same 266240]),(1000000300,.root u0 true)]⟩,none⟩)] Tryz.func298
def ip (b0:sx) (id1:Int) (n2:Int):Option (sx×Int) :=
 (bu (b0.2.2.2.2.1,b0.2.2.2.2.2.1) id1).bind λt12 =>
 (cond (n2==4) (some (decide (t12<0))) (some false)).bind λt19 =>
 (cond t19 (some (decide ((b0.2.2.2.2.1.length:Int)<6))) (some false)).bind λt26 =>
 cond t26
 ((aH (b0.2.2.2.2.1,b0.2.2.2.2.2.1) (id1,0,0)).bind λt31 =>
 some ((b0.1,b0.2.1,b0.2.2.1,b0.2.2.2.1,t31.1,t31.2,b0.2.2.2.2.2.2.1,b0.2.2.2.2.2.2.2.1,b0.2.2.2.2.2.2.2.2.1,b0.2.2.2.2.2.2.2.2.2.1,b0.2.2.2.2.2.2.2.2.2.2),0))
 ((cond (n2==6) (some (decide (t12>=0))) (some false)).bind λt40 =>
 cond t40
 ((uG b0.2.2.2.2.1.length 0 t12).bind λp =>
 (sT ([]:List sM) ((b0.2.2.2.2.1.take p.2).drop p.1)).bind λzs47 =>
 (uG b0.2.2.2.2.1.length (sy (t12+1)) (b0.2.2.2.2.1.length:Int)).bind λp_1 =>
 (sT zs47 ((b0.2.2.2.2.1.take p_1.2).drop p_1.1)).bind λzs54 =>
 some ((b0.1,b0.2.1,b0.2.2.1,b0.2.2.2.1,zs54,b0.2.2.2.2.2.1,b0.2.2.2.2.2.2.1,b0.2.2.2.2.2.2.2.1,b0.2.2.2.2.2.2.2.2.1,b0.2.2.2.2.2.2.2.2.2.1,b0.2.2.2.2.2.2.2.2.2.2),0))
 (some (b0,2)))
def m6:FL:=(363,⟨[.val true sX true,.val false sH false,.val false sH false],[.val true sX (some true),.val false sH (some true)],λa=>ip a.1 a.2.1 a.2.2⟩)::m5
theorem qO:Gd m6:=sI qN 363 Tryz.f363 [] Tryz.func363
def gA (b0:sx) (c1:Int) (id2:Int) (n3:Int):Option (sx×Int) :=
 cond (c1==1)
 ((ip b0 id2 n3).bind λt16 =>
 some t16)
 ((shl .i64 1 (IntKind.u64.wrap ((b0.2.2.1.length:Int)))).bind λt24 =>
 (ae n3 0 (sy (t24-1))).bind λt26 =>
 cond (!t26)
 (some (b0,2))
 ((bu (b0.2.2.2.2.1,b0.2.2.2.2.2.1) id2).bind λt35 =>
 (ix b0.2.2.2.2.1.length t35).bind λj36 =>
 (b0.2.2.2.2.1[j36]?).bind λx37 =>
 cond (c1==2)
 ((aH (b0.2.2.2.2.1,b0.2.2.2.2.2.1) (x37.1,n3,x37.2.2)).bind λt47 =>
 some ((b0.1,b0.2.1,b0.2.2.1,b0.2.2.2.1,t47.1,t47.2,b0.2.2.2.2.2.2.1,b0.2.2.2.2.2.2.2.1,b0.2.2.2.2.2.2.2.2.1,b0.2.2.2.2.2.2.2.2.2.1,b0.2.2.2.2.2.2.2.2.2.2),0))
 ((aH (b0.2.2.2.2.1,b0.2.2.2.2.2.1) (x37.1,x37.2.1,n3)).bind λt47_1 =>
 some ((b0.1,b0.2.1,b0.2.2.1,b0.2.2.2.1,t47_1.1,t47_1.2,b0.2.2.2.2.2.2.1,b0.2.2.2.2.2.2.2.1,b0.2.2.2.2.2.2.2.2.1,b0.2.2.2.2.2.2.2.2.2.1,b0.2.2.2.2.2.2.2.2.2.2),0))))
def m7:FL:=(341,⟨[.val true sX true,.val false sH false,.val false sH false,.val false sH false],[.val true sX (some true),.val false sH (some true)],λa=>gA a.1 a.2.1 a.2.2.1 a.2.2.2⟩)::m6
theorem qP:Gd m7:=sI qO 341 Tryz.f341 [] Tryz.func341
def fh (p0:sx) (i1:sB):Option (sx×Int) :=
 (am p0).bind λt9 =>
 (gy p0 i1.1).bind λt13 =>
 cond (!t13)
 ((gz p0 i1.1).bind λt18 =>
 cond t18 (some (t9,4)) (some (t9,3)))
 ((cut i1.1 3 (i1.1.length:Int)).bind λt23 =>
 (at? t23 0).bind λx25 =>
 cond (x25==1)
 (cond (i1.2.1 != 4)
 (some (t9,1))
 (let t34:=decide ((i1.2.2.2.1.length:Int)>10)
 cond t34
 (some (t9,2))
 (some ((t9.1,i1.2.2.2.1,t9.2.2.1,t9.2.2.2.1,t9.2.2.2.2.1,t9.2.2.2.2.2.1,t9.2.2.2.2.2.2.1,t9.2.2.2.2.2.2.2.1,t9.2.2.2.2.2.2.2.2.1,t9.2.2.2.2.2.2.2.2.2.1,t9.2.2.2.2.2.2.2.2.2.2),0))))
 (cond (i1.2.1 != 2)
 (some (t9,1))
 ((at? t23 0).bind λx52 =>
 cond (x52==2)
 ((at? t23 1).bind λx57 =>
 (at? t23 2).bind λx60 =>
 (il t9 x57 (sy (x60-1)) i1.2.2.1).bind λt66 =>
 some t66)
 ((at? t23 1).bind λx71 =>
 (at? t23 2).bind λx74 =>
 (gA t9 x71 x74 i1.2.2.1).bind λt79 =>
 some t79))))
def m8:FL:=(290,⟨[.val true sX false,.val true sS false],[.val true sX (some true),.val false sH (some true)],λa=>fh a.1 a.2⟩)::m7
theorem qQ:Gd m8:=sI qP 290 Tryz.f290 [] Tryz.func290
def bf (n0:Int):Option Int :=
 cond (decide (n0>=1000000)) (some n0) (some (sy (n0+1)))
def m9:FL:=(143,⟨[.val false sH false],[.val false sH (some true)],λa=>bf a⟩)::m8
theorem qR:Gd m9:=sI qQ 143 Tryz.f143 [] Tryz.func143
def gB (a0:zg) (b1:zg):Option Bool :=
 cond (a0.1 != b1.1)
 (some (decide (a0.1<b1.1)))
 (cond (a0.2.1 != b1.2.1)
 (some (decide (a0.2.1<b1.2.1)))
 (cond (a0.2.2.2.1 != b1.2.2.2.1)
 (let t4:=decide (a0.2.2.2.1<b1.2.2.2.1)
 some t4)
 (let t4_1:=decide (a0.2.2.2.2<b1.2.2.2.2)
 some t4_1)))
def ma:FL:=(357,⟨[.val true xO false,.val true xO false],[.val false tK (some true)],λa=>gB a.1 a.2⟩)::m9
theorem qS:Gd ma:=sI qR 357 Tryz.f357 [] Tryz.func357
def iq (v0:zg) (cost1:Int):Option (zg×Bool) :=
 (f8 v0).bind λt8 =>
 (cond (!t8)
 (some true)
 ((ae cost1 1 1000).bind λt12 =>
 some (!t12))).bind λt14 =>
 cond t14
 (some (v0,false))
 ((f8 (v0.1,sy (v0.2.1+cost1),sy (v0.2.2.1+1),v0.2.2.2.1,v0.2.2.2.2)).bind λt27 =>
 cond (!t27)
 (some (v0,false))
 (some ((v0.1,sy (v0.2.1+cost1),sy (v0.2.2.1+1),v0.2.2.2.1,v0.2.2.2.2),true)))
def mb:FL:=(368,⟨[.val true xO false,.val false sH false],[.val true xO (some true),.val false tK (some true)],λa=>iq a.1 a.2⟩)::ma
theorem qT:Gd mb:=sI qS 368 Tryz.f368 [] Tryz.func368
def ir (p0:Int) (i1:List Pt) (t8:Int) (t9:Int) (b0:Int) (b1:Int) (b2:Int) (b3:Int) (b4:Int) (b0_1:Int) (b1_1:Int) (b2_1:Int) (b3_1:Int) (b4_1:Int):Option ((Int×Int×Int×Int×Int×Int×Int×Int×Int×Int×Int×Int)⊕(Int×Int×Int×Int×Int×Int×Int×Int×Int×Int×Int)) :=
 cond (decide (t9<(i1.length:Int)))
 ((at? i1 t9).bind λx24 =>
 (cond (!x24.1)
 (some true)
 ((at? i1 t9).bind λx31 =>
 some (!x31.2.2.1))).bind λt35 =>
 cond t35
 (some (.inl (t8,sy (t9+1),b0,b1,b2,b3,b4,b0_1,b1_1,b2_1,b3_1,b4_1)))
 ((at? i1 t9).bind λx39 =>
 (at? i1 t9).bind λx44 =>
 (iq x39.2.2.2 x44.2.1).bind λt47 =>
 (cond t47.2 (some (decide (t47.1.1<p0))) (some false)).bind λt56 =>
 (cond t56
 ((cond (decide (t8<0))
 (some true)
 ((gB t47.1 (b0_1,b1_1,b2_1,b3_1,b4_1)).bind λt63 =>
 some t63)).bind λt64 =>
 some t64)
 (some false)).bind λt65 =>
 cond t65
 (some (.inl (t9,sy (t9+1),t47.1.1,t47.1.2.1,t47.1.2.2.1,p0,0,t47.1.1,t47.1.2.1,t47.1.2.2.1,t47.1.2.2.2.1,t47.1.2.2.2.2)))
 (some (.inl (t8,sy (t9+1),b0,b1,b2,b3,b4,b0_1,b1_1,b2_1,b3_1,b4_1)))))
 (some (.inr (t8,b0,b1,b2,b3,b4,b0_1,b1_1,b2_1,b3_1,b4_1)))
def fi (p0:Int) (i1:List Pt):Option (zg×Int) :=
 (loop (λz=>ir p0 i1 z.1 z.2.1 z.2.2.1 z.2.2.2.1 z.2.2.2.2.1 z.2.2.2.2.2.1 z.2.2.2.2.2.2.1 z.2.2.2.2.2.2.2.1 z.2.2.2.2.2.2.2.2.1 z.2.2.2.2.2.2.2.2.2.1 z.2.2.2.2.2.2.2.2.2.2.1 z.2.2.2.2.2.2.2.2.2.2.2) ((-1),0,p0,0,0,p0,0,0,0,0,0,0)).bind λd =>
 some ((d.2.1,d.2.2.1,d.2.2.2.1,d.2.2.2.2.1,d.2.2.2.2.2.1),d.1)
def mc:FL:=(356,⟨[.val false sH false,.val false (.one (.sl vc)) false],[.val true xO (some true),.val false sH (some true)],λa=>fi a.1 a.2⟩)::mb
theorem qU:Gd mc:=sI qT 356 Tryz.f356 [(0,⟨⟨(8,false,[dI])::(9,false,[dI])::us 29 6 (us 52 4 (us 58 7 [])),[(266240,.box [dI,dI,dI,dI,dI]),(526336,.box [dI,dI,dI,dI,dI])]⟩,
 ⟨[(8,false,[dI])],[(266240,.box [dI,dI,dI,dI,dI]),(526336,.box [dI,dI,dI,dI,dI])]⟩,none⟩)] Tryz.func356
def gC (id0:Int) (l1:List Pt) (port2:Int):Option zg :=
 (fi id0 l1).bind λt12 =>
 some (t12.1.1,t12.1.2.1,t12.1.2.2.1,t12.1.2.2.2.1,port2)
def md:FL:=(358,⟨[.val false sH false,.val false (.one (.sl vc)) false,.val false sH false],[.val true xO (some true)],λa=>gC a.1 a.2.1 a.2.2⟩)::mc
theorem qV:Gd md:=sI qU 358 Tryz.f358 [] Tryz.func358
def fj (id0:Int) (l1:List Pt) (port2:Int):Option Int :=
 (ae port2 0 (sy ((l1.length:Int)-1))).bind λt13 =>
 (cond (!t13)
 (some true)
 ((at? l1 port2).bind λx18 =>
 some (!x18.1))).bind λt22 =>
 cond t22
 (some 4)
 ((fi id0 l1).bind λt26 =>
 cond (t26.2==port2)
 (some 1)
 ((at? l1 port2).bind λx36 =>
 (cond (!x36.2.2.1)
 (some true)
 ((gC id0 l1 port2).bind λt44 =>
 (at? l1 port2).bind λx47 =>
 (gB t44 x47.2.2.2).bind λt50 =>
 some t50)).bind λt51 =>
 cond t51 (some 2) (some 3)))
def me:FL:=(325,⟨[.val false sH false,.val false (.one (.sl vc)) false,.val false sH false],[.val false sH (some true)],λa=>fj a.1 a.2.1 a.2.2⟩)::md
theorem qW:Gd me:=sI qV 325 Tryz.f325 [] Tryz.func325
def fk (id0:Int) (l1:List Pt) (n5:Int) (i6:Int):Option ((Int×Int)⊕Int) :=
 (cond (decide (i6<(l1.length:Int))) (some (decide (i6<6))) (some false)).bind λt14 =>
 cond t14
 ((fj id0 l1 i6).bind λt20 =>
 cond (decide (t20<=2))
 ((shl .i64 1 (IntKind.u64.wrap (i6))).bind λt25 =>
 some (.inl (zZ .i64 n5 t25,sy (i6+1))))
 (some (.inl (n5,sy (i6+1)))))
 (some (.inr n5))
def gD (id0:Int) (l1:List Pt):Option Int :=
 (loop (λz=>fk id0 l1 z.1 z.2) (0,0)).bind λd =>
 some d
def mf:FL:=(255,⟨[.val false sH false,.val false (.one (.sl vc)) false],[.val false sH (some true)],λa=>gD a.1 a.2⟩)::me
theorem qX:Gd mf:=sI qW 255 Tryz.f255 [(0,⟨⟨[(5,false,[dI]),(6,false,[dI]),(12,false,[.undef]),(13,false,[.undef])],[]⟩,
 ⟨[(5,false,[dI])],[]⟩,none⟩)] Tryz.func255
def gE (n0:Int) (port1:Int):Option Bool :=
 (ae port1 0 7).bind λt6 =>
 (cond t6
 ((shr .i64 n0 (IntKind.u64.wrap (port1))).bind λt11 =>
 some ((wh .i64 t11 1)==1))
 (some false)).bind λt14 =>
 some t14
def mg:FL:=(257,⟨[.val false sH false,.val false sH false],[.val false tK (some true)],λa=>gE a.1 a.2⟩)::mf
theorem qY:Gd mg:=sI qX 257 Tryz.f257 [] Tryz.func257
def ea (l0:List sD) (port1:Int) (i6:Int) (out5:List sD):Option ((Int×List sD)⊕(List sD)) :=
 cond (decide (i6<(l0.length:Int)))
 ((at? l0 i6).bind λx16 =>
 (cond x16.2.2.2.2
 (some true)
 ((at? l0 i6).bind λx22 =>
 some (x22.2.2.1 != port1))).bind λt27 =>
 cond t27
 ((at? l0 i6).bind λx31 =>
 (sT out5 [x31]).bind λzs34 =>
 some (.inl (sy (i6+1),zs34)))
 (some (.inl (sy (i6+1),out5))))
 (some (.inr out5))
def gF (l0:List sD) (port1:Int):Option (List sD) :=
 (loop (λz=>ea l0 port1 z.1 z.2) (0,([]:List sD))).bind λd =>
 some d
def mh:FL:=(342,⟨[.val false (.one (.sl th)) false,.val false sH false],[.val false (.one (.sl th)) (some true)],λa=>gF a.1 a.2⟩)::mg
theorem qZ:Gd mh:=sI qY 342 Tryz.f342 [(0,⟨⟨(5,false,[.own 1000000000])::(6,false,[dI])::us 20 7 [],[(1000000000,.root th true)]⟩,
 ⟨[(5,false,[.own 1000000300])],[(1000000300,.root th true)]⟩,none⟩)] Tryz.func342
def gG (b0:sx) (t13:Int) (i4:Int) (b0_1:Int) (b1:List UInt8) (b6:Int) (b7:Int) (b8:Int) (b9:Int) (b10:Int) (b3:List sD):Option ((Int×Int×List UInt8×Int×Int×Int×Int×Int×List sD)⊕(Int×List UInt8×Int×Int×Int×Int×Int×List sD)) :=
 cond (decide (i4<(b0.2.2.1.length:Int)))
 ((gE t13 i4).bind λt23 =>
 cond (!t23)
 ((gF b3 i4).bind λt28 =>
 some (.inl (sy (i4+1),b0_1,b1,b6,b7,b8,b9,b10,t28)))
 (some (.inl (sy (i4+1),b0_1,b1,b6,b7,b8,b9,b10,b3))))
 (some (.inr (b0_1,b1,b6,b7,b8,b9,b10,b3)))
def bP (b0:sx):Option sx :=
 (bf b0.2.2.2.2.2.2.2.2.2.2).bind λt7 =>
 (gD b0.1 b0.2.2.1).bind λt13 =>
 (loop (λz=>gG b0 t13 z.1 z.2.1 z.2.2.1 z.2.2.2.1 z.2.2.2.2.1 z.2.2.2.2.2.1 z.2.2.2.2.2.2.1 z.2.2.2.2.2.2.2.1 z.2.2.2.2.2.2.2.2) (0,b0.1,b0.2.1,b0.2.2.2.2.2.2.1,b0.2.2.2.2.2.2.2.1,b0.2.2.2.2.2.2.2.2.1,b0.2.2.2.2.2.2.2.2.2.1,t7,b0.2.2.2.1)).bind λd =>
 some (d.1,d.2.1,b0.2.2.1,d.2.2.2.2.2.2.2,b0.2.2.2.2.1,b0.2.2.2.2.2.1,d.2.2.1,d.2.2.2.1,d.2.2.2.2.1,d.2.2.2.2.2.1,d.2.2.2.2.2.2.1)
def mi:FL:=(291,⟨[.val true sX true],[.val true sX (some true)],λa=>bP a⟩)::mh
theorem r7:Gd mi:=sI qZ 291 Tryz.f291 [(0,⟨⟨[(4,false,[dI])],[(1024,.box [dI,dS,.same 3,.own 1000000000,.same 5,.same 6,dI,dI,dI,dI,dI]),(1000000000,.root th true)]⟩,
 ⟨[],[(1024,.box [dI,dS,.same 3,.own 1000000300,.same 5,.same 6,dI,dI,dI,dI,dI]),(1000000300,.root th true)]⟩,none⟩)] Tryz.func291
def fm (p0:sx) (i1:List sB) (t8:Int) (t9:Int) (b0_2:Int) (b1_2:List UInt8) (b6_2:Int) (b7_2:Int) (b8_2:Int) (b9_2:Int) (b10_2:Int):Option ((Int×Int×List UInt8×Int×Int×Int×Int×Int)⊕((Int×List UInt8×Int×Int×Int×Int×Int)⊕(Int×Int×Int×List UInt8×Int×Int×Int×Int×Int×List Pt×List sD×List sM×List Int))) :=
 cond (decide (t9<t8))
 ((at? i1 t9).bind λx36 =>
 (at? i1 t8).bind λx41 =>
 (cX x36.1 x41.1).bind λt44 =>
 cond t44
 ((am p0).bind λt46 =>
 some (.inr (.inr (5,sy (t8+1),t46.1,t46.2.1,t46.2.2.2.2.2.2.1,t46.2.2.2.2.2.2.2.1,t46.2.2.2.2.2.2.2.2.1,t46.2.2.2.2.2.2.2.2.2.1,t46.2.2.2.2.2.2.2.2.2.2,t46.2.2.1,t46.2.2.2.1,t46.2.2.2.2.1,t46.2.2.2.2.2.1))))
 (some (.inl (sy (t9+1),b0_2,b1_2,b6_2,b7_2,b8_2,b9_2,b10_2))))
 (some (.inr (.inl (b0_2,b1_2,b6_2,b7_2,b8_2,b9_2,b10_2))))
def gH (p0:sx) (i1:List sB) (t8:Int) (b0:Int) (b1:List UInt8) (b6:Int) (b7:Int) (b8:Int) (b9:Int) (b10:Int) (b0_1:Int) (b1_1:List UInt8) (b6_1:Int) (b7_1:Int) (b8_1:Int) (b9_1:Int) (b10_1:Int) (b2:List Pt) (b3:List sD) (b4:List sM) (b5:List Int) (b2_1:List Pt) (b3_1:List sD) (b4_1:List sM) (b5_1:List Int):Option ((Int×Int×List UInt8×Int×Int×Int×Int×Int×Int×List UInt8×Int×Int×Int×Int×Int×List Pt×List sD×List sM×List Int×List Pt×List sD×List sM×List Int)⊕((Int×List UInt8×Int×Int×Int×Int×Int×Int×List UInt8×Int×Int×Int×Int×Int×List Pt×List sD×List sM×List Int×List Pt×List sD×List sM×List Int)⊕(Int×Int×Int×List UInt8×Int×Int×Int×Int×Int×List Pt×List sD×List sM×List Int))) :=
 cond (decide (t8<(i1.length:Int)))
 ((loop (λz=>fm p0 i1 t8 z.1 z.2.1 z.2.2.1 z.2.2.2.1 z.2.2.2.2.1 z.2.2.2.2.2.1 z.2.2.2.2.2.2.1 z.2.2.2.2.2.2.2) (0,b0,b1,b6,b7,b8,b9,b10)).bind (Sum.elim (λd =>
 (at? i1 t8).bind λx53 =>
 (fh (b0_1,b1_1,b2_1,b3_1,b4_1,b5_1,b6_1,b7_1,b8_1,b9_1,b10_1) x53).bind λt55 =>
 cond (t55.2 != 0)
 ((am p0).bind λt61 =>
 some (.inr (.inr (t55.2,sy (t8+1),t61.1,t61.2.1,t61.2.2.2.2.2.2.1,t61.2.2.2.2.2.2.2.1,t61.2.2.2.2.2.2.2.2.1,t61.2.2.2.2.2.2.2.2.2.1,t61.2.2.2.2.2.2.2.2.2.2,t61.2.2.1,t61.2.2.2.1,t61.2.2.2.2.1,t61.2.2.2.2.2.1))))
 (some (.inl (sy (t8+1),d.1,d.2.1,d.2.2.1,d.2.2.2.1,d.2.2.2.2.1,d.2.2.2.2.2.1,d.2.2.2.2.2.2,t55.1.1,t55.1.2.1,t55.1.2.2.2.2.2.2.1,t55.1.2.2.2.2.2.2.2.1,t55.1.2.2.2.2.2.2.2.2.1,t55.1.2.2.2.2.2.2.2.2.2.1,t55.1.2.2.2.2.2.2.2.2.2.2,b2,b3,b4,b5,t55.1.2.2.1,t55.1.2.2.2.1,t55.1.2.2.2.2.1,t55.1.2.2.2.2.2.1)))) (λr=>some (.inr (.inr r)))))
 (some (.inr (.inl (b0,b1,b6,b7,b8,b9,b10,b0_1,b1_1,b6_1,b7_1,b8_1,b9_1,b10_1,b2,b3,b4,b5,b2_1,b3_1,b4_1,b5_1))))
def gI (p0:sx) (i1:List sB):Option (sx×Int×Int) :=
 (am p0).bind λt13 =>
 (aV p0).bind λt15 =>
 (cond (!t15) (some (decide ((i1.length:Int)>0))) (some false)).bind λt21 =>
 cond t21
 (some (t13,3,1))
 ((loop (λz=>gH p0 i1 z.1 z.2.1 z.2.2.1 z.2.2.2.1 z.2.2.2.2.1 z.2.2.2.2.2.1 z.2.2.2.2.2.2.1 z.2.2.2.2.2.2.2.1 z.2.2.2.2.2.2.2.2.1 z.2.2.2.2.2.2.2.2.2.1 z.2.2.2.2.2.2.2.2.2.2.1 z.2.2.2.2.2.2.2.2.2.2.2.1 z.2.2.2.2.2.2.2.2.2.2.2.2.1 z.2.2.2.2.2.2.2.2.2.2.2.2.2.1 z.2.2.2.2.2.2.2.2.2.2.2.2.2.2.1 z.2.2.2.2.2.2.2.2.2.2.2.2.2.2.2.1 z.2.2.2.2.2.2.2.2.2.2.2.2.2.2.2.2.1 z.2.2.2.2.2.2.2.2.2.2.2.2.2.2.2.2.2.1 z.2.2.2.2.2.2.2.2.2.2.2.2.2.2.2.2.2.2.1 z.2.2.2.2.2.2.2.2.2.2.2.2.2.2.2.2.2.2.2.1 z.2.2.2.2.2.2.2.2.2.2.2.2.2.2.2.2.2.2.2.2.1 z.2.2.2.2.2.2.2.2.2.2.2.2.2.2.2.2.2.2.2.2.2.1 z.2.2.2.2.2.2.2.2.2.2.2.2.2.2.2.2.2.2.2.2.2.2) (0,0,[],0,0,0,0,0,t13.1,t13.2.1,t13.2.2.2.2.2.2.1,t13.2.2.2.2.2.2.2.1,t13.2.2.2.2.2.2.2.2.1,t13.2.2.2.2.2.2.2.2.2.1,t13.2.2.2.2.2.2.2.2.2.2,[],[],[],[],t13.2.2.1,t13.2.2.2.1,t13.2.2.2.2.1,t13.2.2.2.2.2.1)).bind (Sum.elim (λd_1 =>
 cond ((i1.length:Int)==0)
 (some ((d_1.2.2.2.2.2.2.2.1,d_1.2.2.2.2.2.2.2.2.1,d_1.2.2.2.2.2.2.2.2.2.2.2.2.2.2.2.2.2.2.1,d_1.2.2.2.2.2.2.2.2.2.2.2.2.2.2.2.2.2.2.2.1,d_1.2.2.2.2.2.2.2.2.2.2.2.2.2.2.2.2.2.2.2.2.1,d_1.2.2.2.2.2.2.2.2.2.2.2.2.2.2.2.2.2.2.2.2.2,d_1.2.2.2.2.2.2.2.2.2.1,d_1.2.2.2.2.2.2.2.2.2.2.1,d_1.2.2.2.2.2.2.2.2.2.2.2.1,d_1.2.2.2.2.2.2.2.2.2.2.2.2.1,d_1.2.2.2.2.2.2.2.2.2.2.2.2.2.1),0,0))
 ((aQ d_1.2.2.2.2.2.2.2.2.2.2.2.2.2.2.2.2.2.2.2.2 (d_1.2.2.2.2.2.2.2.2.2.2.2.2.2.2.2.2.2.2.1.length:Int)).bind λt75 =>
 cond (!t75)
 ((am p0).bind λt78 =>
 some (t78,5,(i1.length:Int)))
 ((bP (d_1.2.2.2.2.2.2.2.1,d_1.2.2.2.2.2.2.2.2.1,d_1.2.2.2.2.2.2.2.2.2.2.2.2.2.2.2.2.2.2.1,d_1.2.2.2.2.2.2.2.2.2.2.2.2.2.2.2.2.2.2.2.1,d_1.2.2.2.2.2.2.2.2.2.2.2.2.2.2.2.2.2.2.2.2.1,d_1.2.2.2.2.2.2.2.2.2.2.2.2.2.2.2.2.2.2.2.2.2,d_1.2.2.2.2.2.2.2.2.2.1,d_1.2.2.2.2.2.2.2.2.2.2.1,d_1.2.2.2.2.2.2.2.2.2.2.2.1,d_1.2.2.2.2.2.2.2.2.2.2.2.2.1,d_1.2.2.2.2.2.2.2.2.2.2.2.2.2.1)).bind λt82 =>
 some (t82,0,0)))) (λr_1=>some ((r_1.2.2.1,r_1.2.2.2.1,r_1.2.2.2.2.2.2.2.2.2.1,r_1.2.2.2.2.2.2.2.2.2.2.1,r_1.2.2.2.2.2.2.2.2.2.2.2.1,r_1.2.2.2.2.2.2.2.2.2.2.2.2,r_1.2.2.2.2.1,r_1.2.2.2.2.2.1,r_1.2.2.2.2.2.2.1,r_1.2.2.2.2.2.2.2.1,r_1.2.2.2.2.2.2.2.2.1),r_1.1,r_1.2.1))))
def mj:FL:=(177,⟨[.val true sX false,.val false (.one (.sl sS)) false],[.val true sX (some true),.val false sH (some true),.val false sH (some true)],λa=>gI a.1 a.2⟩)::mi
theorem r8:Gd mj:=sI r7 177 Tryz.f177 [(0,⟨⟨[(8,false,[dI])],[(2048,.box [dI,dS,.own 1000000000,.own 1000000001,.own 1000000002,.own 1000000003,dI,dI,dI,dI,dI]),(265216,.box [dI,dS,.own 1000000004,.own 1000000005,.own 1000000006,.own 1000000007,dI,dI,dI,dI,dI]),(1000000000,.root vc true),(1000000001,.root th true),(1000000002,.root u0 true),(1000000003,.root sH true),(1000000004,.root vc true),(1000000005,.root th true),(1000000006,.root u0 true),(1000000007,.root sH true)]⟩,
 ⟨[],[(2048,.box [dI,dS,.own 1000000300,.own 1000000301,.own 1000000302,.own 1000000303,dI,dI,dI,dI,dI]),(265216,.box [dI,dS,.own 1000000304,.own 1000000305,.own 1000000306,.own 1000000307,dI,dI,dI,dI,dI]),(1000000300,.root vc true),(1000000301,.root th true),(1000000302,.root u0 true),(1000000303,.root sH true),(1000000304,.root vc true),(1000000305,.root th true),(1000000306,.root u0 true),(1000000307,.root sH true)]⟩,some ⟨[(5,false,[dI]),(6,false,[dI])],[(2048,.box [dI,dS,.own 1000000600,.own 1000000601,.own 1000000602,.own 1000000603,dI,dI,dI,dI,dI]),(1000000600,.root vc true),(1000000601,.root th true),(1000000602,.root u0 true),(1000000603,.root sH true)]⟩⟩),
 (2,⟨⟨[(9,false,[dI])],[(2048,.box [dI,dS,.same 1000000000,.same 1000000001,.same 1000000002,.same 1000000003,dI,dI,dI,dI,dI])]⟩,
 ⟨[],[(2048,.box [dI,dS,.same 1000000000,.same 1000000001,.same 1000000002,.same 1000000003,dI,dI,dI,dI,dI])]⟩,some ⟨[(5,false,[dI]),(6,false,[dI])],[(2048,.box [dI,dS,.own 1000002600,.own 1000002601,.own 1000002602,.own 1000002603,dI,dI,dI,dI,dI]),(1000002600,.root vc true),(1000002601,.root th true),(1000002602,.root u0 true),(1000002603,.root sH true)]⟩⟩)] Tryz.func177
def fo (b0:sx) (p1:tg):Option (sx×tg) :=
 (cS p1.2.2.2.2).bind λt14 =>
 (gI b0 p1.2.2.2.2).bind λt20 =>
 (e9 (162,p1.2.1,t20.2.1,t20.2.2,t14)).bind λt29 =>
 (cond (!t29) (some true) (some (t20.2.1 != 0))).bind λt34 =>
 cond t34
 ((am b0).bind λt36 =>
 (cW (162,p1.2.1,t20.2.1,t20.2.2,t14) false).bind λt38 =>
 some (t36,t38))
 (some (t20.1,(162,p1.2.1,t20.2.1,t20.2.2,t14)))
def ml:FL:=(84,⟨[.val true sX false,.val true uN false],[.val true sX (some true),.val true uN (some true)],λa=>fo a.1 a.2⟩)::mj
theorem r9:Gd ml:=sI r8 84 Tryz.f84 [] Tryz.func84
def af (l0:List Int):Option (List Int) :=
 (sT ([1,3,1]:List Int) l0).bind λzs5 =>
 some zs5
def mn:FL:=(274,⟨[.val false vb false],[.val false vb (some true)],λa=>af a⟩)::ml
theorem ra:Gd mn:=sI r9 274 Tryz.f274 [] Tryz.func274
def ai (n0:Int):Option wl :=
 some (2,n0,[],[])
def mo:FL:=(197,⟨[.val false sH false],[.val true xB (some true)],λa=>ai a⟩)::mn
theorem rb:Gd mo:=sI ra 197 Tryz.f197 [] Tryz.func197
def aj (out0:List sB) (name1:List Int) (n2:Int):Option (List sB) :=
 (af name1).bind λt9 =>
 (ai n2).bind λt11 =>
 (sT out0 [(t9,t11.1,t11.2.1,t11.2.2.1,t11.2.2.2)]).bind λzs14 =>
 some zs14
def mp:FL:=(332,⟨[.val false (.one (.sl sS)) true,.val false vb false,.val false sH false],[.val false (.one (.sl sS)) (some true)],λa=>aj a.1 a.2.1 a.2.2⟩)::mo
theorem re:Gd mp:=sI rb 332 Tryz.f332 [] Tryz.func332
def gJ (b0:sx) (c1:Int) (p2:Int):Option Int :=
 cond (c1==1)
 ((at? b0.2.2.1 p2).bind λx13 =>
 cond x13.1 (some 1) (some 0))
 (cond (c1==2)
 ((at? b0.2.2.1 p2).bind λx21 =>
 some x21.2.1)
 (cond (c1==3)
 ((fj b0.1 b0.2.2.1 p2).bind λt31 =>
 some t31)
 ((at? b0.2.2.2.2.2.1 p2).bind λx36 =>
 some x36)))
def mq:FL:=(333,⟨[.val true sX false,.val false sH false,.val false sH false],[.val false sH (some true)],λa=>gJ a.1 a.2.1 a.2.2⟩)::mp
theorem rf:Gd mq:=sI re 333 Tryz.f333 [] Tryz.func333
def iu (r0:sM) (c1:Int):Option Int :=
 cond (c1==1) (some 1) (cond (c1==2) (some r0.2.1) (some r0.2.2))
def mr:FL:=(334,⟨[.val true u0 false,.val false sH false],[.val false sH (some true)],λa=>iu a.1 a.2⟩)::mq
theorem rj:Gd mr:=sI rf 334 Tryz.f334 [] Tryz.func334
def iv (p0:sx) (t4:Int) (t5:Int) (t3_1:List sB):Option ((Int×List sB)⊕(List sB)) :=
 cond (decide (t5<(p0.2.2.1.length:Int)))
 ((gJ p0 t4 t5).bind λt59 =>
 (aj t3_1 [2,t4,sy (t5+1)] t59).bind λt60 =>
 some (.inl (sy (t5+1),t60)))
 (some (.inr t3_1))
def iw (p0:sx) (t4:Int) (t3:List sB):Option ((Int×List sB)⊕(List sB)) :=
 cond (decide (t4<=4))
 ((loop (λz=>iv p0 t4 z.1 z.2) (0,t3)).bind λd =>
 some (.inl (sy (t4+1),d)))
 (some (.inr t3))
def iy (p0:sx) (t6:Int) (t7:Int) (t3_5:List sB):Option ((Int×List sB)⊕(List sB)) :=
 cond (decide (t7<(p0.2.2.2.2.1.length:Int)))
 ((at? p0.2.2.2.2.1 t7).bind λx79 =>
 (at? p0.2.2.2.2.1 t7).bind λx87 =>
 (iu x87 t6).bind λt90 =>
 (aj t3_5 [3,t6,x79.1] t90).bind λt91 =>
 some (.inl (sy (t7+1),t91)))
 (some (.inr t3_5))
def fp (p0:sx) (t6:Int) (t3_4:List sB):Option ((Int×List sB)⊕(List sB)) :=
 cond (decide (t6<=3))
 ((loop (λz=>iy p0 t6 z.1 z.2) (0,t3_4)).bind λd_2 =>
 some (.inl (sy (t6+1),d_2)))
 (some (.inr t3_4))
def iz (p0:sx) (t8:Int) (t3_8:List sB):Option ((Int×List sB)⊕(List sB)) :=
 cond (decide (t8<(p0.2.2.2.1.length:Int)))
 ((at? p0.2.2.2.1 t8).bind λx103 =>
 (at? p0.2.2.2.1 t8).bind λx109 =>
 (at? p0.2.2.2.1 t8).bind λx116 =>
 (aj t3_8 [4,1,x103.1,x109.2.1] (sy (x116.2.2.1+1))).bind λt120 =>
 some (.inl (sy (t8+1),t120)))
 (some (.inr t3_8))
def cY (p0:sx):Option (List sB) :=
 (aV p0).bind λt10 =>
 cond (!t10)
 (some ([]:List sB))
 ((af ([1,1]:List Int)).bind λt14 =>
 (aj ([(t14,4,0,p0.2.1,[])]) ([1,2]:List Int) p0.2.2.2.2.2.2.1).bind λt24 =>
 (aj t24 ([1,3]:List Int) p0.2.2.2.2.2.2.2.1).bind λt29 =>
 (aj t29 ([1,4]:List Int) p0.2.2.2.2.2.2.2.2.1).bind λt34 =>
 (aj t34 ([1,5]:List Int) p0.2.2.2.2.2.2.2.2.2.1).bind λt39 =>
 (loop (λz=>iw p0 z.1 z.2) (1,t39)).bind λd_1 =>
 (loop (λz=>fp p0 z.1 z.2) (1,d_1)).bind λd_3 =>
 (loop (λz=>iz p0 z.1 z.2) (0,d_3)).bind λd_4 =>
 some d_4)
def mt:FL:=(273,⟨[.val true sX false],[.val false (.one (.sl sS)) (some true)],λa=>cY a⟩)::mr
theorem rk:Gd mt:=sI rj 273 Tryz.f273 [(0,⟨⟨[(3,false,[.own 1000000000]),(4,false,[dI])],[(1000000000,.root sS true)]⟩,
 ⟨[(3,false,[.own 1000000300])],[(1000000300,.root sS true)]⟩,none⟩),
 (2,⟨⟨[(3,false,[.own 1000002000]),(5,false,[dI])],[(1000002000,.root sS true)]⟩,
 ⟨[(3,false,[.own 1000002300])],[(1000002300,.root sS true)]⟩,none⟩),
 (4,⟨⟨[(3,false,[.own 1000004000]),(6,false,[dI])],[(1000004000,.root sS true)]⟩,
 ⟨[(3,false,[.own 1000004300])],[(1000004300,.root sS true)]⟩,none⟩),
 (6,⟨⟨[(3,false,[.own 1000006000]),(7,false,[dI])],[(1000006000,.root sS true)]⟩,
 ⟨[(3,false,[.own 1000006300])],[(1000006300,.root sS true)]⟩,none⟩),
 (8,⟨⟨[(3,false,[.own 1000008000]),(8,false,[dI])],[(1000008000,.root sS true)]⟩,
 ⟨[(3,false,[.own 1000008300])],[(1000008300,.root sS true)]⟩,none⟩)] Tryz.func273
def rl (a0:List Int) (b1:List Int) (i5:Int):Option (Int⊕(Unit⊕Bool)) :=
 (cond (decide (i5<(a0.length:Int))) (some (decide (i5<(b1.length:Int)))) (some false)).bind λt15 =>
 cond t15
 ((at? a0 i5).bind λx20 =>
 (at? b1 i5).bind λx24 =>
 cond (x20 != x24)
 ((at? a0 i5).bind λx29 =>
 (at? b1 i5).bind λx33 =>
 some (.inr (.inr (decide (x29<x33)))))
 (some (.inl (sy (i5+1)))))
 (some (.inr (.inl ())))
def iA (a0:List Int) (b1:List Int):Option Bool :=
 (loop (λz=>rl a0 b1 z) 0).bind (Sum.elim (λd =>
 let t4:=decide ((a0.length:Int)<(b1.length:Int))
 some t4) (λr=>some r))
def mu:FL:=(343,⟨[.val false vb false,.val false vb false],[.val false tK (some true)],λa=>iA a.1 a.2⟩)::mt
theorem rm:Gd mu:=sI rk 343 Tryz.f343 [(0,⟨⟨(5,false,[dI])::us 11 4 [],[]⟩,
 ⟨[],[]⟩,some ⟨[(4,false,[dB])],[]⟩⟩)] Tryz.func343
def iB (o1:List Int) (t8:List sB) (i6:Int) (b1:Int) (b2:Int) (b3:List UInt8) (b0_1:List Int) (b4:List Int):Option ((Int×Int×Int×List UInt8×List Int×List Int)⊕((Int×Int×List UInt8×List Int×List Int)⊕(List Int×Int×Int×List UInt8×List Int))) :=
 cond (decide (i6<(t8.length:Int)))
 ((ix t8.length i6).bind λj18 =>
 (t8[j18]?).bind λx20 =>
 (iA o1 x20.1).bind λt21 =>
 cond t21
 ((ix t8.length i6).bind λj24 =>
 (t8[j24]?).bind λx25 =>
 some (.inr (.inr x25)))
 (some (.inl (sy (i6+1),b1,b2,b3,b0_1,b4))))
 (some (.inr (.inl (b1,b2,b3,b0_1,b4))))
def gK (b0:sx) (o1:List Int):Option sB :=
 (cY b0).bind λt8 =>
 (loop (λz=>iB o1 t8 z.1 z.2.1 z.2.2.1 z.2.2.2.1 z.2.2.2.2.1 z.2.2.2.2.2) (0,0,0,[],[],[])).bind (Sum.elim (λd =>
 (sT ([]:List Int) o1).bind λzs28 =>
 some (zs28,130,0,[],[])) (λr=>some r))
def mw:FL:=(292,⟨[.val true sX false,.val false vb false],[.val true sS none],λa=>gK a.1 a.2⟩)::mu
theorem rn:Gd mw:=sI rm 292 Tryz.f292 [(0,⟨⟨[(6,false,[dI])],[(2048,.box [.own 1000000000,dI,dI,dS,.own 1000000001]),(1000000000,.root sH true),(1000000001,.root sH true)]⟩,
 ⟨[],[(2048,.box [.own 1000000300,dI,dI,dS,.own 1000000301]),(1000000300,.root sH true),(1000000301,.root sH true)]⟩,some ⟨[],[(2048,.box [.dat (.sl sH),dI,dI,dS,.dat (.sl sH)])]⟩⟩)] Tryz.func292
def fq (b0:sx) (from1:List sB) (i6:Int) (out5:List sB):Option ((Int×List sB)⊕(List sB)) :=
 cond (decide (i6<(from1.length:Int)))
 ((at? from1 i6).bind λx16 =>
 cond (x16.2.1==130)
 ((at? from1 i6).bind λx24 =>
 (sT out5 [x24]).bind λzs27 =>
 some (.inl (sy (i6+1),zs27)))
 ((at? from1 i6).bind λx32 =>
 (gK b0 x32.1).bind λt35 =>
 (sT out5 [t35]).bind λzs37 =>
 some (.inl (sy (i6+1),zs37))))
 (some (.inr out5))
def bx (b0:sx) (from1:List sB):Option (List sB) :=
 (loop (λz=>fq b0 from1 z.1 z.2) (0,([]:List sB))).bind λd =>
 some d
def my:FL:=(178,⟨[.val true sX false,.val false (.one (.sl sS)) false],[.val false (.one (.sl sS)) (some false)],λa=>bx a.1 a.2⟩)::mw
theorem rp:Gd my:=sI rn 178 Tryz.f178 [(0,⟨⟨[(5,false,[.own 1000000000]),(6,false,[dI])],[(1000000000,.root sS false)]⟩,
 ⟨[(5,false,[.own 1000000300])],[(1000000300,.root sS false)]⟩,none⟩)] Tryz.func178
def fr (l0:List sB) (i4:Int) (out3:List sB):Option ((Int×List sB)⊕(List sB)) :=
 cond (decide (i4<(l0.length:Int)))
 ((at? l0 i4).bind λx15 =>
 (sT out3 ([(x15.1,5,0,[],[])])).bind λzs21 =>
 some (.inl (sy (i4+1),zs21)))
 (some (.inr out3))
def cZ (l0:List sB):Option (List sB) :=
 (loop (λz=>fr l0 z.1 z.2) (0,([]:List sB))).bind λd =>
 some d
def mz:FL:=(179,⟨[.val false (.one (.sl sS)) false],[.val false (.one (.sl sS)) (some false)],λa=>cZ a⟩)::my
theorem rq:Gd mz:=sI rp 179 Tryz.f179 [(0,⟨⟨[(3,false,[.own 1000000000]),(4,false,[dI])],[(1000000000,.root sS false)]⟩,
 ⟨[(3,false,[.own 1000000300])],[(1000000300,.root sS false)]⟩,none⟩)] Tryz.func179
def bL (b0:sx) (p1:tg) (told8:List sB) (i9:Int) (out7:List sB):Option ((List sB×Int×List sB)⊕(List sB)) :=
 (cond (decide (i9<p1.2.2.2.1)) (some (decide ((told8.length:Int)>0))) (some false)).bind λt39 =>
 (cond t39 (some (decide ((out7.length:Int)<10))) (some false)).bind λt44 =>
 cond t44
 ((bx b0 told8).bind λt49 =>
 (sT out7 t49).bind λzs52 =>
 some (.inl (t49,sy (i9+1),zs52)))
 (some (.inr out7))
def rr (b0:sx) (p1:tg) (told8_1:List sB) (i9_1:Int) (out7_2:List sB):Option ((List sB×Int×List sB)⊕(List sB)) :=
 (cond (decide (i9_1<p1.2.2.2.1)) (some (decide ((told8_1.length:Int)>0))) (some false)).bind λt39_1 =>
 (cond t39_1 (some (decide ((out7_2.length:Int)<10))) (some false)).bind λt44_1 =>
 cond t44_1
 ((bx b0 told8_1).bind λt49_1 =>
 (sT out7_2 t49_1).bind λzs52_1 =>
 some (.inl (t49_1,sy (i9_1+1),zs52_1)))
 (some (.inr out7_2))
def gL (b0:sx) (p1:tg):Option (List sB) :=
 cond (decide (p1.2.2.1>(p1.2.2.2.2.length:Int)))
 (let k5:=(p1.2.2.2.2.length:Int)
 (cZ p1.2.2.2.2).bind λt22 =>
 (uG t22.length 0 k5).bind λp =>
 (bx b0 ((t22.take p.2).drop p.1)).bind λt27 =>
 (cut t22 k5 (t22.length:Int)).bind λt30 =>
 (loop (λz=>bL b0 p1 z.1 z.2.1 z.2.2) (t30,0,t27)).bind λd =>
 cond (decide ((d.length:Int)>10))
 ((uG d.length 0 10).bind λp_1 =>
 some ((d.take p_1.2).drop p_1.1))
 (some d))
 ((cZ p1.2.2.2.2).bind λt22_1 =>
 (uG t22_1.length 0 p1.2.2.1).bind λp_2 =>
 (bx b0 ((t22_1.take p_2.2).drop p_2.1)).bind λt27_1 =>
 (cut t22_1 p1.2.2.1 (t22_1.length:Int)).bind λt30_1 =>
 (loop (λz=>rr b0 p1 z.1 z.2.1 z.2.2) (t30_1,0,t27_1)).bind λd_1 =>
 cond (decide ((d_1.length:Int)>10))
 ((uG d_1.length 0 10).bind λp_3 =>
 some ((d_1.take p_3.2).drop p_3.1))
 (some d_1))
def mC:FL:=(180,⟨[.val true sX false,.val true uN false],[.val false (.one (.sl sS)) (some false)],λa=>gL a.1 a.2⟩)::mz
theorem ru:Gd mC:=sI rq 180 Tryz.f180 [(0,⟨⟨(7,false,[.own 1000000000])::(8,false,[.dat (.sl sS)])::(9,false,[dI])::us 36 3 (us 41 3 []),[(1000000000,.root sS false)]⟩,
 ⟨[(7,false,[.own 1000000300])],[(1000000300,.root sS false)]⟩,none⟩)] Tryz.func180
def iC (o1:List Int) (t8:List sB) (i6:Int) (b0_1:Int) (b1:Int) (b2:List UInt8) (b3:List Int):Option ((Int×Int×Int×List UInt8×List Int)⊕((Int×Int×List UInt8×List Int)⊕(Int×Int×List UInt8×List Int))) :=
 cond (decide (i6<(t8.length:Int)))
 ((ix t8.length i6).bind λj17 =>
 (t8[j17]?).bind λx19 =>
 (cX x19.1 o1).bind λt21 =>
 cond t21
 ((ix t8.length i6).bind λj24 =>
 (t8[j24]?).bind λx26 =>
 some (.inr (.inr x26.2)))
 (some (.inl (sy (i6+1),b0_1,b1,b2,b3))))
 (some (.inr (.inl (b0_1,b1,b2,b3))))
def gM (b0:sx) (o1:List Int):Option wl :=
 (cY b0).bind λt8 =>
 (loop (λz=>iC o1 t8 z.1 z.2.1 z.2.2.1 z.2.2.2.1 z.2.2.2.2) (0,0,0,[],[])).bind (Sum.elim (λd =>
 some (128,0,[],[])) (λr=>some r))
def mD:FL:=(181,⟨[.val true sX false,.val false vb false],[.val true xB none],λa=>gM a.1 a.2⟩)::mC
theorem rz:Gd mD:=sI ru 181 Tryz.f181 [(0,⟨⟨[(6,false,[dI])],[(2048,.box [dI,dI,dS,.own 1000000000]),(1000000000,.root sH true)]⟩,
 ⟨[],[(2048,.box [dI,dI,dS,.own 1000000300]),(1000000300,.root sH true)]⟩,some ⟨[],[(2048,.box [dI,dI,dS,.dat (.sl sH)])]⟩⟩)] Tryz.func181
def ee (b0:sx) (p1:tg) (i6:Int) (out5:List sB):Option ((Int×List sB)⊕(List sB)) :=
 cond (decide (i6<(p1.2.2.2.2.length:Int)))
 ((at? p1.2.2.2.2 i6).bind λx34 =>
 (sT ([]:List Int) x34.1).bind λzs37 =>
 (at? p1.2.2.2.2 i6).bind λx42 =>
 (gM b0 x42.1).bind λt45 =>
 (sT out5 [(zs37,t45.1,t45.2.1,t45.2.2.1,t45.2.2.2)]).bind λzs48 =>
 some (.inl (sy (i6+1),zs48)))
 (some (.inr out5))
def gN (b0:sx) (p1:tg):Option (List sB) :=
 cond (p1.1==161)
 ((cZ p1.2.2.2.2).bind λt14 =>
 (bx b0 t14).bind λt15 =>
 some t15)
 (cond (p1.1==165)
 ((gL b0 p1).bind λt20 =>
 some t20)
 ((loop (λz=>ee b0 p1 z.1 z.2) (0,([]:List sB))).bind λd =>
 some d))
def mE:FL:=(86,⟨[.val true sX false,.val true uN false],[.val false (.one (.sl sS)) (some false)],λa=>gN a.1 a.2⟩)::mD
theorem rA:Gd mE:=sI rz 86 Tryz.f86 [(1,⟨⟨[(5,false,[.own 1000001000]),(6,false,[dI])],[(1000001000,.root sS false)]⟩,
 ⟨[(5,false,[.own 1000001300])],[(1000001300,.root sS false)]⟩,none⟩)] Tryz.func86
def gO (b0:sx) (p1:tg):Option (sx×tg×Bool) :=
 (ig b0 p1).bind λt12 =>
 cond (!t12)
 ((am b0).bind λt15 =>
 some (t15,(0,0,0,0,[]),false))
 (cond (p1.1==163)
 ((fo b0 p1).bind λt23 =>
 some (t23.1,t23.2,true))
 ((gN b0 p1).bind λt32 =>
 (cS t32).bind λt33 =>
 (am b0).bind λt36 =>
 (cW (162,p1.2.1,0,0,t33) (p1.1==165)).bind λt41 =>
 some (t36,t41,true)))
def mF:FL:=(14,⟨[.val true sX false,.val true uN false],[.val true sX (some true),.val true uN (some true),.val false tK (some true)],λa=>gO a.1 a.2⟩)::mE
theorem rB:Gd mF:=sI rA 14 Tryz.f14 [] Tryz.func14
def da (p0:List Int) (i1:Int):Option (Int×(List Int)×Int×Bool) :=
 (cond (decide (i1<0)) (some true) (some (decide (i1>=(p0.length:Int))))).bind λt17 =>
 (cond t17 (some true) (some (decide ((sy (i1+1))>=(p0.length:Int))))).bind λt24 =>
 cond t24
 (some (0,([]:List Int),0,false))
 ((at? p0 (sy (i1+1))).bind λx29 =>
 cond (decide ((sy (x29))>127))
 ((cond ((sy (x29)) != 129) (some true) (some (decide ((sy (i1+2))>=(p0.length:Int))))).bind λt43 =>
 (cond t43
 (some true)
 ((at? p0 (sy (i1+2))).bind λx47 =>
 some (decide (x47<128)))).bind λt50 =>
 cond t50
 (some (0,([]:List Int),0,false))
 ((at? p0 (sy (i1+2))).bind λx54 =>
 (cond (decide ((sy (x54))>250))
 (some true)
 (some (decide ((sy (x54))>(sy ((p0.length:Int)-(sy ((sy (i1+2))+1)))))))).bind λt68 =>
 cond t68
 (some (0,([]:List Int),0,false))
 ((at? p0 i1).bind λx72 =>
 (cut p0 (sy ((sy (i1+2))+1)) (sy ((sy ((sy (i1+2))+1))+(sy (x54))))).bind λt81 =>
 (sT ([]:List Int) t81).bind λzs82 =>
 let t6:=sy ((sy ((sy (i1+2))+1))+(sy (x54)))
 some (sy (x72),zs82,t6,true))))
 ((cond (decide ((sy (x29))>250))
 (some true)
 (some (decide ((sy (x29))>(sy ((p0.length:Int)-(sy (i1+2)))))))).bind λt68_1 =>
 cond t68_1
 (some (0,([]:List Int),0,false))
 ((at? p0 i1).bind λx72_1 =>
 (cut p0 (sy (i1+2)) (sy ((sy (i1+2))+(sy (x29))))).bind λt81_1 =>
 (sT ([]:List Int) t81_1).bind λzs82_1 =>
 let t6_1:=sy ((sy (i1+2))+(sy (x29)))
 some (sy (x72_1),zs82_1,t6_1,true))))
def mG:FL:=(237,⟨[.val false uh false,.val false sH false],[.val false sH (some true),.val false uh (some true),.val false sH (some true),.val false tK (some true)],λa=>da a.1 a.2⟩)::mF
theorem rC:Gd mG:=sI rB 237 Tryz.f237 [] Tryz.func237
def bM (r0:uX) (tag1:Int):Option (uX×List Int) :=
 (da r0.1 r0.2.1).bind λt18 =>
 (cond r0.2.2 (some true) (some (!t18.2.2.2))).bind λt30 =>
 (cond t30 (some true) (some (t18.1 != tag1))).bind λt35 =>
 cond t35
 (some ((r0.1,r0.2.1,true),([]:List Int)))
 (some ((r0.1,t18.2.2.1,r0.2.2),t18.2.1))
def mH:FL:=(239,⟨[.ptr xh none,.val false sH false],[.val false uh (some true)],λa=>bM a.1 a.2⟩)::mG
theorem rD:Gd mH:=sI rC 239 Tryz.f239 [] Tryz.func239
def ef (b0:List Int) (n4:Int) (i5:Int):Option ((Int×Int)⊕Int) :=
 cond (decide (i5<(b0.length:Int)))
 ((at? b0 i5).bind λx28 =>
 let n4_1:=zZ .i64 (sy (n4*2^8)) (sy (x28))
 some (.inl (n4_1,sy (i5+1))))
 (some (.inr n4))
def eg (b0:List Int) (n4_3:Int) (i5_1:Int):Option ((Int×Int)⊕Int) :=
 cond (decide (i5_1<(b0.length:Int)))
 ((at? b0 i5_1).bind λx28_1 =>
 let n4_4:=zZ .i64 (sy (n4_3*2^8)) (sy (x28_1))
 some (.inl (n4_4,sy (i5_1+1))))
 (some (.inr n4_3))
def ft (b0:List Int):Option (Int×Bool) :=
 (ae (b0.length:Int) 1 4).bind λt8 =>
 cond (!t8)
 (some (0,false))
 ((at? b0 0).bind λx11 =>
 cond (decide ((sy (x11))>127))
 ((loop (λz=>ef b0 z.1 z.2) (sy ((sy (x11))-256),1)).bind λd =>
 (aU d).bind λt33 =>
 cond ((t33.length:Int) != (b0.length:Int)) (some (0,false)) (some (d,true)))
 ((loop (λz=>eg b0 z.1 z.2) (sy (x11),1)).bind λd_1 =>
 (aU d_1).bind λt33_1 =>
 cond ((t33_1.length:Int) != (b0.length:Int)) (some (0,false)) (some (d_1,true))))
def mI:FL:=(320,⟨[.val false uh false],[.val false sH (some true),.val false tK (some true)],λa=>ft a⟩)::mH
theorem rE:Gd mI:=sI rD 320 Tryz.f320 [(0,⟨⟨[(4,false,[dI]),(5,false,[dI])],[]⟩,
 ⟨[(4,false,[dI])],[]⟩,none⟩)] Tryz.func320
def de (r0:uX):Option (uX×Int) :=
 (bM r0 2).bind λt7 =>
 (ft t7.2).bind λt8 =>
 (cond t7.1.2.2 (some true) (some (!t8.2))).bind λt19 =>
 some ((t7.1.1,t7.1.2.1,t19),t8.1)
def mJ:FL:=(238,⟨[.ptr xh none],[.val false sH (some true)],λa=>de a⟩)::mI
theorem rF:Gd mJ:=sI rE 238 Tryz.f238 [] Tryz.func238
def aI (p0:List Int) (t5_1:Int) (t6:Int) (t7:Int) (t8:Bool):Option ((Int×Int×Int×Bool)⊕(Int×Int×Int×Bool)) :=
 (cond t8 (some (decide (t5_1<(p0.length:Int)))) (some false)).bind λt25 =>
 (cond t25 (some (decide (t7<4))) (some false)).bind λt29 =>
 cond t29
 ((at? p0 t5_1).bind λx34 =>
 let t6_1:=zZ .i64 (sy (t6*2^7)) (sy (wh .u8 x34 127))
 (at? p0 t5_1).bind λx41 =>
 some (.inl (sy (t5_1+1),t6_1,sy (t7+1),decide (x41>127))))
 (some (.inr (t5_1,t6,t7,t8)))
def ar (p0:List Int) (t5:Int) (t4:List Int):Option ((Int×List Int)⊕((Int×List Int)⊕(Bool×List Int))) :=
 (cond (decide (t5<(p0.length:Int))) (some (decide ((t4.length:Int)<=10))) (some false)).bind λt18 =>
 cond t18
 ((loop (λz=>aI p0 z.1 z.2.1 z.2.2.1 z.2.2.2) (t5,0,0,true)).bind λd =>
 (cond d.2.2.2
 (some true)
 ((dZ d.2.1).bind λt51 =>
 some ((t51.length:Int) != d.2.2.1))).bind λt55 =>
 cond t55
 (some (.inr (.inr (false,([]:List Int)))))
 ((sT t4 [d.2.1]).bind λzs60 =>
 some (.inl (d.1,zs60))))
 (some (.inr (.inl (t5,t4))))
def cl (p0:List Int):Option ((List Int)×Bool) :=
 (loop (λz=>ar p0 z.1 z.2) (0,([]:List Int))).bind (Sum.elim (λd_1 =>
 (cond (d_1.1 != (p0.length:Int))
 (some true)
 ((bJ d_1.2).bind λt67 =>
 some (!t67))).bind λt69 =>
 cond t69 (some (([]:List Int),false)) (some (d_1.2,true))) (λr=>some (r.2,r.1)))
def mK:FL:=(353,⟨[.val false uh false],[.val false vb (some true),.val false tK (some true)],λa=>cl a⟩)::mJ
theorem rG:Gd mK:=sI rF 353 Tryz.f353 [(0,⟨⟨(4,false,[.own 1000000000])::(5,false,[dI])::us 15 3 (us 21 4 (us 27 2 (us 50 5 []))),[(1000000000,.root sH true)]⟩,
 ⟨[(4,false,[.own 1000000300]),(5,false,[dI])],[(1000000300,.root sH true)]⟩,some ⟨[(2,false,[.own 1000000600]),(3,false,[dB])],[(1000000600,.root sH true)]⟩⟩),
 (2,⟨⟨(5,false,[dI])::(6,false,[dI])::(7,false,[dI])::(8,false,[dB])::us 21 4 (us 27 2 []),[]⟩,
 ⟨(5,false,[dI])::(6,false,[dI])::(7,false,[dI])::(8,false,[dB])::us 21 4 (us 27 2 []),[]⟩,none⟩)] Tryz.func353
def gP (b0:List Int) (at1:Int):Option (wl×Int×Bool) :=
 (da b0 at1).bind λt16 =>
 cond (t16.1==2)
 ((ft t16.2.1).bind λt31 =>
 (cond (!t16.2.2.2) (some true) (some (!t31.2))).bind λt53 =>
 (cond t53
 (some true)
 ((bv (t16.1,t31.1,[],[])).bind λt56 =>
 some (!t56))).bind λt58 =>
 cond t58
 (some ((0,0,[],[]),0,false))
 (some ((t16.1,t31.1,[],[]),t16.2.2.1,true)))
 (cond (t16.1==4)
 ((cond (!t16.2.2.2) (some true) (some (!true))).bind λt53_1 =>
 (cond t53_1
 (some true)
 ((bv (t16.1,0,uf t16.2.1,[])).bind λt56_1 =>
 some (!t56_1))).bind λt58_1 =>
 cond t58_1
 (some ((0,0,[],[]),0,false))
 (some ((t16.1,0,uf t16.2.1,[]),t16.2.2.1,true)))
 (cond (t16.1==6)
 ((cl t16.2.1).bind λt44 =>
 (cond (!t16.2.2.2) (some true) (some (!t44.2))).bind λt53_2 =>
 (cond t53_2
 (some true)
 ((bv (t16.1,0,[],t44.1)).bind λt56_2 =>
 some (!t56_2))).bind λt58_2 =>
 cond t58_2
 (some ((0,0,[],[]),0,false))
 (some ((t16.1,0,[],t44.1),t16.2.2.1,true)))
 (let is12:=(t16.2.1.length:Int)==0
 (cond (!t16.2.2.2) (some true) (some (!is12))).bind λt53_3 =>
 (cond t53_3
 (some true)
 ((bv (t16.1,0,[],[])).bind λt56_3 =>
 some (!t56_3))).bind λt58_3 =>
 cond t58_3
 (some ((0,0,[],[]),0,false))
 (some ((t16.1,0,[],[]),t16.2.2.1,true)))))
def mL:FL:=(354,⟨[.val false uh false,.val false sH false],[.val true xB (some true),.val false sH (some true),.val false tK (some true)],λa=>gP a.1 a.2⟩)::mK
theorem rH:Gd mL:=sI rG 354 Tryz.f354 [] Tryz.func354
def gQ (b0:List Int):Option (sB×Bool) :=
 (bM (b0,0,false) 6).bind λt15 =>
 (cl t15.2).bind λt16 =>
 (gP b0 t15.1.2.1).bind λt25 =>
 (cond t15.1.2.2 (some true) (some (!t16.2))).bind λt36 =>
 (cond t36 (some true) (some (!t25.2.2))).bind λt40 =>
 (cond t40 (some true) (some (t25.2.1 != (b0.length:Int)))).bind λt46 =>
 cond t46
 (some (([],0,0,[],[]),false))
 (some ((t16.1,t25.1.1,t25.1.2.1,t25.1.2.2.1,t25.1.2.2.2),true))
def mM:FL:=(321,⟨[.val false uh false],[.val true sS (some true),.val false tK (some true)],λa=>gQ a⟩)::mL
theorem rI:Gd mM:=sI rH 321 Tryz.f321 [] Tryz.func321
def au (b0:List Int) (b1:Int) (b2:Bool) (b0_1:Int) (b1_1:Int) (b2_1:Int) (b3:Int) (b0_2:List Int) (b1_2:Int) (b2_2:Bool) (b4:List sB):Option ((List Int×Int×Bool×Int×Int×Int×Int×List Int×Int×Bool×List sB)⊕(List Int×Int×Bool×Int×Int×Int×Int×List Int×Int×Bool×List sB)) :=
 (cond (!b2) (some (decide (b1_2<(b0_2.length:Int)))) (some false)).bind λt54 =>
 (cond t54 (some (decide ((b4.length:Int)<=10))) (some false)).bind λt60 =>
 cond t60
 ((bM (b0_2,b1_2,b2_2) 48).bind λt63 =>
 (gQ t63.2).bind λt64 =>
 (cond t63.1.2.2 (some true) (some (!t64.2))).bind λt75 =>
 (sT b4 [t64.1]).bind λzs82 =>
 some (.inl (b0,b1,t75,b0_1,b1_1,b2_1,b3,t63.1.1,t63.1.2.1,t63.1.2.2,zs82)))
 (some (.inr (b0,b1,b2,b0_1,b1_1,b2_1,b3,b0_2,b1_2,b2_2,b4)))
def gR (p0:List Int):Option (tg×Bool) :=
 (da p0 0).bind λt15 =>
 (de (t15.2.1,0,false)).bind λt26 =>
 (de t26.1).bind λt29 =>
 (de t29.1).bind λt32 =>
 (bM t32.1 48).bind λt35 =>
 (loop (λz=>au z.1 z.2.1 z.2.2.1 z.2.2.2.1 z.2.2.2.2.1 z.2.2.2.2.2.1 z.2.2.2.2.2.2.1 z.2.2.2.2.2.2.2.1 z.2.2.2.2.2.2.2.2.1 z.2.2.2.2.2.2.2.2.2.1 z.2.2.2.2.2.2.2.2.2.2) (t35.1.1,t35.1.2.1,t35.1.2.2,t15.1,t26.2,t29.2,t32.2,t35.2,0,false,[])).bind λd =>
 (cond (!t15.2.2.2) (some true) (some (t15.2.2.1 != (p0.length:Int)))).bind λt91 =>
 (cond t91 (some true) (some d.2.2.1)).bind λt97 =>
 (cond t97 (some true) (some (d.2.1 != (t15.2.1.length:Int)))).bind λt106 =>
 (cond t106
 (some true)
 (some (d.2.2.2.2.2.2.2.2.1 != (d.2.2.2.2.2.2.2.1.length:Int)))).bind λt118 =>
 (cond t118
 (some true)
 ((bK (d.2.2.2.1,d.2.2.2.2.1,d.2.2.2.2.2.1,d.2.2.2.2.2.2.1,d.2.2.2.2.2.2.2.2.2.2)).bind λt121 =>
 some (!t121))).bind λt123 =>
 cond t123
 (some ((0,0,0,0,[]),false))
 (some ((d.2.2.2.1,d.2.2.2.2.1,d.2.2.2.2.2.1,d.2.2.2.2.2.2.1,d.2.2.2.2.2.2.2.2.2.2),true))
def mN:FL:=(240,⟨[.val false uh false],[.val true uN (some true),.val false tK (some true)],λa=>gR a⟩)::mM
theorem rJ:Gd mN:=sI rI 240 Tryz.f240 [(0,⟨⟨us 44 10 (us 56 4 (us 73 2 [])),[(527360,.box [.dat (.sl (.one (.int .u8))),dI,dB]),(789504,.box [dI,dI,dI,dI,.own 1000000000]),(1839104,.box [.dat (.sl (.one (.int .u8))),dI,dB]),(1000000000,.root sS true)]⟩,
 ⟨[],[(527360,.box [.dat (.sl (.one (.int .u8))),dI,dB]),(789504,.box [dI,dI,dI,dI,.own 1000000300]),(1839104,.box [.dat (.sl (.one (.int .u8))),dI,dB]),(1000000300,.root sS true)]⟩,none⟩)] Tryz.func240
def dV (p0:List UInt8) (i1:List Int):Option (tg×Int) :=
 (da i1 0).bind λt17 =>
 (de (t17.2.1,0,false)).bind λt26 =>
 (bM t26.1 4).bind λt28 =>
 (cond (!t17.2.2.2) (some true) (some (t17.1 != 48))).bind λt34 =>
 (cond t34 (some true) (some (t17.2.2.1 != (i1.length:Int)))).bind λt40 =>
 (cond t40 (some true) (some t28.1.2.2)).bind λt46 =>
 cond t46
 (some ((0,0,0,0,[]),1))
 (cond (t26.2 != 1)
 (some ((0,0,0,0,[]),2))
 (cond (!((uf t28.2)==p0))
 (some ((0,0,0,0,[]),3))
 ((cut t17.2.1 t28.1.2.1 (t17.2.1.length:Int)).bind λt62 =>
 (gR t62).bind λt63 =>
 cond (!t63.2) (some ((0,0,0,0,[]),1)) (some (t63.1,0)))))
def mO:FL:=(136,⟨[.val false Hx false,.val false uh false],[.val true uN (some true),.val false sH (some true)],λa=>dV a.1 a.2⟩)::mN
theorem rK:Gd mO:=sI rJ 136 Tryz.f136 [] Tryz.func136
def fu (a0:sL) (k1:Int):Option sL :=
 (ix a0.2.2.2.2.2.2.2.2.2.2.2.2.1.length k1).bind λj9 =>
 (a0.2.2.2.2.2.2.2.2.2.2.2.2.1[j9]?).bind λx =>
 (am (a0.1,a0.2.1,a0.2.2.1,a0.2.2.2.1,a0.2.2.2.2.1,a0.2.2.2.2.2.1,a0.2.2.2.2.2.2.1,a0.2.2.2.2.2.2.2.1,a0.2.2.2.2.2.2.2.2.1,a0.2.2.2.2.2.2.2.2.2.1,a0.2.2.2.2.2.2.2.2.2.2.1)).bind λt20 =>
 (ix (a0.2.2.2.2.2.2.2.2.2.2.2.2.1.set j9 (x.1,x.2.1,1,x.2.2.2.1,x.2.2.2.2.1,x.2.2.2.2.2.1,x.2.2.2.2.2.2.1,x.2.2.2.2.2.2.2.1,x.2.2.2.2.2.2.2.2.1,x.2.2.2.2.2.2.2.2.2.1,x.2.2.2.2.2.2.2.2.2.2.1,x.2.2.2.2.2.2.2.2.2.2.2.1,x.2.2.2.2.2.2.2.2.2.2.2.2.1,x.2.2.2.2.2.2.2.2.2.2.2.2.2.1,x.2.2.2.2.2.2.2.2.2.2.2.2.2.2.1,x.2.2.2.2.2.2.2.2.2.2.2.2.2.2.2.1,x.2.2.2.2.2.2.2.2.2.2.2.2.2.2.2.2.1,x.2.2.2.2.2.2.2.2.2.2.2.2.2.2.2.2.2.1,x.2.2.2.2.2.2.2.2.2.2.2.2.2.2.2.2.2.2.1,x.2.2.2.2.2.2.2.2.2.2.2.2.2.2.2.2.2.2.2.1,x.2.2.2.2.2.2.2.2.2.2.2.2.2.2.2.2.2.2.2.2)).length k1).bind λj21 =>
 ((a0.2.2.2.2.2.2.2.2.2.2.2.2.1.set j9 (x.1,x.2.1,1,x.2.2.2.1,x.2.2.2.2.1,x.2.2.2.2.2.1,x.2.2.2.2.2.2.1,x.2.2.2.2.2.2.2.1,x.2.2.2.2.2.2.2.2.1,x.2.2.2.2.2.2.2.2.2.1,x.2.2.2.2.2.2.2.2.2.2.1,x.2.2.2.2.2.2.2.2.2.2.2.1,x.2.2.2.2.2.2.2.2.2.2.2.2.1,x.2.2.2.2.2.2.2.2.2.2.2.2.2.1,x.2.2.2.2.2.2.2.2.2.2.2.2.2.2.1,x.2.2.2.2.2.2.2.2.2.2.2.2.2.2.2.1,x.2.2.2.2.2.2.2.2.2.2.2.2.2.2.2.2.1,x.2.2.2.2.2.2.2.2.2.2.2.2.2.2.2.2.2.1,x.2.2.2.2.2.2.2.2.2.2.2.2.2.2.2.2.2.2.1,x.2.2.2.2.2.2.2.2.2.2.2.2.2.2.2.2.2.2.2.1,x.2.2.2.2.2.2.2.2.2.2.2.2.2.2.2.2.2.2.2.2))[j21]?).bind λx_1 =>
 (ix ((a0.2.2.2.2.2.2.2.2.2.2.2.2.1.set j9 (x.1,x.2.1,1,x.2.2.2.1,x.2.2.2.2.1,x.2.2.2.2.2.1,x.2.2.2.2.2.2.1,x.2.2.2.2.2.2.2.1,x.2.2.2.2.2.2.2.2.1,x.2.2.2.2.2.2.2.2.2.1,x.2.2.2.2.2.2.2.2.2.2.1,x.2.2.2.2.2.2.2.2.2.2.2.1,x.2.2.2.2.2.2.2.2.2.2.2.2.1,x.2.2.2.2.2.2.2.2.2.2.2.2.2.1,x.2.2.2.2.2.2.2.2.2.2.2.2.2.2.1,x.2.2.2.2.2.2.2.2.2.2.2.2.2.2.2.1,x.2.2.2.2.2.2.2.2.2.2.2.2.2.2.2.2.1,x.2.2.2.2.2.2.2.2.2.2.2.2.2.2.2.2.2.1,x.2.2.2.2.2.2.2.2.2.2.2.2.2.2.2.2.2.2.1,x.2.2.2.2.2.2.2.2.2.2.2.2.2.2.2.2.2.2.2.1,x.2.2.2.2.2.2.2.2.2.2.2.2.2.2.2.2.2.2.2.2)).set j21 (x_1.1,x_1.2.1,x_1.2.2.1,x_1.2.2.2.1,x_1.2.2.2.2.1,x_1.2.2.2.2.2.1,x_1.2.2.2.2.2.2.1,x_1.2.2.2.2.2.2.2.1,t20.1,t20.2.1,t20.2.2.1,t20.2.2.2.1,t20.2.2.2.2.1,t20.2.2.2.2.2.1,t20.2.2.2.2.2.2.1,t20.2.2.2.2.2.2.2.1,t20.2.2.2.2.2.2.2.2.1,t20.2.2.2.2.2.2.2.2.2.1,t20.2.2.2.2.2.2.2.2.2.2,x_1.2.2.2.2.2.2.2.2.2.2.2.2.2.2.2.2.2.2.2.1,x_1.2.2.2.2.2.2.2.2.2.2.2.2.2.2.2.2.2.2.2.2)).length k1).bind λj28 =>
 (((a0.2.2.2.2.2.2.2.2.2.2.2.2.1.set j9 (x.1,x.2.1,1,x.2.2.2.1,x.2.2.2.2.1,x.2.2.2.2.2.1,x.2.2.2.2.2.2.1,x.2.2.2.2.2.2.2.1,x.2.2.2.2.2.2.2.2.1,x.2.2.2.2.2.2.2.2.2.1,x.2.2.2.2.2.2.2.2.2.2.1,x.2.2.2.2.2.2.2.2.2.2.2.1,x.2.2.2.2.2.2.2.2.2.2.2.2.1,x.2.2.2.2.2.2.2.2.2.2.2.2.2.1,x.2.2.2.2.2.2.2.2.2.2.2.2.2.2.1,x.2.2.2.2.2.2.2.2.2.2.2.2.2.2.2.1,x.2.2.2.2.2.2.2.2.2.2.2.2.2.2.2.2.1,x.2.2.2.2.2.2.2.2.2.2.2.2.2.2.2.2.2.1,x.2.2.2.2.2.2.2.2.2.2.2.2.2.2.2.2.2.2.1,x.2.2.2.2.2.2.2.2.2.2.2.2.2.2.2.2.2.2.2.1,x.2.2.2.2.2.2.2.2.2.2.2.2.2.2.2.2.2.2.2.2)).set j21 (x_1.1,x_1.2.1,x_1.2.2.1,x_1.2.2.2.1,x_1.2.2.2.2.1,x_1.2.2.2.2.2.1,x_1.2.2.2.2.2.2.1,x_1.2.2.2.2.2.2.2.1,t20.1,t20.2.1,t20.2.2.1,t20.2.2.2.1,t20.2.2.2.2.1,t20.2.2.2.2.2.1,t20.2.2.2.2.2.2.1,t20.2.2.2.2.2.2.2.1,t20.2.2.2.2.2.2.2.2.1,t20.2.2.2.2.2.2.2.2.2.1,t20.2.2.2.2.2.2.2.2.2.2,x_1.2.2.2.2.2.2.2.2.2.2.2.2.2.2.2.2.2.2.2.1,x_1.2.2.2.2.2.2.2.2.2.2.2.2.2.2.2.2.2.2.2.2))[j28]?).bind λx_2 =>
 some (a0.1,a0.2.1,a0.2.2.1,a0.2.2.2.1,a0.2.2.2.2.1,a0.2.2.2.2.2.1,a0.2.2.2.2.2.2.1,a0.2.2.2.2.2.2.2.1,a0.2.2.2.2.2.2.2.2.1,a0.2.2.2.2.2.2.2.2.2.1,a0.2.2.2.2.2.2.2.2.2.2.1,a0.2.2.2.2.2.2.2.2.2.2.2.1,((a0.2.2.2.2.2.2.2.2.2.2.2.2.1.set j9 (x.1,x.2.1,1,x.2.2.2.1,x.2.2.2.2.1,x.2.2.2.2.2.1,x.2.2.2.2.2.2.1,x.2.2.2.2.2.2.2.1,x.2.2.2.2.2.2.2.2.1,x.2.2.2.2.2.2.2.2.2.1,x.2.2.2.2.2.2.2.2.2.2.1,x.2.2.2.2.2.2.2.2.2.2.2.1,x.2.2.2.2.2.2.2.2.2.2.2.2.1,x.2.2.2.2.2.2.2.2.2.2.2.2.2.1,x.2.2.2.2.2.2.2.2.2.2.2.2.2.2.1,x.2.2.2.2.2.2.2.2.2.2.2.2.2.2.2.1,x.2.2.2.2.2.2.2.2.2.2.2.2.2.2.2.2.1,x.2.2.2.2.2.2.2.2.2.2.2.2.2.2.2.2.2.1,x.2.2.2.2.2.2.2.2.2.2.2.2.2.2.2.2.2.2.1,x.2.2.2.2.2.2.2.2.2.2.2.2.2.2.2.2.2.2.2.1,x.2.2.2.2.2.2.2.2.2.2.2.2.2.2.2.2.2.2.2.2)).set j21 (x_1.1,x_1.2.1,x_1.2.2.1,x_1.2.2.2.1,x_1.2.2.2.2.1,x_1.2.2.2.2.2.1,x_1.2.2.2.2.2.2.1,x_1.2.2.2.2.2.2.2.1,t20.1,t20.2.1,t20.2.2.1,t20.2.2.2.1,t20.2.2.2.2.1,t20.2.2.2.2.2.1,t20.2.2.2.2.2.2.1,t20.2.2.2.2.2.2.2.1,t20.2.2.2.2.2.2.2.2.1,t20.2.2.2.2.2.2.2.2.2.1,t20.2.2.2.2.2.2.2.2.2.2,x_1.2.2.2.2.2.2.2.2.2.2.2.2.2.2.2.2.2.2.2.1,x_1.2.2.2.2.2.2.2.2.2.2.2.2.2.2.2.2.2.2.2.2)).set j28 (x_2.1,x_2.2.1,x_2.2.2.1,x_2.2.2.2.1,x_2.2.2.2.2.1,x_2.2.2.2.2.2.1,x_2.2.2.2.2.2.2.1,x_2.2.2.2.2.2.2.2.1,x_2.2.2.2.2.2.2.2.2.1,x_2.2.2.2.2.2.2.2.2.2.1,x_2.2.2.2.2.2.2.2.2.2.2.1,x_2.2.2.2.2.2.2.2.2.2.2.2.1,x_2.2.2.2.2.2.2.2.2.2.2.2.2.1,x_2.2.2.2.2.2.2.2.2.2.2.2.2.2.1,x_2.2.2.2.2.2.2.2.2.2.2.2.2.2.2.1,x_2.2.2.2.2.2.2.2.2.2.2.2.2.2.2.2.1,x_2.2.2.2.2.2.2.2.2.2.2.2.2.2.2.2.2.1,x_2.2.2.2.2.2.2.2.2.2.2.2.2.2.2.2.2.2.1,x_2.2.2.2.2.2.2.2.2.2.2.2.2.2.2.2.2.2.2.1,0,x_2.2.2.2.2.2.2.2.2.2.2.2.2.2.2.2.2.2.2.2.2),a0.2.2.2.2.2.2.2.2.2.2.2.2.2.1,a0.2.2.2.2.2.2.2.2.2.2.2.2.2.2)
def mP:FL:=(322,⟨[.ptr tV (some false),.val false sH false],[],λa=>fu a.1 a.2⟩)::mO
theorem rL:Gd mP:=sI rK 322 Tryz.f322 [] Tryz.func322
def eh (a0:sL) (k1:Int):Option sL :=
 (uG a0.2.2.2.2.2.2.2.2.2.2.2.2.1.length 0 k1).bind λp =>
 (sT ([]:List tQ) ((a0.2.2.2.2.2.2.2.2.2.2.2.2.1.take p.2).drop p.1)).bind λzs12 =>
 (uG a0.2.2.2.2.2.2.2.2.2.2.2.2.1.length (sy (k1+1)) (a0.2.2.2.2.2.2.2.2.2.2.2.2.1.length:Int)).bind λp_1 =>
 (sT zs12 ((a0.2.2.2.2.2.2.2.2.2.2.2.2.1.take p_1.2).drop p_1.1)).bind λzs20 =>
 some (a0.1,a0.2.1,a0.2.2.1,a0.2.2.2.1,a0.2.2.2.2.1,a0.2.2.2.2.2.1,a0.2.2.2.2.2.2.1,a0.2.2.2.2.2.2.2.1,a0.2.2.2.2.2.2.2.2.1,a0.2.2.2.2.2.2.2.2.2.1,a0.2.2.2.2.2.2.2.2.2.2.1,a0.2.2.2.2.2.2.2.2.2.2.2.1,zs20,a0.2.2.2.2.2.2.2.2.2.2.2.2.2.1,a0.2.2.2.2.2.2.2.2.2.2.2.2.2.2)
def mQ:FL:=(323,⟨[.ptr tV (some false),.val false sH false],[],λa=>eh a.1 a.2⟩)::mP
theorem rM:Gd mQ:=sI rL 323 Tryz.f323 [] Tryz.func323
def ei (p0:sL) (i1:Int):Option sL :=
 (ix p0.2.2.2.2.2.2.2.2.2.2.2.2.1.length i1).bind λj16 =>
 (p0.2.2.2.2.2.2.2.2.2.2.2.2.1[j16]?).bind λx18 =>
 (dV p0.2.2.2.2.2.2.2.2.2.2.2.1 x18.2.1).bind λt19 =>
 (cond (t19.2==0) (some (t19.1.1 != 162)) (some false)).bind λt28 =>
 cond t28
 ((ix p0.2.2.2.2.2.2.2.2.2.2.2.2.1.length i1).bind λj35 =>
 (p0.2.2.2.2.2.2.2.2.2.2.2.2.1[j35]?).bind λx =>
 (fu (p0.1,p0.2.1,p0.2.2.1,p0.2.2.2.1,p0.2.2.2.2.1,p0.2.2.2.2.2.1,p0.2.2.2.2.2.2.1,p0.2.2.2.2.2.2.2.1,p0.2.2.2.2.2.2.2.2.1,p0.2.2.2.2.2.2.2.2.2.1,p0.2.2.2.2.2.2.2.2.2.2.1,p0.2.2.2.2.2.2.2.2.2.2.2.1,p0.2.2.2.2.2.2.2.2.2.2.2.2.1.set j35 (x.1,x.2.1,x.2.2.1,t19.1.1,t19.1.2.1,t19.1.2.2.1,t19.1.2.2.2.1,t19.1.2.2.2.2,x.2.2.2.2.2.2.2.2.1,x.2.2.2.2.2.2.2.2.2.1,x.2.2.2.2.2.2.2.2.2.2.1,x.2.2.2.2.2.2.2.2.2.2.2.1,x.2.2.2.2.2.2.2.2.2.2.2.2.1,x.2.2.2.2.2.2.2.2.2.2.2.2.2.1,x.2.2.2.2.2.2.2.2.2.2.2.2.2.2.1,x.2.2.2.2.2.2.2.2.2.2.2.2.2.2.2.1,x.2.2.2.2.2.2.2.2.2.2.2.2.2.2.2.2.1,x.2.2.2.2.2.2.2.2.2.2.2.2.2.2.2.2.2.1,x.2.2.2.2.2.2.2.2.2.2.2.2.2.2.2.2.2.2.1,x.2.2.2.2.2.2.2.2.2.2.2.2.2.2.2.2.2.2.2.1,x.2.2.2.2.2.2.2.2.2.2.2.2.2.2.2.2.2.2.2.2),p0.2.2.2.2.2.2.2.2.2.2.2.2.2.1,p0.2.2.2.2.2.2.2.2.2.2.2.2.2.2) i1).bind λt39 =>
 some t39)
 (cond (t19.2==3)
 ((bf p0.2.2.2.2.2.2.2.2.1).bind λt48 =>
 (eh (p0.1,p0.2.1,p0.2.2.1,p0.2.2.2.1,p0.2.2.2.2.1,p0.2.2.2.2.2.1,p0.2.2.2.2.2.2.1,p0.2.2.2.2.2.2.2.1,t48,p0.2.2.2.2.2.2.2.2.2.1,p0.2.2.2.2.2.2.2.2.2.2.1,p0.2.2.2.2.2.2.2.2.2.2.2.1,p0.2.2.2.2.2.2.2.2.2.2.2.2.1,p0.2.2.2.2.2.2.2.2.2.2.2.2.2.1,p0.2.2.2.2.2.2.2.2.2.2.2.2.2.2) i1).bind λt64 =>
 some t64)
 ((bf p0.2.2.2.2.2.2.2.1).bind λt58 =>
 (eh (p0.1,p0.2.1,p0.2.2.1,p0.2.2.2.1,p0.2.2.2.2.1,p0.2.2.2.2.2.1,p0.2.2.2.2.2.2.1,t58,p0.2.2.2.2.2.2.2.2.1,p0.2.2.2.2.2.2.2.2.2.1,p0.2.2.2.2.2.2.2.2.2.2.1,p0.2.2.2.2.2.2.2.2.2.2.2.1,p0.2.2.2.2.2.2.2.2.2.2.2.2.1,p0.2.2.2.2.2.2.2.2.2.2.2.2.2.1,p0.2.2.2.2.2.2.2.2.2.2.2.2.2.2) i1).bind λt64_1 =>
 some t64_1))
def mR:FL:=(242,⟨[.ptr tV (some false),.val false sH false],[],λa=>ei a.1 a.2⟩)::mQ
theorem rN:Gd mR:=sI rM 242 Tryz.f242 [] Tryz.func242
def ej (a0:sL) (k1:Int) (p2:tg):Option (sL×List vT) :=
 (ix a0.2.2.2.2.2.2.2.2.2.2.2.2.1.length k1).bind λj13 =>
 (a0.2.2.2.2.2.2.2.2.2.2.2.2.1[j13]?).bind λx15 =>
 (eh a0 k1).bind λt21 =>
 some (t21,[(x15.1,p2.1,p2.2.1,p2.2.2.1,p2.2.2.2.1,p2.2.2.2.2)])
def mS:FL:=(244,⟨[.ptr tV (some false),.val false sH false,.val true uN false],[.val false (.one (.sl yX)) (some false)],λa=>ej a.1 a.2.1 a.2.2⟩)::mR
theorem rO:Gd mS:=sI rN 244 Tryz.f244 [] Tryz.func244
def gS (p0:sL) (i1:Int):Option (sL×List vT) :=
 (ix p0.2.2.2.2.2.2.2.2.2.2.2.2.1.length i1).bind λj14 =>
 (p0.2.2.2.2.2.2.2.2.2.2.2.2.1[j14]?).bind λx15 =>
 cond (p0.2.2.2.2.2.2.2.2.2.2.1==x15.2.2.2.2.2.2.2.2.2.2.2.2.2.2.2.2.2.2.1)
 ((fo (p0.1,p0.2.1,p0.2.2.1,p0.2.2.2.1,p0.2.2.2.2.1,p0.2.2.2.2.2.1,p0.2.2.2.2.2.2.1,p0.2.2.2.2.2.2.2.1,p0.2.2.2.2.2.2.2.2.1,p0.2.2.2.2.2.2.2.2.2.1,p0.2.2.2.2.2.2.2.2.2.2.1) (x15.2.2.2.1,x15.2.2.2.2.1,x15.2.2.2.2.2.1,x15.2.2.2.2.2.2.1,x15.2.2.2.2.2.2.2.1)).bind λt32 =>
 (ej (t32.1.1,t32.1.2.1,t32.1.2.2.1,t32.1.2.2.2.1,t32.1.2.2.2.2.1,t32.1.2.2.2.2.2.1,t32.1.2.2.2.2.2.2.1,t32.1.2.2.2.2.2.2.2.1,t32.1.2.2.2.2.2.2.2.2.1,t32.1.2.2.2.2.2.2.2.2.2.1,t32.1.2.2.2.2.2.2.2.2.2.2,p0.2.2.2.2.2.2.2.2.2.2.2.1,p0.2.2.2.2.2.2.2.2.2.2.2.2.1,p0.2.2.2.2.2.2.2.2.2.2.2.2.2.1,p0.2.2.2.2.2.2.2.2.2.2.2.2.2.2) i1 t32.2).bind λt42 =>
 some t42)
 (cond (decide (x15.2.2.2.2.2.2.2.2.2.2.2.2.2.2.2.2.2.2.2.2>=3))
 ((cS x15.2.2.2.2.2.2.2.1).bind λt52 =>
 (cW (162,x15.2.2.2.2.1,6,1,t52) false).bind λt57 =>
 (ej p0 i1 t57).bind λt58 =>
 some t58)
 ((ix p0.2.2.2.2.2.2.2.2.2.2.2.2.1.length i1).bind λj67 =>
 (p0.2.2.2.2.2.2.2.2.2.2.2.2.1[j67]?).bind λx =>
 (fu (p0.1,p0.2.1,p0.2.2.1,p0.2.2.2.1,p0.2.2.2.2.1,p0.2.2.2.2.2.1,p0.2.2.2.2.2.2.1,p0.2.2.2.2.2.2.2.1,p0.2.2.2.2.2.2.2.2.1,p0.2.2.2.2.2.2.2.2.2.1,p0.2.2.2.2.2.2.2.2.2.2.1,p0.2.2.2.2.2.2.2.2.2.2.2.1,p0.2.2.2.2.2.2.2.2.2.2.2.2.1.set j67 (x.1,x.2.1,x.2.2.1,x.2.2.2.1,x.2.2.2.2.1,x.2.2.2.2.2.1,x.2.2.2.2.2.2.1,x.2.2.2.2.2.2.2.1,x.2.2.2.2.2.2.2.2.1,x.2.2.2.2.2.2.2.2.2.1,x.2.2.2.2.2.2.2.2.2.2.1,x.2.2.2.2.2.2.2.2.2.2.2.1,x.2.2.2.2.2.2.2.2.2.2.2.2.1,x.2.2.2.2.2.2.2.2.2.2.2.2.2.1,x.2.2.2.2.2.2.2.2.2.2.2.2.2.2.1,x.2.2.2.2.2.2.2.2.2.2.2.2.2.2.2.1,x.2.2.2.2.2.2.2.2.2.2.2.2.2.2.2.2.1,x.2.2.2.2.2.2.2.2.2.2.2.2.2.2.2.2.2.1,x.2.2.2.2.2.2.2.2.2.2.2.2.2.2.2.2.2.2.1,x.2.2.2.2.2.2.2.2.2.2.2.2.2.2.2.2.2.2.2.1,sy (x15.2.2.2.2.2.2.2.2.2.2.2.2.2.2.2.2.2.2.2.2+1)),p0.2.2.2.2.2.2.2.2.2.2.2.2.2.1,p0.2.2.2.2.2.2.2.2.2.2.2.2.2.2) i1).bind λt71 =>
 some (t71,([]:List vT))))
def mT:FL:=(243,⟨[.ptr tV (some false),.val false sH false],[.val false (.one (.sl yX)) (some false)],λa=>gS a.1 a.2⟩)::mS
theorem rP:Gd mT:=sI rO 243 Tryz.f243 [] Tryz.func243
def gT (p0:sL) (i1:Int):Option (sL×List vT) :=
 (ix p0.2.2.2.2.2.2.2.2.2.2.2.2.1.length i1).bind λj14 =>
 (p0.2.2.2.2.2.2.2.2.2.2.2.2.1[j14]?).bind λx15 =>
 cond (x15.2.2.1==0)
 ((ei p0 i1).bind λt35 =>
 some (t35,([]:List vT)))
 ((cond (x15.2.2.1==1)
 (some (decide (x15.2.2.2.2.2.2.2.2.2.2.2.2.2.2.2.2.2.2.2.1<(x15.2.2.2.2.2.2.2.1.length:Int))))
 (some false)).bind λt48 =>
 cond t48
 ((ix p0.2.2.2.2.2.2.2.2.2.2.2.2.1.length i1).bind λj57 =>
 (p0.2.2.2.2.2.2.2.2.2.2.2.2.1[j57]?).bind λx =>
 some ((p0.1,p0.2.1,p0.2.2.1,p0.2.2.2.1,p0.2.2.2.2.1,p0.2.2.2.2.2.1,p0.2.2.2.2.2.2.1,p0.2.2.2.2.2.2.2.1,p0.2.2.2.2.2.2.2.2.1,p0.2.2.2.2.2.2.2.2.2.1,p0.2.2.2.2.2.2.2.2.2.2.1,p0.2.2.2.2.2.2.2.2.2.2.2.1,p0.2.2.2.2.2.2.2.2.2.2.2.2.1.set j57 (x.1,x.2.1,x.2.2.1,x.2.2.2.1,x.2.2.2.2.1,x.2.2.2.2.2.1,x.2.2.2.2.2.2.1,x.2.2.2.2.2.2.2.1,x.2.2.2.2.2.2.2.2.1,x.2.2.2.2.2.2.2.2.2.1,x.2.2.2.2.2.2.2.2.2.2.1,x.2.2.2.2.2.2.2.2.2.2.2.1,x.2.2.2.2.2.2.2.2.2.2.2.2.1,x.2.2.2.2.2.2.2.2.2.2.2.2.2.1,x.2.2.2.2.2.2.2.2.2.2.2.2.2.2.1,x.2.2.2.2.2.2.2.2.2.2.2.2.2.2.2.1,x.2.2.2.2.2.2.2.2.2.2.2.2.2.2.2.2.1,x.2.2.2.2.2.2.2.2.2.2.2.2.2.2.2.2.2.1,x.2.2.2.2.2.2.2.2.2.2.2.2.2.2.2.2.2.2.1,sy (x15.2.2.2.2.2.2.2.2.2.2.2.2.2.2.2.2.2.2.2.1+1),x.2.2.2.2.2.2.2.2.2.2.2.2.2.2.2.2.2.2.2.2),p0.2.2.2.2.2.2.2.2.2.2.2.2.2.1,p0.2.2.2.2.2.2.2.2.2.2.2.2.2.2),([]:List vT)))
 (cond (x15.2.2.1==1)
 ((ix p0.2.2.2.2.2.2.2.2.2.2.2.2.1.length i1).bind λj68 =>
 (p0.2.2.2.2.2.2.2.2.2.2.2.2.1[j68]?).bind λx_1 =>
 some ((p0.1,p0.2.1,p0.2.2.1,p0.2.2.2.1,p0.2.2.2.2.1,p0.2.2.2.2.2.1,p0.2.2.2.2.2.2.1,p0.2.2.2.2.2.2.2.1,p0.2.2.2.2.2.2.2.2.1,p0.2.2.2.2.2.2.2.2.2.1,p0.2.2.2.2.2.2.2.2.2.2.1,p0.2.2.2.2.2.2.2.2.2.2.2.1,p0.2.2.2.2.2.2.2.2.2.2.2.2.1.set j68 (x_1.1,x_1.2.1,2,x_1.2.2.2.1,x_1.2.2.2.2.1,x_1.2.2.2.2.2.1,x_1.2.2.2.2.2.2.1,x_1.2.2.2.2.2.2.2.1,x_1.2.2.2.2.2.2.2.2.1,x_1.2.2.2.2.2.2.2.2.2.1,x_1.2.2.2.2.2.2.2.2.2.2.1,x_1.2.2.2.2.2.2.2.2.2.2.2.1,x_1.2.2.2.2.2.2.2.2.2.2.2.2.1,x_1.2.2.2.2.2.2.2.2.2.2.2.2.2.1,x_1.2.2.2.2.2.2.2.2.2.2.2.2.2.2.1,x_1.2.2.2.2.2.2.2.2.2.2.2.2.2.2.2.1,x_1.2.2.2.2.2.2.2.2.2.2.2.2.2.2.2.2.1,x_1.2.2.2.2.2.2.2.2.2.2.2.2.2.2.2.2.2.1,x_1.2.2.2.2.2.2.2.2.2.2.2.2.2.2.2.2.2.2.1,x_1.2.2.2.2.2.2.2.2.2.2.2.2.2.2.2.2.2.2.2.1,x_1.2.2.2.2.2.2.2.2.2.2.2.2.2.2.2.2.2.2.2.2),p0.2.2.2.2.2.2.2.2.2.2.2.2.2.1,p0.2.2.2.2.2.2.2.2.2.2.2.2.2.2),([]:List vT)))
 (cond (x15.2.2.2.1==163)
 ((gS p0 i1).bind λt77 =>
 some t77)
 ((gO (x15.2.2.2.2.2.2.2.2.1,x15.2.2.2.2.2.2.2.2.2.1,x15.2.2.2.2.2.2.2.2.2.2.1,x15.2.2.2.2.2.2.2.2.2.2.2.1,x15.2.2.2.2.2.2.2.2.2.2.2.2.1,x15.2.2.2.2.2.2.2.2.2.2.2.2.2.1,x15.2.2.2.2.2.2.2.2.2.2.2.2.2.2.1,x15.2.2.2.2.2.2.2.2.2.2.2.2.2.2.2.1,x15.2.2.2.2.2.2.2.2.2.2.2.2.2.2.2.2.1,x15.2.2.2.2.2.2.2.2.2.2.2.2.2.2.2.2.2.1,x15.2.2.2.2.2.2.2.2.2.2.2.2.2.2.2.2.2.2.1) (x15.2.2.2.1,x15.2.2.2.2.1,x15.2.2.2.2.2.1,x15.2.2.2.2.2.2.1,x15.2.2.2.2.2.2.2.1)).bind λt21 =>
 (ej p0 i1 t21.2.1).bind λt28 =>
 some t28))))
def mU:FL:=(140,⟨[.ptr tV (some false),.val false sH false],[.val false (.one (.sl yX)) (some false)],λa=>gT a.1 a.2⟩)::mT
theorem rQ:Gd mU:=sI rP 140 Tryz.f140 [] Tryz.func140
def bh (a0:sL) (k1:Int):Option (sL×List vT) :=
 (fe a0).bind λt9 =>
 (dX a0).bind λt11 =>
 (cond (!t11)
 (some true)
 ((ae k1 0 (sy ((a0.2.2.2.2.2.2.2.2.2.2.2.2.1.length:Int)-1))).bind λt19 =>
 some (!t19))).bind λt21 =>
 cond t21
 (some (t9,([]:List vT)))
 ((gT t9 k1).bind λt25 =>
 some t25)
def mV:FL:=(47,⟨[.val true tV false,.val false sH false],[.val true tV (some false),.val false (.one (.sl yX)) (some false)],λa=>bh a.1 a.2⟩)::mU
theorem rR:Gd mV:=sI rQ 47 Tryz.f47 [] Tryz.func47
def bg (a0:sL) (b1:List Int):Option sL :=
 (fe a0).bind λt7 =>
 (dX a0).bind λt9 =>
 (cond (!t9)
 (some true)
 (some (decide ((a0.2.2.2.2.2.2.2.2.2.2.2.2.1.length:Int)>=6)))).bind λt16 =>
 (cond t16
 (some true)
 (some (decide (a0.2.2.2.2.2.2.2.2.2.2.2.2.2.2>=1000000)))).bind λt21 =>
 cond t21
 ((dX a0).bind λt23 =>
 cond t23
 ((bf a0.2.2.2.2.2.2.2.2.2.2.2.2.2.1).bind λt26 =>
 some (t7.1,t7.2.1,t7.2.2.1,t7.2.2.2.1,t7.2.2.2.2.1,t7.2.2.2.2.2.1,t7.2.2.2.2.2.2.1,t7.2.2.2.2.2.2.2.1,t7.2.2.2.2.2.2.2.2.1,t7.2.2.2.2.2.2.2.2.2.1,t7.2.2.2.2.2.2.2.2.2.2.1,t7.2.2.2.2.2.2.2.2.2.2.2.1,t7.2.2.2.2.2.2.2.2.2.2.2.2.1,t26,t7.2.2.2.2.2.2.2.2.2.2.2.2.2.2))
 (some t7))
 ((sT ([]:List Int) b1).bind λzs39 =>
 (sT t7.2.2.2.2.2.2.2.2.2.2.2.2.1 ([(sy (a0.2.2.2.2.2.2.2.2.2.2.2.2.2.2+1),zs39,0,0,0,0,0,[],0,[],[],[],[],[],0,0,0,0,0,0,0)])).bind λzs42 =>
 some (t7.1,t7.2.1,t7.2.2.1,t7.2.2.2.1,t7.2.2.2.2.1,t7.2.2.2.2.2.1,t7.2.2.2.2.2.2.1,t7.2.2.2.2.2.2.2.1,t7.2.2.2.2.2.2.2.2.1,t7.2.2.2.2.2.2.2.2.2.1,t7.2.2.2.2.2.2.2.2.2.2.1,t7.2.2.2.2.2.2.2.2.2.2.2.1,zs42,t7.2.2.2.2.2.2.2.2.2.2.2.2.2.1,sy (a0.2.2.2.2.2.2.2.2.2.2.2.2.2.2+1)))
def mW:FL:=(56,⟨[.val true tV false,.val false uh false],[.val true tV (some true)],λa=>bg a.1 a.2⟩)::mV
theorem rS:Gd mW:=sI rR 56 Tryz.f56 [] Tryz.func56
def fG (b0:sx) (word1:List UInt8):Option sL :=
 (aV b0).bind λt6 =>
 (cond (!t6) (some true) (some (decide ((word1.length:Int)>20)))).bind λt12 =>
 cond t12
 (some (0,[],[],[],[],[],0,0,0,0,0,[],[],0,0))
 ((am b0).bind λt15 =>
 some (t15.1,t15.2.1,t15.2.2.1,t15.2.2.2.1,t15.2.2.2.2.1,t15.2.2.2.2.2.1,t15.2.2.2.2.2.2.1,t15.2.2.2.2.2.2.2.1,t15.2.2.2.2.2.2.2.2.1,t15.2.2.2.2.2.2.2.2.2.1,t15.2.2.2.2.2.2.2.2.2.2,word1,[],0,0))
def mX:FL:=(58,⟨[.val true sX false,.val false Hx false],[.val true tV (some true)],λa=>fG a.1 a.2⟩)::mW
theorem rT:Gd mX:=sI rS 58 Tryz.f58 [] Tryz.func58
def dg (c0:sN):Option (sN×Int) :=
 let x3:=wh .i64 (Lh .i64 ((sy ((sy (c0.2.2*6364136223846793005))+1442695040888963407)).fdiv (2^33)) ((sy ((sy (c0.2.2*6364136223846793005))+1442695040888963407)).fdiv (2^47))) 255
 cond (decide (c0.2.1<(c0.1.length:Int)))
 ((at? c0.1 c0.2.1).bind λx44 =>
 let x3_1:=wh .i64 (sy (x3+(sy (x44)))) 255
 some ((c0.1,sy (c0.2.1+1),sy ((sy (c0.2.2*6364136223846793005))+1442695040888963407)),x3_1))
 (some ((c0.1,c0.2.1,sy ((sy (c0.2.2*6364136223846793005))+1442695040888963407)),x3))
def mY:FL:=(190,⟨[.ptr ue none],[.val false sH (some true)],λa=>dg a⟩)::mX
theorem rU:Gd mY:=sI rT 190 Tryz.f190 [] Tryz.func190
def aa (c0:sN) (n1:Int):Option (sN×Int) :=
 cond (decide (n1<=0))
 (some (c0,0))
 (cond (decide (n1<=256))
 ((dg c0).bind λt13 =>
 (rem t13.2 n1).bind λt15 =>
 some (t13.1,t15))
 ((dg c0).bind λt17 =>
 (dg t17.1).bind λt19 =>
 (dg t19.1).bind λt21 =>
 (rem (sy ((sy ((sy (t17.2*65536))+(sy (t19.2*256))))+t21.2)) n1).bind λt30 =>
 some (t21.1,t30)))
def mZ:FL:=(97,⟨[.ptr ue none,.val false sH false],[.val false sH (some true)],λa=>aa a.1 a.2⟩)::mY
theorem rV:Gd mZ:=sI rU 97 Tryz.f97 [] Tryz.func97
def bN (c0:sN) (n1:Int):Option (sN×Bool) :=
 (aa c0 n1).bind λt7 =>
 some (t7.1,t7.2==0)
def na:FL:=(100,⟨[.ptr ue none,.val false sH false],[.val false tK (some true)],λa=>bN a.1 a.2⟩)::mZ
theorem rW:Gd na:=sI rV 100 Tryz.f100 [] Tryz.func100
def ah (c0:sN) (list1:List Int):Option (sN×Int) :=
 (aa c0 (list1.length:Int)).bind λt9 =>
 (at? list1 t9.2).bind λx10 =>
 some (t9.1,x10)
def nb:FL:=(138,⟨[.ptr ue none,.val false vb false],[.val false sH (some true)],λa=>ah a.1 a.2⟩)::na
theorem rX:Gd nb:=sI rW 138 Tryz.f138 [] Tryz.func138
def bc (c0:sN) (list1:List (List UInt8)):Option (sN×List UInt8) :=
 (aa c0 (list1.length:Int)).bind λt9 =>
 (at? list1 t9.2).bind λx10 =>
 some (t9.1,x10)
def nc:FL:=(141,⟨[.ptr ue none,.val false (.one (.sl Hx)) false],[.val false Hx (some true)],λa=>bc a.1 a.2⟩)::nb
theorem rY:Gd nc:=sI rX 141 Tryz.f141 [] Tryz.func141
def em (ports0:Int) (i5:Int) (b1:List Int):Option ((Int×List Int)⊕(List Int)) :=
 cond (decide (i5<ports0))
 ((sT b1 ([1]:List Int)).bind λzs27 =>
 some (.inl (sy (i5+1),zs27)))
 (some (.inr b1))
def fv (ports0:Int):Option tH :=
 (ae ports0 1 6).bind λt7 =>
 cond (!t7)
 (some ([],[]))
 ((shl .i64 1 (IntKind.u64.wrap (ports0))).bind λt12 =>
 (loop (λz=>em ports0 z.1 z.2) (0,[])).bind λd =>
 some ([(1,sy (t12-1),sy (t12-1))],d))
def nd:FL:=(265,⟨[.val false sH false],[.val true uS (some true)],λa=>fv a⟩)::nc
theorem rZ:Gd nd:=sI rY 265 Tryz.f265 [(0,⟨⟨[(5,false,[dI])],[(1054720,.box [.same 1052672,.own 1000000000]),(1000000000,.root sH true)]⟩,
 ⟨[],[(1054720,.box [.same 1052672,.own 1000000300]),(1000000300,.root sH true)]⟩,none⟩)] Tryz.func265
def eo (ports1:Int) (i6:Int) (b0:Int) (b1:List UInt8) (b6:Int) (b7:Int) (b8:Int) (b9:Int) (b10:Int) (b2:List Pt) (b3:List sD):Option ((Int×Int×List UInt8×Int×Int×Int×Int×Int×List Pt×List sD)⊕(Int×List UInt8×Int×Int×Int×Int×Int×List Pt×List sD)) :=
 cond (decide (i6<ports1))
 ((sT b2 [(false,1,false,0,0,0,0,0)]).bind λzs29 =>
 some (.inl (sy (i6+1),b0,b1,b6,b7,b8,b9,b10,zs29,b3)))
 (some (.inr (b0,b1,b6,b7,b8,b9,b10,b2,b3)))
def fw (id0:Int) (ports1:Int):Option sx :=
 (ae id0 1 99).bind λt8 =>
 (cond (!t8)
 (some true)
 ((ae ports1 1 6).bind λt12 =>
 some (!t12))).bind λt14 =>
 cond t14
 (some (0,[],[],[],[],[],0,0,0,0,0))
 ((fv ports1).bind λt18 =>
 (loop (λz=>eo ports1 z.1 z.2.1 z.2.2.1 z.2.2.2.1 z.2.2.2.2.1 z.2.2.2.2.2.1 z.2.2.2.2.2.2.1 z.2.2.2.2.2.2.2.1 z.2.2.2.2.2.2.2.2.1 z.2.2.2.2.2.2.2.2.2) (0,id0,[],0,0,0,0,0,[],[])).bind λd =>
 some (d.1,d.2.1,d.2.2.2.2.2.2.2.1,d.2.2.2.2.2.2.2.2,t18.1,t18.2,d.2.2.1,d.2.2.2.1,d.2.2.2.2.1,d.2.2.2.2.2.1,d.2.2.2.2.2.2.1))
def ne:FL:=(158,⟨[.val false sH false,.val false sH false],[.val true sX (some true)],λa=>fw a.1 a.2⟩)::nd
theorem s5:Gd ne:=sI rZ 158 Tryz.f158 [(0,⟨⟨[(6,false,[dI])],[(791552,.box [dI,dS,.own 1000000000,.own 1000000001,.same 789504,.same 789505,dI,dI,dI,dI,dI]),(1000000000,.root vc true),(1000000001,.root th true)]⟩,
 ⟨[],[(791552,.box [dI,dS,.own 1000000300,.own 1000000301,.same 789504,.same 789505,dI,dI,dI,dI,dI]),(1000000300,.root vc true),(1000000301,.root th true)]⟩,none⟩)] Tryz.func158
def eZ (c0:sN):Option (sN×zg) :=
 (aa c0 5).bind λt4 =>
 (ah t4.1 ([0,1,2,5,10,100]:List Int)).bind λt8 =>
 (ah t8.1 ([0,1,2,9,10]:List Int)).bind λt11 =>
 (aa t11.1 5).bind λt13 =>
 (aa t13.1 4).bind λt16 =>
 some (t16.1,(sy (1+t4.2),t8.2,t11.2,sy (1+t13.2),t16.2))
def ng:FL:=(252,⟨[.ptr ue none],[.val true xO (some true)],λa=>eZ a⟩)::ne
theorem s6:Gd ng:=sI s5 252 Tryz.f252 [] Tryz.func252
def ep (n1:Int) (i6:Int) (b0:List Int) (b1:Int) (b2:Int) (out5:List Pt):Option ((Int×List Int×Int×Int×List Pt)⊕(List Int×Int×Int×List Pt)) :=
 cond (decide (i6<n1))
 ((bN (b0,b1,b2) 4).bind λt15 =>
 (ah t15.1 ([1,1,2,5,10]:List Int)).bind λt19 =>
 cond (!t15.2)
 ((bN t19.1 4).bind λt25 =>
 cond (!t25.2)
 ((eZ t25.1).bind λt30 =>
 (sT out5 [(!t15.2,t19.2,true,t30.2.1,t30.2.2.1,t30.2.2.2.1,t30.2.2.2.2.1,t30.2.2.2.2.2)]).bind λzs35 =>
 some (.inl (sy (i6+1),t30.1.1,t30.1.2.1,t30.1.2.2,zs35)))
 ((sT out5 [(!t15.2,t19.2,false,0,0,0,0,0)]).bind λzs35_1 =>
 some (.inl (sy (i6+1),t25.1.1,t25.1.2.1,t25.1.2.2,zs35_1))))
 ((sT out5 [(!t15.2,t19.2,false,0,0,0,0,0)]).bind λzs35_2 =>
 some (.inl (sy (i6+1),t19.1.1,t19.1.2.1,t19.1.2.2,zs35_2))))
 (some (.inr (b0,b1,b2,out5)))
def cL (c0:sN) (n1:Int):Option (sN×List Pt) :=
 (loop (λz=>ep n1 z.1 z.2.1 z.2.2.1 z.2.2.2.1 z.2.2.2.2) (0,c0.1,c0.2.1,c0.2.2,([]:List Pt))).bind λd =>
 some ((d.1,d.2.1,d.2.2.1),d.2.2.2)
def nh:FL:=(159,⟨[.ptr ue none,.val false sH false],[.val false (.one (.sl vc)) (some true)],λa=>cL a.1 a.2⟩)::ng
theorem s7:Gd nh:=sI s6 159 Tryz.f159 [(0,⟨⟨(5,false,[.own 1000000000])::(6,false,[dI])::us 24 3 [],[(1,.box [.dat (.sl (.one (.int .u8))),dI,dI]),(1000000000,.root vc true)]⟩,
 ⟨[(5,false,[.own 1000000300])],[(1,.box [.dat (.sl (.one (.int .u8))),dI,dI]),(1000000300,.root vc true)]⟩,none⟩)] Tryz.func159
def eq (x0:tH) (v1:tH):Option (tH×Bool) :=
 (aQ x0 (v1.2.length:Int)).bind λt10 =>
 cond (!t10)
 ((aR v1).bind λt13 =>
 some (t13,false))
 (some (x0,true))
def ni:FL:=(331,⟨[.val true uS true,.val true uS false],[.val true uS (some true),.val false tK (some true)],λa=>eq a.1 a.2⟩)::nh
theorem s8:Gd ni:=sI s7 331 Tryz.f331 [] Tryz.func331
def fx (v0:tH) (port1:Int) (id2:Int):Option (tH×Bool) :=
 (aQ v0 (v0.2.length:Int)).bind λt13 =>
 (cond (!t13)
 (some true)
 ((ae port1 0 (sy ((v0.2.length:Int)-1))).bind λt21 =>
 some (!t21))).bind λt23 =>
 cond t23
 ((aR v0).bind λt25 =>
 some (t25,false))
 ((aR v0).bind λt27 =>
 (ix t27.2.length port1).bind λj32 =>
 (t27.2[j32]?).bind λx =>
 (eq (t27.1,t27.2.set j32 id2) v0).bind λt35 =>
 some t35)
def nj:FL:=(266,⟨[.val true uS false,.val false sH false,.val false sH false],[.val true uS (some true),.val false tK (some true)],λa=>fx a.1 a.2.1 a.2.2⟩)::ni
theorem s9:Gd nj:=sI s8 266 Tryz.f266 [] Tryz.func266
def fy (v0:tH) (id1:Int):Option (tH×Bool) :=
 (bu v0 id1).bind λt10 =>
 (aQ v0 (v0.2.length:Int)).bind λt15 =>
 (cond (!t15) (some true) (some (decide (t10<0)))).bind λt20 =>
 cond t20
 ((aR v0).bind λt22 =>
 some (t22,false))
 ((aR v0).bind λt24 =>
 (cut v0.1 0 t10).bind λt29 =>
 (sT ([]:List sM) t29).bind λzs30 =>
 (cut v0.1 (sy (t10+1)) (v0.1.length:Int)).bind λt35 =>
 (sT zs30 t35).bind λzs36 =>
 (eq (zs36,t24.2) v0).bind λt40 =>
 some t40)
def nk:FL:=(267,⟨[.val true uS false,.val false sH false],[.val true uS (some true),.val false tK (some true)],λa=>fy a.1 a.2⟩)::nj
theorem sa:Gd nk:=sI s9 267 Tryz.f267 [] Tryz.func267
def fA (v0:tH) (r1:sM):Option (tH×Bool) :=
 (aQ v0 (v0.2.length:Int)).bind λt10 =>
 cond (!t10)
 ((aR v0).bind λt13 =>
 some (t13,false))
 ((aH v0 r1).bind λt16 =>
 (eq t16 v0).bind λt18 =>
 some t18)
def nl:FL:=(268,⟨[.val true uS false,.val true u0 false],[.val true uS (some true),.val false tK (some true)],λa=>fA a.1 a.2⟩)::nk
theorem sc:Gd nl:=sI sa 268 Tryz.f268 [] Tryz.func268
def gU (c0:sN) (ports1:Int):Option (sN×sM) :=
 (shl .i64 1 (IntKind.u64.wrap (ports1))).bind λt9 =>
 (aa c0 (sy ((sy (t9-1))+1))).bind λt14 =>
 (ah t14.1 ([1,2,3,2]:List Int)).bind λt17 =>
 (aa t17.1 (sy ((sy (t9-1))+1))).bind λt23 =>
 some (t23.1,(t17.2,t14.2,wh .i64 t14.2 t23.2))
def nn:FL:=(269,⟨[.ptr ue none,.val false sH false],[.val true u0 (some true)],λa=>gU a.1 a.2⟩)::nl
theorem sd:Gd nn:=sI sc 269 Tryz.f269 [] Tryz.func269
def es (ports1:Int) (i6:Int) (b0:List Int) (b1:Int) (b2:Int) (b0_1:List sM) (b1_1:List Int):Option ((Int×List Int×Int×Int×List sM×List Int)⊕(List Int×Int×Int×List sM×List Int)) :=
 cond (decide (i6>0))
 ((aa (b0,b1,b2) 4).bind λt16 =>
 cond (t16.2==0)
 ((aa t16.1 ports1).bind λt31 =>
 (aa t31.1 3).bind λt33 =>
 (fx (b0_1,b1_1) t31.2 (sy (1+t33.2))).bind λt35 =>
 some (.inl (sy (i6-1),t33.1.1,t33.1.2.1,t33.1.2.2,t35.1.1,t35.1.2)))
 (cond (t16.2==1)
 ((aa t16.1 2).bind λt43 =>
 (fy (b0_1,b1_1) (sy (2+t43.2))).bind λt45 =>
 some (.inl (sy (i6-1),t43.1.1,t43.1.2.1,t43.1.2.2,t45.1.1,t45.1.2)))
 ((gU t16.1 ports1).bind λt21 =>
 (fA (b0_1,b1_1) t21.2).bind λt22 =>
 some (.inl (sy (i6-1),t21.1.1,t21.1.2.1,t21.1.2.2,t22.1.1,t22.1.2)))))
 (some (.inr (b0,b1,b2,b0_1,b1_1)))
def cM (c0:sN) (ports1:Int):Option (sN×tH) :=
 (fv ports1).bind λt8 =>
 (aa c0 6).bind λt10 =>
 (loop (λz=>es ports1 z.1 z.2.1 z.2.2.1 z.2.2.2.1 z.2.2.2.2.1 z.2.2.2.2.2) (t10.2,t10.1.1,t10.1.2.1,t10.1.2.2,t8.1,t8.2)).bind λd =>
 some ((d.1,d.2.1,d.2.2.1),d.2.2.2)
def np:FL:=(160,⟨[.ptr ue none,.val false sH false],[.val true uS (some true)],λa=>cM a.1 a.2⟩)::nn
theorem se:Gd np:=sI sd 160 Tryz.f160 [(0,⟨⟨[(6,false,[dI])],[(1,.box [.dat (.sl (.one (.int .u8))),dI,dI]),(265216,.box [.own 1000000000,.own 1000000001]),(1000000000,.root u0 true),(1000000001,.root sH true)]⟩,
 ⟨[],[(1,.box [.dat (.sl (.one (.int .u8))),dI,dI]),(265216,.box [.own 1000000300,.own 1000000301]),(1000000300,.root u0 true),(1000000301,.root sH true)]⟩,none⟩)] Tryz.func160
def dh (p0:List sD) (i1:sD) (t6:Bool) (t7:Int) (t5:List sD):Option ((Bool×Int×List sD)⊕(Bool×List sD)) :=
 cond (decide (t7<(p0.length:Int)))
 ((cond (!t6)
 ((at? p0 t7).bind λx20 =>
 (cf x20 i1.1 i1.2.1).bind λt26 =>
 some (!t26))
 (some false)).bind λt28 =>
 cond t28
 ((sT t5 [i1]).bind λzs32 =>
 (at? p0 t7).bind λx35 =>
 (cond (x35.1 != i1.1)
 (some true)
 ((at? p0 t7).bind λx44 =>
 some (x44.2.1 != i1.2.1))).bind λt50 =>
 cond t50
 ((at? p0 t7).bind λx54 =>
 (sT zs32 [x54]).bind λzs57 =>
 some (.inl (true,sy (t7+1),zs57)))
 (some (.inl (true,sy (t7+1),zs32))))
 ((at? p0 t7).bind λx35_1 =>
 (cond (x35_1.1 != i1.1)
 (some true)
 ((at? p0 t7).bind λx44_1 =>
 some (x44_1.2.1 != i1.2.1))).bind λt50_1 =>
 cond t50_1
 ((at? p0 t7).bind λx54_1 =>
 (sT t5 [x54_1]).bind λzs57_1 =>
 some (.inl (t6,sy (t7+1),zs57_1)))
 (some (.inl (t6,sy (t7+1),t5)))))
 (some (.inr (t6,t5)))
def fB (p0:List sD) (i1:sD):Option (List sD) :=
 (loop (λz=>dh p0 i1 z.1 z.2.1 z.2.2) (false,0,([]:List sD))).bind λd =>
 cond (!d.1)
 ((sT d.2 [i1]).bind λzs63 =>
 some zs63)
 (some d.2)
def nq:FL:=(271,⟨[.val false (.one (.sl th)) false,.val true th false],[.val false (.one (.sl th)) (some true)],λa=>fB a.1 a.2⟩)::np
theorem sf:Gd nq:=sI se 271 Tryz.f271 [(0,⟨⟨(5,false,[.own 1000000000])::(6,false,[dB])::(7,false,[dI])::us 18 10 (us 42 8 []),[(1000000000,.root th true)]⟩,
 ⟨[(5,false,[.own 1000000300]),(6,false,[dB])],[(1000000300,.root th true)]⟩,none⟩)] Tryz.func271
def f0 (l0:List sD) (tag1:Int) (mac2:Int) (port3:Int):Option (List sD) :=
 (ck l0 tag1 mac2).bind λt18 =>
 (cR l0).bind λt20 =>
 (cond (!t20)
 (some true)
 ((cQ (tag1,mac2,port3,0,false)).bind λt24 =>
 some (!t24))).bind λt26 =>
 (cond t26
 (some true)
 ((cond (decide (t18>=0))
 ((at? l0 t18).bind λx33 =>
 some x33.2.2.2.2)
 (some false)).bind λt36 =>
 some t36)).bind λt37 =>
 (cond t37
 (some true)
 ((cond (decide (t18<0)) (some (decide ((l0.length:Int)>=12))) (some false)).bind λt45 =>
 some t45)).bind λt46 =>
 cond t46
 ((cg l0).bind λt48 =>
 some t48)
 ((fB l0 (tag1,mac2,port3,0,false)).bind λt51 =>
 some t51)
def nr:FL:=(161,⟨[.val false (.one (.sl th)) false,.val false sH false,.val false sH false,.val false sH false],[.val false (.one (.sl th)) (some true)],λa=>f0 a.1 a.2.1 a.2.2.1 a.2.2.2⟩)::nq
theorem sg:Gd nr:=sI sf 161 Tryz.f161 [] Tryz.func161
def cc (c0:sN):Option (sN×Int) :=
 (ah c0 ([11,12,13,14]:List Int)).bind λt5 =>
 some t5
def nu:FL:=(162,⟨[.ptr ue none],[.val false sH (some true)],λa=>cc a⟩)::nr
theorem si:Gd nu:=sI sg 162 Tryz.f162 [] Tryz.func162
def dR (l0:List sD) (tag1:Int) (mac2:Int) (port3:Int):Option ((List sD)×Bool) :=
 (cR l0).bind λt16 =>
 (cond (!t16)
 (some true)
 ((cQ (tag1,mac2,port3,0,true)).bind λt20 =>
 some (!t20))).bind λt22 =>
 (cond t22
 (some true)
 ((ck l0 tag1 mac2).bind λt27 =>
 (cond (decide (t27<0)) (some (decide ((l0.length:Int)>=12))) (some false)).bind λt33 =>
 some t33)).bind λt34 =>
 cond t34
 ((cg l0).bind λt36 =>
 some (t36,false))
 ((fB l0 (tag1,mac2,port3,0,true)).bind λt39 =>
 some (t39,true))
def nv:FL:=(163,⟨[.val false (.one (.sl th)) false,.val false sH false,.val false sH false,.val false sH false],[.val false (.one (.sl th)) (some true),.val false tK (some true)],λa=>dR a.1 a.2.1 a.2.2.1 a.2.2.2⟩)::nu
theorem sj:Gd nv:=sI si 163 Tryz.f163 [] Tryz.func163
def eu (t7:sN×Int) (t5:Int) (b0:List Int) (b1:Int) (b2:Int) (b0_1:Int) (b1_1:List UInt8) (b6:Int) (b7:Int) (b8:Int) (b9:Int) (b10:Int) (b3:List sD):Option ((Int×List Int×Int×Int×Int×List UInt8×Int×Int×Int×Int×Int×List sD)⊕(List Int×Int×Int×Int×List UInt8×Int×Int×Int×Int×Int×List sD)) :=
 cond (decide (t5>0))
 ((aa (b0,b1,b2) 3).bind λt35 =>
 (cc t35.1).bind λt38 =>
 (aa t38.1 (sy (1+t7.2))).bind λt41 =>
 (f0 b3 (sy (1+t35.2)) t38.2 t41.2).bind λt42 =>
 some (.inl (sy (t5-1),t41.1.1,t41.1.2.1,t41.1.2.2,b0_1,b1_1,b6,b7,b8,b9,b10,t42)))
 (some (.inr (b0,b1,b2,b0_1,b1_1,b6,b7,b8,b9,b10,b3)))
def ct (p0:sN):Option (sN×sx) :=
 (aa p0 4).bind λt7 =>
 (aa t7.1 5).bind λt10 =>
 (fw (sy (1+t10.2)) (sy (1+t7.2))).bind λt13 =>
 (bc t10.1 ([[],[121,97,114,100],[98,49]]:List (List UInt8))).bind λt16 =>
 (cL t16.1 (sy (1+t7.2))).bind λt20 =>
 (cM t20.1 (sy (1+t7.2))).bind λt24 =>
 (aa t24.1 6).bind λt27 =>
 (loop (λz=>eu t7 z.1 z.2.1 z.2.2.1 z.2.2.2.1 z.2.2.2.2.1 z.2.2.2.2.2.1 z.2.2.2.2.2.2.1 z.2.2.2.2.2.2.2.1 z.2.2.2.2.2.2.2.2.1 z.2.2.2.2.2.2.2.2.2.1 z.2.2.2.2.2.2.2.2.2.2.1 z.2.2.2.2.2.2.2.2.2.2.2) (t27.2,t27.1.1,t27.1.2.1,t27.1.2.2,t13.1,t16.2,t13.2.2.2.2.2.2.1,t13.2.2.2.2.2.2.2.1,t13.2.2.2.2.2.2.2.2.1,t13.2.2.2.2.2.2.2.2.2.1,t13.2.2.2.2.2.2.2.2.2.2,t13.2.2.2.1)).bind λd =>
 (bN (d.1,d.2.1,d.2.2.1) 3).bind λt45 =>
 cond t45.2
 ((cc t45.1).bind λt50 =>
 (aa t50.1 (sy (1+t7.2))).bind λt53 =>
 (dR d.2.2.2.2.2.2.2.2.2.2 1 t50.2 t53.2).bind λt54 =>
 (aa t53.1 5).bind λt59 =>
 (ah t59.1 ([0,1,5,1000000]:List Int)).bind λt63 =>
 some (t63.1,(d.2.2.2.1,d.2.2.2.2.1,t20.2,t54.1,t24.2.1,t24.2.2,t59.2,d.2.2.2.2.2.2.1,d.2.2.2.2.2.2.2.1,d.2.2.2.2.2.2.2.2.1,t63.2)))
 ((aa t45.1 5).bind λt59_1 =>
 (ah t59_1.1 ([0,1,5,1000000]:List Int)).bind λt63_1 =>
 some (t63_1.1,(d.2.2.2.1,d.2.2.2.2.1,t20.2,d.2.2.2.2.2.2.2.2.2.2,t24.2.1,t24.2.2,t59_1.2,d.2.2.2.2.2.2.1,d.2.2.2.2.2.2.2.1,d.2.2.2.2.2.2.2.2.1,t63_1.2)))
def nx:FL:=(74,⟨[.ptr ue none],[.val true sX (some true)],λa=>ct a⟩)::nv
theorem sk:Gd nx:=sI sj 74 Tryz.f74 [(0,⟨⟨[(5,false,[dI])],[(1,.box [.dat (.sl (.one (.int .u8))),dI,dI]),(530432,.box [dI,dS,.same 1051712,.own 1000000000,.same 1313856,.same 1313857,dI,dI,dI,dI,dI]),(1000000000,.root th true)]⟩,
 ⟨[],[(1,.box [.dat (.sl (.one (.int .u8))),dI,dI]),(530432,.box [dI,dS,.same 1051712,.own 1000000300,.same 1313856,.same 1313857,dI,dI,dI,dI,dI]),(1000000300,.root th true)]⟩,none⟩)] Tryz.func74
def ev (i4:Int) (b0:List Int) (b1:Int) (b2:Int) (out3:List Int):Option ((Int×List Int×Int×Int×List Int)⊕(List Int×Int×Int×List Int)) :=
 cond (decide (i4>0))
 ((ah (b0,b1,b2) ([0,1,2,3,127,128,16384,100000]:List Int)).bind λt16 =>
 (sT out3 [t16.2]).bind λzs18 =>
 some (.inl (sy (i4-1),t16.1.1,t16.1.2.1,t16.1.2.2,zs18)))
 (some (.inr (b0,b1,b2,out3)))
def aJ (c0:sN):Option (sN×List Int) :=
 (aa c0 6).bind λt7 =>
 (loop (λz=>ev z.1 z.2.1 z.2.2.1 z.2.2.2.1 z.2.2.2.2) (sy (1+t7.2),t7.1.1,t7.1.2.1,t7.1.2.2,([]:List Int))).bind λd =>
 some ((d.1,d.2.1,d.2.2.1),d.2.2.2)
def ny:FL:=(101,⟨[.ptr ue none],[.val false vb (some true)],λa=>aJ a⟩)::nx
theorem sm:Gd ny:=sI sk 101 Tryz.f101 [(0,⟨⟨[(3,false,[.own 1000000000]),(4,false,[dI])],[(1,.box [.dat (.sl (.one (.int .u8))),dI,dI]),(1000000000,.root sH true)]⟩,
 ⟨[(3,false,[.own 1000000300])],[(1,.box [.dat (.sl (.one (.int .u8))),dI,dI]),(1000000300,.root sH true)]⟩,none⟩)] Tryz.func101
def cn (c0:sN):Option (sN×Int) :=
 (aa c0 1000).bind λt5 =>
 (ah t5.1 [0,1,(-1),127,128,(-128),(-129),255,256,32767,32768,(-32769),8388608,2147483647,(-2147483648),2147483648,(-2147483649),9223372036854775807,(-9223372036854775808),t5.2]).bind λt7 =>
 some t7
def nz:FL:=(199,⟨[.ptr ue none],[.val false sH (some true)],λa=>cn a⟩)::ny
theorem sn:Gd nz:=sI sm 199 Tryz.f199 [] Tryz.func199
def ay (c0:sN):Option (sN×wl) :=
 (aa c0 6).bind λt4 =>
 cond (t4.2==0)
 (some (t4.1,(5,0,[],[])))
 (cond (t4.2==1)
 (cond (t4.2==1)
 ((cn t4.1).bind λt12 =>
 (av t12.2).bind λt13 =>
 (ai t13).bind λt14 =>
 some (t12.1,t14))
 (cond (t4.2==3)
 ((bc t4.1 ([[],[97],[121,97,114,100],[0]]:List (List UInt8))).bind λt19 =>
 some (t19.1,(4,0,t19.2,[])))
 (cond (t4.2==4)
 ((aJ t4.1).bind λt24 =>
 some (t24.1,(6,0,[],t24.2)))
 ((ah t4.1 ([128,130]:List Int)).bind λt28 =>
 some (t28.1,(t28.2,0,[],[]))))))
 (cond (t4.2==2)
 ((cn t4.1).bind λt12_1 =>
 (av t12_1.2).bind λt13_1 =>
 (ai t13_1).bind λt14_1 =>
 some (t12_1.1,t14_1))
 (cond (t4.2==3)
 ((bc t4.1 ([[],[97],[121,97,114,100],[0]]:List (List UInt8))).bind λt19_1 =>
 some (t19_1.1,(4,0,t19_1.2,[])))
 (cond (t4.2==4)
 ((aJ t4.1).bind λt24_1 =>
 some (t24_1.1,(6,0,[],t24_1.2)))
 ((ah t4.1 ([128,130]:List Int)).bind λt28_1 =>
 some (t28_1.1,(t28_1.2,0,[],[])))))))
def nA:FL:=(102,⟨[.ptr ue none],[.val true xB (some true)],λa=>ay a⟩)::nz
theorem so:Gd nA:=sI sn 102 Tryz.f102 [] Tryz.func102
def ax (c0:sN) (b1:sx):Option (sN×List Int) :=
 (cY b1).bind λt7 =>
 cond (decide ((t7.length:Int)>0))
 ((bN c0 4).bind λt13 =>
 cond (!t13.2)
 ((aa t13.1 (t7.length:Int)).bind λt21 =>
 (ix t7.length t21.2).bind λj22 =>
 (t7[j22]?).bind λx24 =>
 (sT ([]:List Int) x24.1).bind λzs25 =>
 some (t21.1,zs25))
 ((aa t13.1 8).bind λt27 =>
 cond (t27.2==0)
 (some (t27.1,([0]:List Int)))
 (cond (t27.2==1)
 (some (t27.1,([1,3,1]:List Int)))
 (cond (t27.2==2)
 ((af ([2,2,9]:List Int)).bind λt37 =>
 some (t27.1,t37))
 (cond (t27.2==3)
 ((aa t27.1 9).bind λt41 =>
 (af [3,1,sy (1+t41.2)]).bind λt44 =>
 some (t41.1,t44))
 (cond (t27.2==4)
 ((af ([2,2]:List Int)).bind λt48 =>
 some (t27.1,t48))
 (cond (t27.2==5)
 ((af ([9]:List Int)).bind λt52 =>
 some (t27.1,t52))
 (cond (t27.2==6)
 ((af ([4,1,2,11]:List Int)).bind λt56 =>
 some (t27.1,t56))
 ((aJ t27.1).bind λt58 =>
 some t58)))))))))
 ((aa c0 8).bind λt27_1 =>
 cond (t27_1.2==0)
 (some (t27_1.1,([0]:List Int)))
 (cond (t27_1.2==1)
 (some (t27_1.1,([1,3,1]:List Int)))
 (cond (t27_1.2==2)
 ((af ([2,2,9]:List Int)).bind λt37_1 =>
 some (t27_1.1,t37_1))
 (cond (t27_1.2==3)
 ((aa t27_1.1 9).bind λt41_1 =>
 (af [3,1,sy (1+t41_1.2)]).bind λt44_1 =>
 some (t41_1.1,t44_1))
 (cond (t27_1.2==4)
 ((af ([2,2]:List Int)).bind λt48_1 =>
 some (t27_1.1,t48_1))
 (cond (t27_1.2==5)
 ((af ([9]:List Int)).bind λt52_1 =>
 some (t27_1.1,t52_1))
 (cond (t27_1.2==6)
 ((af ([4,1,2,11]:List Int)).bind λt56_1 =>
 some (t27_1.1,t56_1))
 ((aJ t27_1.1).bind λt58_1 =>
 some t58_1))))))))
def nB:FL:=(165,⟨[.ptr ue none,.val true sX false],[.val false vb (some true)],λa=>ax a.1 a.2⟩)::nA
theorem sq:Gd nB:=sI so 165 Tryz.f165 [] Tryz.func165
def gV (p0:sN) (i1:sx):Option (sN×sB) :=
 (aa p0 (sy ((i1.2.2.1.length:Int)+1))).bind λt12 =>
 (shl .i64 1 (IntKind.u64.wrap ((i1.2.2.1.length:Int)))).bind λt18 =>
 (aa t12.1 10).bind λt21 =>
 cond (t21.2==0)
 ((af ([1,1]:List Int)).bind λt25 =>
 (bc t21.1 ([[110,101,119],[],[101,108,101,118,101,110,45,98,121,116,101]]:List (List UInt8))).bind λt28 =>
 some (t28.1,(t25,4,0,t28.2,[])))
 (cond (t21.2==1)
 (cond (t21.2==1)
 ((af [2,2,sy (1+t12.2)]).bind λt36 =>
 (ah t21.1 ([1,5,1000,0,1001]:List Int)).bind λt39 =>
 (ai t39.2).bind λt40 =>
 some (t39.1,(t36,t40.1,t40.2.1,t40.2.2.1,t40.2.2.2)))
 (cond (t21.2==3)
 ((af [2,4,sy (1+t12.2)]).bind λt46 =>
 (aa t21.1 4).bind λt48 =>
 (ai (sy (1+t48.2))).bind λt50 =>
 some (t48.1,(t46,t50.1,t50.2.1,t50.2.2.1,t50.2.2.2)))
 (cond (t21.2==4)
 (cond (t21.2==4)
 ((aa t21.1 4).bind λt56 =>
 (af [3,1,sy (1+t56.2)]).bind λt59 =>
 (ah t56.1 ([4,4,6,1]:List Int)).bind λt62 =>
 (ai t62.2).bind λt63 =>
 some (t62.1,(t59,t63.1,t63.2.1,t63.2.2.1,t63.2.2.2)))
 (cond (t21.2==6)
 (cond (t21.2==6)
 ((aa t21.1 4).bind λt69 =>
 (af [3,2,sy (1+t69.2)]).bind λt72 =>
 (aa t69.1 (sy ((sy (t18-1))+2))).bind λt76 =>
 (ai t76.2).bind λt77 =>
 some (t76.1,(t72,t77.1,t77.2.1,t77.2.2.1,t77.2.2.2)))
 (cond (t21.2==8)
 ((aa t21.1 4).bind λt82 =>
 (af [3,3,sy (1+t82.2)]).bind λt85 =>
 (aa t82.1 (sy ((sy (t18-1))+1))).bind λt89 =>
 (ai t89.2).bind λt90 =>
 some (t89.1,(t85,t90.1,t90.2.1,t90.2.2.1,t90.2.2.2)))
 ((ax t21.1 i1).bind λt94 =>
 (ay t94.1).bind λt96 =>
 some (t96.1,(t94.2,t96.2.1,t96.2.2.1,t96.2.2.2.1,t96.2.2.2.2)))))
 (cond (t21.2==7)
 ((aa t21.1 4).bind λt69_1 =>
 (af [3,2,sy (1+t69_1.2)]).bind λt72_1 =>
 (aa t69_1.1 (sy ((sy (t18-1))+2))).bind λt76_1 =>
 (ai t76_1.2).bind λt77_1 =>
 some (t76_1.1,(t72_1,t77_1.1,t77_1.2.1,t77_1.2.2.1,t77_1.2.2.2)))
 (cond (t21.2==8)
 ((aa t21.1 4).bind λt82_1 =>
 (af [3,3,sy (1+t82_1.2)]).bind λt85_1 =>
 (aa t82_1.1 (sy ((sy (t18-1))+1))).bind λt89_1 =>
 (ai t89_1.2).bind λt90_1 =>
 some (t89_1.1,(t85_1,t90_1.1,t90_1.2.1,t90_1.2.2.1,t90_1.2.2.2)))
 ((ax t21.1 i1).bind λt94_1 =>
 (ay t94_1.1).bind λt96_1 =>
 some (t96_1.1,(t94_1.2,t96_1.2.1,t96_1.2.2.1,t96_1.2.2.2.1,t96_1.2.2.2.2)))))))
 (cond (t21.2==5)
 ((aa t21.1 4).bind λt56_1 =>
 (af [3,1,sy (1+t56_1.2)]).bind λt59_1 =>
 (ah t56_1.1 ([4,4,6,1]:List Int)).bind λt62_1 =>
 (ai t62_1.2).bind λt63_1 =>
 some (t62_1.1,(t59_1,t63_1.1,t63_1.2.1,t63_1.2.2.1,t63_1.2.2.2)))
 (cond (t21.2==6)
 (cond (t21.2==6)
 ((aa t21.1 4).bind λt69_2 =>
 (af [3,2,sy (1+t69_2.2)]).bind λt72_2 =>
 (aa t69_2.1 (sy ((sy (t18-1))+2))).bind λt76_2 =>
 (ai t76_2.2).bind λt77_2 =>
 some (t76_2.1,(t72_2,t77_2.1,t77_2.2.1,t77_2.2.2.1,t77_2.2.2.2)))
 (cond (t21.2==8)
 ((aa t21.1 4).bind λt82_2 =>
 (af [3,3,sy (1+t82_2.2)]).bind λt85_2 =>
 (aa t82_2.1 (sy ((sy (t18-1))+1))).bind λt89_2 =>
 (ai t89_2.2).bind λt90_2 =>
 some (t89_2.1,(t85_2,t90_2.1,t90_2.2.1,t90_2.2.2.1,t90_2.2.2.2)))
 ((ax t21.1 i1).bind λt94_2 =>
 (ay t94_2.1).bind λt96_2 =>
 some (t96_2.1,(t94_2.2,t96_2.2.1,t96_2.2.2.1,t96_2.2.2.2.1,t96_2.2.2.2.2)))))
 (cond (t21.2==7)
 ((aa t21.1 4).bind λt69_3 =>
 (af [3,2,sy (1+t69_3.2)]).bind λt72_3 =>
 (aa t69_3.1 (sy ((sy (t18-1))+2))).bind λt76_3 =>
 (ai t76_3.2).bind λt77_3 =>
 some (t76_3.1,(t72_3,t77_3.1,t77_3.2.1,t77_3.2.2.1,t77_3.2.2.2)))
 (cond (t21.2==8)
 ((aa t21.1 4).bind λt82_3 =>
 (af [3,3,sy (1+t82_3.2)]).bind λt85_3 =>
 (aa t82_3.1 (sy ((sy (t18-1))+1))).bind λt89_3 =>
 (ai t89_3.2).bind λt90_3 =>
 some (t89_3.1,(t85_3,t90_3.1,t90_3.2.1,t90_3.2.2.1,t90_3.2.2.2)))
 ((ax t21.1 i1).bind λt94_3 =>
 (ay t94_3.1).bind λt96_3 =>
 some (t96_3.1,(t94_3.2,t96_3.2.1,t96_3.2.2.1,t96_3.2.2.2.1,t96_3.2.2.2.2))))))))))
 (cond (t21.2==2)
 ((af [2,2,sy (1+t12.2)]).bind λt36_1 =>
 (ah t21.1 ([1,5,1000,0,1001]:List Int)).bind λt39_1 =>
 (ai t39_1.2).bind λt40_1 =>
 some (t39_1.1,(t36_1,t40_1.1,t40_1.2.1,t40_1.2.2.1,t40_1.2.2.2)))
 (cond (t21.2==3)
 ((af [2,4,sy (1+t12.2)]).bind λt46_1 =>
 (aa t21.1 4).bind λt48_1 =>
 (ai (sy (1+t48_1.2))).bind λt50_1 =>
 some (t48_1.1,(t46_1,t50_1.1,t50_1.2.1,t50_1.2.2.1,t50_1.2.2.2)))
 (cond (t21.2==4)
 (cond (t21.2==4)
 ((aa t21.1 4).bind λt56_2 =>
 (af [3,1,sy (1+t56_2.2)]).bind λt59_2 =>
 (ah t56_2.1 ([4,4,6,1]:List Int)).bind λt62_2 =>
 (ai t62_2.2).bind λt63_2 =>
 some (t62_2.1,(t59_2,t63_2.1,t63_2.2.1,t63_2.2.2.1,t63_2.2.2.2)))
 (cond (t21.2==6)
 (cond (t21.2==6)
 ((aa t21.1 4).bind λt69_4 =>
 (af [3,2,sy (1+t69_4.2)]).bind λt72_4 =>
 (aa t69_4.1 (sy ((sy (t18-1))+2))).bind λt76_4 =>
 (ai t76_4.2).bind λt77_4 =>
 some (t76_4.1,(t72_4,t77_4.1,t77_4.2.1,t77_4.2.2.1,t77_4.2.2.2)))
 (cond (t21.2==8)
 ((aa t21.1 4).bind λt82_4 =>
 (af [3,3,sy (1+t82_4.2)]).bind λt85_4 =>
 (aa t82_4.1 (sy ((sy (t18-1))+1))).bind λt89_4 =>
 (ai t89_4.2).bind λt90_4 =>
 some (t89_4.1,(t85_4,t90_4.1,t90_4.2.1,t90_4.2.2.1,t90_4.2.2.2)))
 ((ax t21.1 i1).bind λt94_4 =>
 (ay t94_4.1).bind λt96_4 =>
 some (t96_4.1,(t94_4.2,t96_4.2.1,t96_4.2.2.1,t96_4.2.2.2.1,t96_4.2.2.2.2)))))
 (cond (t21.2==7)
 ((aa t21.1 4).bind λt69_5 =>
 (af [3,2,sy (1+t69_5.2)]).bind λt72_5 =>
 (aa t69_5.1 (sy ((sy (t18-1))+2))).bind λt76_5 =>
 (ai t76_5.2).bind λt77_5 =>
 some (t76_5.1,(t72_5,t77_5.1,t77_5.2.1,t77_5.2.2.1,t77_5.2.2.2)))
 (cond (t21.2==8)
 ((aa t21.1 4).bind λt82_5 =>
 (af [3,3,sy (1+t82_5.2)]).bind λt85_5 =>
 (aa t82_5.1 (sy ((sy (t18-1))+1))).bind λt89_5 =>
 (ai t89_5.2).bind λt90_5 =>
 some (t89_5.1,(t85_5,t90_5.1,t90_5.2.1,t90_5.2.2.1,t90_5.2.2.2)))
 ((ax t21.1 i1).bind λt94_5 =>
 (ay t94_5.1).bind λt96_5 =>
 some (t96_5.1,(t94_5.2,t96_5.2.1,t96_5.2.2.1,t96_5.2.2.2.1,t96_5.2.2.2.2)))))))
 (cond (t21.2==5)
 ((aa t21.1 4).bind λt56_3 =>
 (af [3,1,sy (1+t56_3.2)]).bind λt59_3 =>
 (ah t56_3.1 ([4,4,6,1]:List Int)).bind λt62_3 =>
 (ai t62_3.2).bind λt63_3 =>
 some (t62_3.1,(t59_3,t63_3.1,t63_3.2.1,t63_3.2.2.1,t63_3.2.2.2)))
 (cond (t21.2==6)
 (cond (t21.2==6)
 ((aa t21.1 4).bind λt69_6 =>
 (af [3,2,sy (1+t69_6.2)]).bind λt72_6 =>
 (aa t69_6.1 (sy ((sy (t18-1))+2))).bind λt76_6 =>
 (ai t76_6.2).bind λt77_6 =>
 some (t76_6.1,(t72_6,t77_6.1,t77_6.2.1,t77_6.2.2.1,t77_6.2.2.2)))
 (cond (t21.2==8)
 ((aa t21.1 4).bind λt82_6 =>
 (af [3,3,sy (1+t82_6.2)]).bind λt85_6 =>
 (aa t82_6.1 (sy ((sy (t18-1))+1))).bind λt89_6 =>
 (ai t89_6.2).bind λt90_6 =>
 some (t89_6.1,(t85_6,t90_6.1,t90_6.2.1,t90_6.2.2.1,t90_6.2.2.2)))
 ((ax t21.1 i1).bind λt94_6 =>
 (ay t94_6.1).bind λt96_6 =>
 some (t96_6.1,(t94_6.2,t96_6.2.1,t96_6.2.2.1,t96_6.2.2.2.1,t96_6.2.2.2.2)))))
 (cond (t21.2==7)
 ((aa t21.1 4).bind λt69_7 =>
 (af [3,2,sy (1+t69_7.2)]).bind λt72_7 =>
 (aa t69_7.1 (sy ((sy (t18-1))+2))).bind λt76_7 =>
 (ai t76_7.2).bind λt77_7 =>
 some (t76_7.1,(t72_7,t77_7.1,t77_7.2.1,t77_7.2.2.1,t77_7.2.2.2)))
 (cond (t21.2==8)
 ((aa t21.1 4).bind λt82_7 =>
 (af [3,3,sy (1+t82_7.2)]).bind λt85_7 =>
 (aa t82_7.1 (sy ((sy (t18-1))+1))).bind λt89_7 =>
 (ai t89_7.2).bind λt90_7 =>
 some (t89_7.1,(t85_7,t90_7.1,t90_7.2.1,t90_7.2.2.1,t90_7.2.2.2)))
 ((ax t21.1 i1).bind λt94_7 =>
 (ay t94_7.1).bind λt96_7 =>
 some (t96_7.1,(t94_7.2,t96_7.2.1,t96_7.2.2.1,t96_7.2.2.2.1,t96_7.2.2.2.2)))))))))))
def nC:FL:=(272,⟨[.ptr ue none,.val true sX false],[.val true sS (some true)],λa=>gV a.1 a.2⟩)::nB
theorem sr:Gd nC:=sI sq 272 Tryz.f272 [] Tryz.func272
def dj (b1:sx) (i6:Int) (b0:List Int) (b1_1:Int) (b2:Int) (out5:List sB):Option ((Int×List Int×Int×Int×List sB)⊕(List Int×Int×Int×List sB)) :=
 cond (decide (i6>0))
 ((gV (b0,b1_1,b2) b1).bind λt17 =>
 (sT out5 [t17.2]).bind λzs19 =>
 some (.inl (sy (i6-1),t17.1.1,t17.1.2.1,t17.1.2.2,zs19)))
 (some (.inr (b0,b1_1,b2,out5)))
def fC (c0:sN) (b1:sx):Option (sN×List sB) :=
 (aa c0 4).bind λt9 =>
 (loop (λz=>dj b1 z.1 z.2.1 z.2.2.1 z.2.2.2.1 z.2.2.2.2) (t9.2,t9.1.1,t9.1.2.1,t9.1.2.2,([]:List sB))).bind λd =>
 some ((d.1,d.2.1,d.2.2.1),d.2.2.2)
def nD:FL:=(164,⟨[.ptr ue none,.val true sX false],[.val false (.one (.sl sS)) (some true)],λa=>fC a.1 a.2⟩)::nC
theorem su:Gd nD:=sI sr 164 Tryz.f164 [(0,⟨⟨[(5,false,[.own 1000000000]),(6,false,[dI])],[(1,.box [.dat (.sl (.one (.int .u8))),dI,dI]),(1000000000,.root sS true)]⟩,
 ⟨[(5,false,[.own 1000000300])],[(1,.box [.dat (.sl (.one (.int .u8))),dI,dI]),(1000000300,.root sS true)]⟩,none⟩)] Tryz.func164
def dk (b1:sx) (i6:Int) (b0:List Int) (b1_1:Int) (b2:Int) (b0_1:Int) (b1_2:Int) (b2_1:Int) (b3:Int) (b4:List sB):Option ((Int×List Int×Int×Int×Int×Int×Int×Int×List sB)⊕(List Int×Int×Int×Int×Int×Int×Int×List sB)) :=
 cond (decide (i6>0))
 ((ax (b0,b1_1,b2) b1).bind λt31 =>
 (sT b4 ([(t31.2,5,0,[],[])])).bind λzs35 =>
 some (.inl (sy (i6-1),t31.1.1,t31.1.2.1,t31.1.2.2,b0_1,b1_2,b2_1,b3,zs35)))
 (some (.inr (b0,b1_1,b2,b0_1,b1_2,b2_1,b3,b4)))
def bO (c0:sN) (b1:sx):Option (sN×tg) :=
 (ah c0 ([160,161,163,163,165]:List Int)).bind λt9 =>
 (aa t9.1 100).bind λt11 =>
 cond (t9.2==163)
 ((fC t11.1 b1).bind λt18 =>
 some (t18.1,(t9.2,t11.2,0,0,t18.2)))
 ((aa t11.1 4).bind λt22 =>
 (loop (λz=>dk b1 z.1 z.2.1 z.2.2.1 z.2.2.2.1 z.2.2.2.2.1 z.2.2.2.2.2.1 z.2.2.2.2.2.2.1 z.2.2.2.2.2.2.2.1 z.2.2.2.2.2.2.2.2) (t22.2,t22.1.1,t22.1.2.1,t22.1.2.2,t9.2,t11.2,0,0,[])).bind λd =>
 cond (d.2.2.2.1==165)
 ((aa (d.1,d.2.1,d.2.2.1) 3).bind λt41 =>
 (aa t41.1 5).bind λt44 =>
 some (t44.1,(d.2.2.2.1,d.2.2.2.2.1,t41.2,t44.2,d.2.2.2.2.2.2.2)))
 (some ((d.1,d.2.1,d.2.2.1),d.2.2.2)))
def iE:FL:=(75,⟨[.ptr ue none,.val true sX false],[.val true uN (some true)],λa=>bO a.1 a.2⟩)::nD
theorem nF:Gd iE:=sI su 75 Tryz.f75 [(0,⟨⟨[(6,false,[dI])],[(1,.box [.dat (.sl (.one (.int .u8))),dI,dI]),(269312,.box [dI,dI,dI,dI,.own 1000000000]),(1000000000,.root sS true)]⟩,
 ⟨[],[(1,.box [.dat (.sl (.one (.int .u8))),dI,dI]),(269312,.box [dI,dI,dI,dI,.own 1000000300]),(1000000300,.root sS true)]⟩,none⟩)] Tryz.func75
def co (i4:Int) (b0:List Int) (b1:Int) (b2:Int) (b0_1:Int) (b1_1:Int) (b2_1:Int) (b3:Int) (b4:List sB):Option ((Int×List Int×Int×Int×Int×Int×Int×Int×List sB)⊕(List Int×Int×Int×Int×Int×Int×Int×List sB)) :=
 cond (decide (i4>0))
 ((aJ (b0,b1,b2)).bind λt35 =>
 (ay t35.1).bind λt37 =>
 (sT b4 [(t35.2,t37.2.1,t37.2.2.1,t37.2.2.2.1,t37.2.2.2.2)]).bind λzs40 =>
 some (.inl (sy (i4-1),t37.1.1,t37.1.2.1,t37.1.2.2,b0_1,b1_1,b2_1,b3,zs40)))
 (some (.inr (b0,b1,b2,b0_1,b1_1,b2_1,b3,b4)))
end
end Go.V.W
