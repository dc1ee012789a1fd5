/- The law FnExactSafe: part of the proof that for every input it returns true. No condition. -/
import Derived.Test.YtobeipmgjajdlaaGreatV4
import Derived.Test.YtobeipmgjajdlaaGreatProg
import Derived.Test.YtobeipmgjajdlaaGreatChecked
import Derived.KernelRfl
set_option linter.unusedVariables false
set_option linter.unusedSimpArgs false
namespace Go.V.W
open Go.Proofs
noncomputable section
def us:Nat->Nat->List (Nat×Bool×List lP)->List (Nat×Bool×List lP)|_,0,l=>l|a,n+1,l=>(a,false,[.undef])::us (a+1) n l
@[reducible] def kP:Cs:=.one (.int .i64)
@[reducible] def lm:Cs:=.one .bool
@[reducible] def pZ:Cs:=.one (.sl (.one (.int .u8)))
@[reducible] def nF:Cs:=.one (.sl (.one (.int .i64)))
@[reducible] def dI:lP:=.dat (.int .i64)
@[reducible] def dB:lP:=.dat .bool
@[reducible] def nl:Cs:=.cons (.int .i64) (.cons (.int .i64) (.cons (.int .i64) (.cons (.int .i64) kP)))
@[reducible] def nZ:Cs:=.cons .bool (.cons (.int .i64) (.cons .bool (.cons (.int .i64) (.cons (.int .i64) (.cons (.int .i64) (.cons (.int .i64) kP))))))
@[reducible] def mQ:Cs:=.cons (.int .i64) (.cons (.int .i64) (.cons (.int .i64) (.cons (.int .i64) lm)))
@[reducible] def nE:Cs:=.cons (.int .i64) (.cons (.int .i64) kP)
@[reducible] def pb:Cs:=.cons (.sl nE) nF
@[reducible] def lC:Cs:=.cons (.int .i64) (.cons .str (.cons (.sl nZ) (.cons (.sl mQ) (.cons (.sl nE) (.cons (.sl kP) (.cons (.int .i64) (.cons (.int .i64) (.cons (.int .i64) (.cons (.int .i64) kP)))))))))
@[reducible] def mI:Cs:=.cons (.int .i64) (.cons (.int .i64) (.cons (.int .i64) kP))
@[reducible] def nn:Cs:=.cons (.int .i64) (.cons .bool (.cons (.int .i64) (.cons (.int .i64) (.cons (.int .i64) (.cons (.int .i64) kP)))))
@[reducible] def lq:Cs:=.cons (.sl lC) (.cons (.sl mI) (.one (.sl nn)))
abbrev nG:Type:=Int×Int×Int×Int×Int
abbrev Pt:Type:=Bool×Int×Bool×Int×Int×Int×Int×Int
abbrev ma:Type:=Int×Int×Int×Int×Bool
abbrev nK:Type:=Int×Int×Int
abbrev n6:Type:=List nK×List Int
abbrev kZ:Type:=Int×List UInt8×List Pt×List ma×List nK×List Int×Int×Int×Int×Int×Int
abbrev lp:Type:=Int×Int×Int×Int
abbrev nH:Type:=Int×Bool×Int×Int×Int×Int×Int
abbrev kK:Type:=List kZ×List lp×List nH
def tis:List (Nat×kY):=[(2,⟨false,.one (.int .i64),[],0⟩),
 (3,⟨false,.one (.int .i64),[],0⟩),
 (4,⟨false,.one .bool,[],0⟩),
 (5,⟨false,.one (.int .u8),[],0⟩),
 (6,⟨false,.one (.int .u8),[],0⟩),
 (9,⟨false,.one .str,[],0⟩),
 (10,⟨false,.one .str,[],0⟩),
 (11,⟨false,.one .str,[],0⟩),
 (12,⟨false,.one (.int .u64),[],0⟩),
 (21,⟨false,.one (.int .i32),[],0⟩),
 (22,⟨false,.one (.sl lC),[],84⟩),
 (23,⟨false,.one (.sl mI),[],103⟩),
 (24,⟨false,.one (.sl nn),[],111⟩),
 (25,⟨true,lq,[(22,0),(23,1),(24,2)],0⟩),
 (26,⟨true,lq,[(22,0),(23,1),(24,2)],0⟩),
 (27,⟨false,.one (.sl (.one (.int .u8))),[],5⟩),
 (28,⟨true,.cons (.int .i64) (.cons (.int .i64) (.cons (.int .i64) pZ)),[(3,0),(3,1),(3,2),(27,3)],0⟩),
 (29,⟨true,.cons (.int .i64) (.cons (.int .i64) (.cons (.int .i64) pZ)),[(3,0),(3,1),(3,2),(27,3)],0⟩),
 (32,⟨false,.one (.sl kP),[],3⟩),
 (34,⟨false,.one (.sl lC),[],92⟩),
 (35,⟨false,.one (.sl mI),[],101⟩),
 (36,⟨false,.one (.sl nn),[],107⟩),
 (37,⟨true,lq,[(34,0),(35,1),(36,2)],0⟩),
 (38,⟨true,lq,[(34,0),(35,1),(36,2)],0⟩),
 (40,⟨true,.cons (.int .i64) (.cons (.int .i64) (.cons (.int .i64) pZ)),[(3,0),(3,1),(3,2),(27,3)],0⟩),
 (55,⟨false,.one (.sl (.cons (.int .i64) (.cons (.int .i64) (.cons (.int .i64) (.cons (.int .i64) (.cons (.int .i64) pZ)))))),[],94⟩),
 (56,⟨false,.one (.sl (.cons (.int .i64) (.cons (.int .i64) (.cons (.int .i64) (.cons (.int .i64) (.cons (.int .i64) pZ)))))),[],126⟩),
 (57,⟨true,.cons (.sl lC) (.cons (.sl mI) (.cons (.sl nn) (.cons (.sl (.cons (.int .i64) (.cons (.int .i64) (.cons (.int .i64) (.cons (.int .i64) (.cons (.int .i64) pZ)))))) (.cons (.sl (.cons (.int .i64) (.cons (.int .i64) (.cons (.int .i64) (.cons (.int .i64) (.cons (.int .i64) pZ)))))) (.cons (.sl kP) kP))))),[(38,0),(55,3),(56,4),(32,5),(3,6)],0⟩),
 (58,⟨true,.cons (.sl lC) (.cons (.sl mI) (.cons (.sl nn) (.cons (.sl (.cons (.int .i64) (.cons (.int .i64) (.cons (.int .i64) (.cons (.int .i64) (.cons (.int .i64) pZ)))))) (.cons (.sl (.cons (.int .i64) (.cons (.int .i64) (.cons (.int .i64) (.cons (.int .i64) (.cons (.int .i64) pZ)))))) (.cons (.sl kP) kP))))),[(38,0),(55,3),(56,4),(32,5),(3,6)],0⟩),
 (78,⟨false,.one (.sl nZ),[],194⟩),
 (79,⟨false,.one (.sl mQ),[],196⟩),
 (80,⟨false,.one (.sl nE),[],210⟩),
 (81,⟨true,pb,[(80,0),(32,1)],0⟩),
 (82,⟨true,pb,[(80,0),(32,1)],0⟩),
 (83,⟨true,lC,[(3,0),(9,1),(78,2),(79,3),(82,4),(3,6),(3,7),(3,8),(3,9),(3,10)],0⟩),
 (84,⟨true,lC,[(3,0),(9,1),(78,2),(79,3),(82,4),(3,6),(3,7),(3,8),(3,9),(3,10)],0⟩),
 (86,⟨false,.one (.sl nZ),[],113⟩),
 (87,⟨false,.one (.sl mQ),[],173⟩),
 (88,⟨false,.one (.sl nE),[],175⟩),
 (89,⟨true,pb,[(88,0),(32,1)],0⟩),
 (90,⟨true,pb,[(88,0),(32,1)],0⟩),
 (91,⟨true,lC,[(3,0),(9,1),(86,2),(87,3),(90,4),(3,6),(3,7),(3,8),(3,9),(3,10)],0⟩),
 (92,⟨true,lC,[(3,0),(9,1),(86,2),(87,3),(90,4),(3,6),(3,7),(3,8),(3,9),(3,10)],0⟩),
 (93,⟨true,.cons (.int .i64) (.cons (.int .i64) (.cons (.int .i64) (.cons (.int .i64) (.cons (.int .i64) pZ)))),[(3,0),(3,1),(40,2)],0⟩),
 (94,⟨true,.cons (.int .i64) (.cons (.int .i64) (.cons (.int .i64) (.cons (.int .i64) (.cons (.int .i64) pZ)))),[(3,0),(3,1),(40,2)],0⟩),
 (95,⟨false,.one (.sl (.cons (.int .i64) (.cons (.int .i64) (.cons (.int .i64) (.cons (.int .i64) pZ))))),[],122⟩),
 (100,⟨true,mI,[(3,0),(3,1),(3,2),(3,3)],0⟩),
 (101,⟨true,mI,[(3,0),(3,1),(3,2),(3,3)],0⟩),
 (103,⟨true,mI,[(3,0),(3,1),(3,2),(3,3)],0⟩),
 (104,⟨true,nl,[(3,0),(3,1),(3,2),(3,3),(3,4)],0⟩),
 (105,⟨true,nl,[(3,0),(3,1),(3,2),(3,3),(3,4)],0⟩),
 (106,⟨true,nn,[(3,0),(4,1),(105,2)],0⟩),
 (107,⟨true,nn,[(3,0),(4,1),(105,2)],0⟩),
 (109,⟨true,nl,[(3,0),(3,1),(3,2),(3,3),(3,4)],0⟩),
 (110,⟨true,nn,[(3,0),(4,1),(109,2)],0⟩),
 (111,⟨true,nn,[(3,0),(4,1),(109,2)],0⟩),
 (112,⟨true,nZ,[(4,0),(3,1),(4,2),(105,3)],0⟩),
 (113,⟨true,nZ,[(4,0),(3,1),(4,2),(105,3)],0⟩),
 (118,⟨true,.cons (.int .i64) (.cons (.int .i64) (.cons (.int .i64) (.cons (.int .i64) (.cons (.int .i64) pZ)))),[(3,0),(3,1),(40,2)],0⟩),
 (119,⟨true,.cons (.int .i64) (.cons (.int .i64) (.cons (.int .i64) (.cons (.int .i64) (.cons (.int .i64) pZ)))),[(3,0),(3,1),(40,2)],0⟩),
 (120,⟨false,.one (.sl (.cons (.int .i64) (.cons (.int .i64) (.cons (.int .i64) (.cons (.int .i64) (.cons (.int .i64) pZ)))))),[],119⟩),
 (121,⟨true,.cons (.int .i64) (.cons (.int .i64) (.cons (.int .i64) (.cons (.int .i64) pZ))),[(3,0),(40,1)],0⟩),
 (122,⟨true,.cons (.int .i64) (.cons (.int .i64) (.cons (.int .i64) (.cons (.int .i64) pZ))),[(3,0),(40,1)],0⟩),
 (125,⟨true,.cons (.int .i64) (.cons (.int .i64) (.cons (.int .i64) (.cons (.int .i64) (.cons (.int .i64) pZ)))),[(3,0),(3,1),(40,2)],0⟩),
 (126,⟨true,.cons (.int .i64) (.cons (.int .i64) (.cons (.int .i64) (.cons (.int .i64) (.cons (.int .i64) pZ)))),[(3,0),(3,1),(40,2)],0⟩),
 (157,⟨false,.one (.int .u64),[],0⟩),
 (172,⟨true,mQ,[(3,0),(3,1),(3,2),(3,3),(4,4)],0⟩),
 (173,⟨true,mQ,[(3,0),(3,1),(3,2),(3,3),(4,4)],0⟩),
 (174,⟨true,nE,[(3,0),(3,1),(3,2)],0⟩),
 (175,⟨true,nE,[(3,0),(3,1),(3,2)],0⟩),
 (187,⟨false,.one (.sl lm),[],4⟩),
 (193,⟨true,nZ,[(4,0),(3,1),(4,2),(109,3)],0⟩),
 (194,⟨true,nZ,[(4,0),(3,1),(4,2),(109,3)],0⟩),
 (196,⟨true,mQ,[(3,0),(3,1),(3,2),(3,3),(4,4)],0⟩),
 (210,⟨true,nE,[(3,0),(3,1),(3,2)],0⟩),
 (219,⟨false,.one (.int .u32),[],0⟩),
 (220,⟨false,.one (.int .u8),[],0⟩),
 (221,⟨false,.one (.int .u8),[],0⟩),
 (224,⟨false,.one (.int .i32),[],0⟩),
 (225,⟨false,.one (.int .i32),[],0⟩)]
theorem tisT:mh Tryz.prog tis:=mh.of_all (by kernel_rfl)
theorem Df:xh Tryz.prog tis:=xh.of_all (by kernel_rfl)
theorem tisD:Deep Tryz.prog tis:=Deep.of_all (by kernel_rfl)
theorem CE:Tryz.prog.follows .mixedOrders=true:=by kernel_rfl
def vu (fn:Func):Code:=match fn.body with|some c=>c|none=>.skip
theorem gJ:oF Tryz.prog ⟨tis,[],[],false⟩:=⟨tisT,Df,(λf F h=>by cases h),(λf M h=>by cases h),(λh=>by cases h)⟩
theorem Dc {l : List (FuncId×Fn)} (g : oF Tryz.prog ⟨tis, l, [], false⟩) (n : FuncId) (f : Func) (ann : List (Nat×kL)) (F : Fn) (h1 : Tryz.prog.funcs[n]?=some f) (h2 : (f.name == "runtime.NumGoroutine")=false := by kernel_rfl) (h3 : f.body=some (vu f) := by kernel_rfl) (h4 : v7 ⟨tis, l, [], false⟩ ann f (vu f) F.ps F.rs=F.den := by kernel_rfl) : rJ Tryz.prog n F := by
 have h:=AO (ann:=ann) (ps:=F.ps) (rs:=F.rs) g CE h1 h2 h3;rw[h4]at h;exact h
abbrev FL:=List (FuncId×Fn)
def Gd (l:FL):Prop:=oF Tryz.prog ⟨tis,l,[],false⟩
theorem kX {l : List (FuncId×Fn)} (g : Gd l) (n : FuncId) (f : Func) (ann : List (Nat×kL)) {F : Fn} (h1 : Tryz.prog.funcs[n]?=some f) (h2 : (f.name == "runtime.NumGoroutine")=false := by kernel_rfl) (h3 : f.body=some (vu f) := by kernel_rfl) (h4 : v7 ⟨tis, l, [], false⟩ ann f (vu f) F.ps F.rs=F.den := by kernel_rfl) : Gd ((n, F)::l) := oF.cons g (Dc g n f ann F h1 h2 h3 h4)
def cP (a0:List Pt) (left1:Int):Option Int :=
 let left1_1:=kJ (left1-(a0.length:Int))
 cond (decide (left1_1<0)) (some (-1)) (some left1_1)
def dO:FL:=(98,⟨[.val false (.one (.sl nZ)) false,.val false kP false],[.val false kP (some true)],λa=>cP a.1 a.2⟩)::[]
theorem gK:Gd dO:=kX gJ 98 Tryz.f98 [] Tryz.func98
def cQ (a0:List ma) (left1:Int):Option Int :=
 let left1_1:=kJ (left1-(a0.length:Int))
 cond (decide (left1_1<0)) (some (-1)) (some left1_1)
def dP:FL:=(99,⟨[.val false (.one (.sl mQ)) false,.val false kP false],[.val false kP (some true)],λa=>cQ a.1 a.2⟩)::dO
theorem gL:Gd dP:=kX gK 99 Tryz.f99 [] Tryz.func99
def cR (a0:List nK) (left1:Int):Option Int :=
 let left1_1:=kJ (left1-(a0.length:Int))
 cond (decide (left1_1<0)) (some (-1)) (some left1_1)
def dQ:FL:=(156,⟨[.val false (.one (.sl nE)) false,.val false kP false],[.val false kP (some true)],λa=>cR a.1 a.2⟩)::dP
theorem gM:Gd dQ:=kX gL 156 Tryz.f156 [] Tryz.func156
def cS (a0:List Int) (left1:Int):Option Int :=
 let left1_1:=kJ (left1-(a0.length:Int))
 cond (decide (left1_1<0)) (some (-1)) (some left1_1)
def dR:FL:=(157,⟨[.val false nF false,.val false kP false],[.val false kP (some true)],λa=>cS a.1 a.2⟩)::dQ
theorem gN:Gd dR:=kX gM 157 Tryz.f157 [] Tryz.func157
def cU (a0:n6) (left1:Int):Option Int :=
 (cR a0.1 left1).bind λt8 =>
 cond (decide (t8<0))
 (some (-1))
 ((cS a0.2 t8).bind λt14 =>
 cond (decide (t14<0)) (some (-1)) (some t14))
def dS:FL:=(100,⟨[.val true pb false,.val false kP false],[.val false kP (some true)],λa=>cU a.1 a.2⟩)::dR
theorem gO:Gd dS:=kX gN 100 Tryz.f100 [] Tryz.func100
def bR (a0:kZ) (left1:Int):Option Int :=
 let left1_1:=kJ (left1-(a0.2.1.length:Int))
 cond (decide (left1_1<0))
 (some (-1))
 ((cP a0.2.2.1 left1_1).bind λt15 =>
 cond (decide (t15<0))
 (some (-1))
 ((cQ a0.2.2.2.1 t15).bind λt21 =>
 cond (decide (t21<0))
 (some (-1))
 ((cU (a0.2.2.2.2.1,a0.2.2.2.2.2.1) t21).bind λt27 =>
 cond (decide (t27<0)) (some (-1)) (some t27))))
def dU:FL:=(50,⟨[.val true lC false,.val false kP false],[.val false kP (some true)],λa=>bR a.1 a.2⟩)::dS
theorem gP:Gd dU:=kX gO 50 Tryz.f50 [] Tryz.func50
def dV (a0:List kZ) (left1_2:Int) (i5:Int):Option ((Int×Int)⊕(Int⊕Int)) :=
 cond (decide (i5<(a0.length:Int)))
 ((at? a0 i5).bind λx20 =>
 (bR x20 left1_2).bind λt23 =>
 cond (decide (t23<0)) (some (.inr (.inr (-1)))) (some (.inl (t23,kJ (i5+1)))))
 (some (.inr (.inl left1_2)))
def cV (a0:List kZ) (left1:Int):Option Int :=
 let left1_1:=kJ (left1-(a0.length:Int))
 cond (decide (left1_1<0))
 (some (-1))
 ((loop (λz=>dV a0 z.1 z.2) (left1_1,0)).bind (Sum.elim (λd =>
 some d) (λr=>some r)))
def dW:FL:=(20,⟨[.val false (.one (.sl lC)) false,.val false kP false],[.val false kP (some true)],λa=>cV a.1 a.2⟩)::dU
theorem gQ:Gd dW:=kX gP 20 Tryz.f20 [(0,⟨⟨[(1,false,[dI]),(5,false,[dI])],[]⟩,
 ⟨[(1,false,[dI])],[]⟩,some ⟨[(4,false,[dI])],[]⟩⟩)] Tryz.func20
def cW (a0:List lp) (left1:Int):Option Int :=
 let left1_1:=kJ (left1-(a0.length:Int))
 cond (decide (left1_1<0)) (some (-1)) (some left1_1)
def dX:FL:=(21,⟨[.val false (.one (.sl mI)) false,.val false kP false],[.val false kP (some true)],λa=>cW a.1 a.2⟩)::dW
theorem gR:Gd dX:=kX gQ 21 Tryz.f21 [] Tryz.func21
def cX (a0:List nH) (left1:Int):Option Int :=
 let left1_1:=kJ (left1-(a0.length:Int))
 cond (decide (left1_1<0)) (some (-1)) (some left1_1)
def dY:FL:=(22,⟨[.val false (.one (.sl nn)) false,.val false kP false],[.val false kP (some true)],λa=>cX a.1 a.2⟩)::dX
theorem gS:Gd dY:=kX gR 22 Tryz.f22 [] Tryz.func22
def cY (a0:kK) (left1:Int):Option Int :=
 (cV a0.1 left1).bind λt8 =>
 cond (decide (t8<0))
 (some (-1))
 ((cW a0.2.1 t8).bind λt14 =>
 cond (decide (t14<0))
 (some (-1))
 ((cX a0.2.2 t14).bind λt20 =>
 cond (decide (t20<0)) (some (-1)) (some t20)))
def dZ:FL:=(5,⟨[.val true lq false,.val false kP false],[.val false kP (some true)],λa=>cY a.1 a.2⟩)::dY
theorem gT:Gd dZ:=kX gS 5 Tryz.f5 [] Tryz.func5
def cZ (a0:nG):Option nG :=
 some a0
def e8:FL:=(117,⟨[.val true nl false],[.val true nl (some true)],λa=>cZ a⟩)::dZ
theorem gU:Gd e8:=kX gT 117 Tryz.f117 [] Tryz.func117
def d4 (a0:Pt):Option Pt :=
 (cZ a0.2.2.2).bind λt15 =>
 some (a0.1,a0.2.1,a0.2.2.1,t15.1,t15.2.1,t15.2.2.1,t15.2.2.2.1,t15.2.2.2.2)
def ed:FL:=(167,⟨[.val true nZ false],[.val true nZ (some true)],λa=>d4 a⟩)::e8
theorem gV:Gd ed:=kX gU 167 Tryz.f167 [] Tryz.func167
def gW (a0:List Pt) (i4:Int) (l:List Pt):Option ((Int×List Pt)⊕(List Pt)) :=
 cond (decide (i4<(a0.length:Int)))
 ((at? a0 i4).bind λx18 =>
 (d4 x18).bind λt20 =>
 (ix l.length i4).bind λj21 =>
 (l[j21]?).bind λx =>
 some (.inl (kJ (i4+1),l.set j21 t20)))
 (some (.inr l))
def d5 (a0:List Pt):Option (List Pt) :=
 (nM (a0.length:Int)).bind λn =>
 (loop (λz=>gW a0 z.1 z.2) (0,List.replicate n ((false,0,false,0,0,0,0,0):Pt))).bind λd =>
 some d
def ee:FL:=(114,⟨[.val false (.one (.sl nZ)) false],[.val false (.one (.sl nZ)) (some true)],λa=>d5 a⟩)::ed
theorem gX:Gd ee:=kX gV 114 Tryz.f114 [(0,⟨⟨[(4,false,[dI])],[(265216,.keep nZ true)]⟩,
 ⟨[],[(265216,.keep nZ true)]⟩,none⟩)] Tryz.func114
def d6 (a0:ma):Option ma :=
 some a0
def ef:FL:=(168,⟨[.val true mQ false],[.val true mQ (some true)],λa=>d6 a⟩)::ee
theorem gY:Gd ef:=kX gX 168 Tryz.f168 [] Tryz.func168
def gZ (a0:List ma) (i4:Int) (l:List ma):Option ((Int×List ma)⊕(List ma)) :=
 cond (decide (i4<(a0.length:Int)))
 ((at? a0 i4).bind λx18 =>
 (d6 x18).bind λt20 =>
 (ix l.length i4).bind λj21 =>
 (l[j21]?).bind λx =>
 some (.inl (kJ (i4+1),l.set j21 t20)))
 (some (.inr l))
def d7 (a0:List ma):Option (List ma) :=
 (nM (a0.length:Int)).bind λn =>
 (loop (λz=>gZ a0 z.1 z.2) (0,List.replicate n ((0,0,0,0,false):ma))).bind λd =>
 some d
def eh:FL:=(115,⟨[.val false (.one (.sl mQ)) false],[.val false (.one (.sl mQ)) (some true)],λa=>d7 a⟩)::ef
theorem hC:Gd eh:=kX gY 115 Tryz.f115 [(0,⟨⟨[(4,false,[dI])],[(265216,.keep mQ true)]⟩,
 ⟨[],[(265216,.keep mQ true)]⟩,none⟩)] Tryz.func115
def d8 (a0:nK):Option nK :=
 some a0
def ei:FL:=(191,⟨[.val true nE false],[.val true nE (some true)],λa=>d8 a⟩)::eh
theorem hO:Gd ei:=kX hC 191 Tryz.f191 [] Tryz.func191
def hP (a0:List nK) (i4:Int) (l:List nK):Option ((Int×List nK)⊕(List nK)) :=
 cond (decide (i4<(a0.length:Int)))
 ((at? a0 i4).bind λx18 =>
 (d8 x18).bind λt20 =>
 (ix l.length i4).bind λj21 =>
 (l[j21]?).bind λx =>
 some (.inl (kJ (i4+1),l.set j21 t20)))
 (some (.inr l))
def d9 (a0:List nK):Option (List nK) :=
 (nM (a0.length:Int)).bind λn =>
 (loop (λz=>hP a0 z.1 z.2) (0,List.replicate n ((0,0,0):nK))).bind λd =>
 some d
def ek:FL:=(169,⟨[.val false (.one (.sl nE)) false],[.val false (.one (.sl nE)) (some true)],λa=>d9 a⟩)::ei
theorem hZ:Gd ek:=kX hO 169 Tryz.f169 [(0,⟨⟨[(4,false,[dI])],[(265216,.keep nE true)]⟩,
 ⟨[],[(265216,.keep nE true)]⟩,none⟩)] Tryz.func169
def i0 (a0:List Int) (i4:Int) (l:List Int):Option ((Int×List Int)⊕(List Int)) :=
 cond (decide (i4<(a0.length:Int)))
 ((at? a0 i4).bind λx18 =>
 (ix l.length i4).bind λj20 =>
 (l[j20]?).bind λx =>
 some (.inl (kJ (i4+1),l.set j20 x18)))
 (some (.inr l))
def da (a0:List Int):Option (List Int) :=
 (nM (a0.length:Int)).bind λn =>
 (loop (λz=>i0 a0 z.1 z.2) (0,List.replicate n (0:Int))).bind λd =>
 some d
def eo:FL:=(170,⟨[.val false nF false],[.val false nF (some true)],λa=>da a⟩)::ek
theorem i2:Gd eo:=kX hZ 170 Tryz.f170 [(0,⟨⟨[(4,false,[dI])],[(265216,.keep kP true)]⟩,
 ⟨[],[(265216,.keep kP true)]⟩,none⟩)] Tryz.func170
def bS (a0:n6):Option n6 :=
 (d9 a0.1).bind λt6 =>
 (da a0.2).bind λt10 =>
 some (t6,t10)
def ep:FL:=(116,⟨[.val true pb false],[.val true pb (some true)],λa=>bS a⟩)::eo
theorem ia:Gd ep:=kX i2 116 Tryz.f116 [] Tryz.func116
def bq (a0:kZ):Option kZ :=
 (d5 a0.2.2.1).bind λt12 =>
 (d7 a0.2.2.2.1).bind λt16 =>
 (bS (a0.2.2.2.2.1,a0.2.2.2.2.2.1)).bind λt20 =>
 some (a0.1,a0.2.1,t12,t16,t20.1,t20.2,a0.2.2.2.2.2.2.1,a0.2.2.2.2.2.2.2.1,a0.2.2.2.2.2.2.2.2.1,a0.2.2.2.2.2.2.2.2.2.1,a0.2.2.2.2.2.2.2.2.2.2)
def eq:FL:=(56,⟨[.val true lC false],[.val true lC (some true)],λa=>bq a⟩)::ep
theorem ib:Gd eq:=kX ia 56 Tryz.f56 [] Tryz.func56
def ic (a0:List kZ) (i4:Int) (l:List kZ):Option ((Int×List kZ)⊕(List kZ)) :=
 cond (decide (i4<(a0.length:Int)))
 ((at? a0 i4).bind λx18 =>
 (bq x18).bind λt20 =>
 (ix l.length i4).bind λj21 =>
 (l[j21]?).bind λx =>
 some (.inl (kJ (i4+1),l.set j21 t20)))
 (some (.inr l))
def dc (a0:List kZ):Option (List kZ) :=
 (nM (a0.length:Int)).bind λn =>
 (loop (λz=>ic a0 z.1 z.2) (0,List.replicate n ((0,[],[],[],[],[],0,0,0,0,0):kZ))).bind λd =>
 some d
def eu:FL:=(25,⟨[.val false (.one (.sl lC)) false],[.val false (.one (.sl lC)) (some true)],λa=>dc a⟩)::eq
theorem ie:Gd eu:=kX ib 25 Tryz.f25 [(0,⟨⟨[(4,false,[dI])],[(265216,.keep lC true)]⟩,
 ⟨[],[(265216,.keep lC true)]⟩,none⟩)] Tryz.func25
def de (a0:lp):Option lp :=
 some a0
def ev:FL:=(57,⟨[.val true mI false],[.val true mI (some true)],λa=>de a⟩)::eu
theorem ig:Gd ev:=kX ie 57 Tryz.f57 [] Tryz.func57
def ii (a0:List lp) (i4:Int) (l:List lp):Option ((Int×List lp)⊕(List lp)) :=
 cond (decide (i4<(a0.length:Int)))
 ((at? a0 i4).bind λx18 =>
 (de x18).bind λt20 =>
 (ix l.length i4).bind λj21 =>
 (l[j21]?).bind λx =>
 some (.inl (kJ (i4+1),l.set j21 t20)))
 (some (.inr l))
def df (a0:List lp):Option (List lp) :=
 (nM (a0.length:Int)).bind λn =>
 (loop (λz=>ii a0 z.1 z.2) (0,List.replicate n ((0,0,0,0):lp))).bind λd =>
 some d
def ew:FL:=(26,⟨[.val false (.one (.sl mI)) false],[.val false (.one (.sl mI)) (some true)],λa=>df a⟩)::ev
theorem ij:Gd ew:=kX ig 26 Tryz.f26 [(0,⟨⟨[(4,false,[dI])],[(265216,.keep mI true)]⟩,
 ⟨[],[(265216,.keep mI true)]⟩,none⟩)] Tryz.func26
def dg (a0:nH):Option nH :=
 (cZ a0.2.2).bind λt12 =>
 some (a0.1,a0.2.1,t12.1,t12.2.1,t12.2.2.1,t12.2.2.2.1,t12.2.2.2.2)
def ez:FL:=(58,⟨[.val true nn false],[.val true nn (some true)],λa=>dg a⟩)::ew
theorem il:Gd ez:=kX ij 58 Tryz.f58 [] Tryz.func58
def im (a0:List nH) (i4:Int) (l:List nH):Option ((Int×List nH)⊕(List nH)) :=
 cond (decide (i4<(a0.length:Int)))
 ((at? a0 i4).bind λx18 =>
 (dg x18).bind λt20 =>
 (ix l.length i4).bind λj21 =>
 (l[j21]?).bind λx =>
 some (.inl (kJ (i4+1),l.set j21 t20)))
 (some (.inr l))
def dh (a0:List nH):Option (List nH) :=
 (nM (a0.length:Int)).bind λn =>
 (loop (λz=>im a0 z.1 z.2) (0,List.replicate n ((0,false,0,0,0,0,0):nH))).bind λd =>
 some d
def eA:FL:=(27,⟨[.val false (.one (.sl nn)) false],[.val false (.one (.sl nn)) (some true)],λa=>dh a⟩)::ez
theorem ip:Gd eA:=kX il 27 Tryz.f27 [(0,⟨⟨[(4,false,[dI])],[(265216,.keep nn true)]⟩,
 ⟨[],[(265216,.keep nn true)]⟩,none⟩)] Tryz.func27
def aI (a0:kK):Option kK :=
 (dc a0.1).bind λt6 =>
 (df a0.2.1).bind λt10 =>
 (dh a0.2.2).bind λt14 =>
 some (t6,t10,t14)
def eB:FL:=(8,⟨[.val true lq false],[.val true lq (some true)],λa=>aI a⟩)::eA
theorem iq:Gd eB:=kX ip 8 Tryz.f8 [] Tryz.func8
def br (a0:nG) (b1:nG):Option Bool :=
 cond (a0.1 != b1.1)
 (some false)
 (cond (a0.2.1 != b1.2.1)
 (some false)
 (cond (a0.2.2.1 != b1.2.2.1)
 (some false)
 (cond (a0.2.2.2.1 != b1.2.2.2.1)
 (some false)
 (cond (a0.2.2.2.2 != b1.2.2.2.2) (some false) (some true)))))
def eC:FL:=(134,⟨[.val true nl false,.val true nl false],[.val false lm (some true)],λa=>br a.1 a.2⟩)::eB
theorem ir:Gd eC:=kX iq 134 Tryz.f134 [] Tryz.func134
def bu (a0:Pt) (b1:Pt):Option Bool :=
 cond (!(a0.1==b1.1))
 (some false)
 (cond (a0.2.1 != b1.2.1)
 (some false)
 (cond (!(a0.2.2.1==b1.2.2.1))
 (some false)
 ((br a0.2.2.2 b1.2.2.2).bind λt24 =>
 cond (!t24) (some false) (some true))))
def eD:FL:=(176,⟨[.val true nZ false,.val true nZ false],[.val false lm (some true)],λa=>bu a.1 a.2⟩)::eC
theorem iu:Gd eD:=kX ir 176 Tryz.f176 [] Tryz.func176
def iv (a0:List Pt) (b1:List Pt) (i5:Int):Option (Int⊕(Unit⊕Bool)) :=
 cond (decide (i5<(a0.length:Int)))
 ((at? a0 i5).bind λx19 =>
 (at? b1 i5).bind λx23 =>
 (bu x19 x23).bind λt25 =>
 cond (!t25) (some (.inr (.inr false))) (some (.inl (kJ (i5+1)))))
 (some (.inr (.inl ())))
def dj (a0:List Pt) (b1:List Pt):Option Bool :=
 cond ((a0.length:Int) != (b1.length:Int))
 (some false)
 ((loop (λz=>iv a0 b1 z) 0).bind (Sum.elim (λd =>
 some true) (λr=>some r)))
def eE:FL:=(131,⟨[.val false (.one (.sl nZ)) false,.val false (.one (.sl nZ)) false],[.val false lm (some true)],λa=>dj a.1 a.2⟩)::eD
theorem iw:Gd eE:=kX iu 131 Tryz.f131 [(0,⟨⟨[(5,false,[dI])],[]⟩,
 ⟨[],[]⟩,some ⟨[(4,false,[dB])],[]⟩⟩)] Tryz.func131
def bv (a0:ma) (b1:ma):Option Bool :=
 cond (a0.1 != b1.1)
 (some false)
 (cond (a0.2.1 != b1.2.1)
 (some false)
 (cond (a0.2.2.1 != b1.2.2.1)
 (some false)
 (cond (a0.2.2.2.1 != b1.2.2.2.1)
 (some false)
 (cond (!(a0.2.2.2.2==b1.2.2.2.2)) (some false) (some true)))))
def eF:FL:=(177,⟨[.val true mQ false,.val true mQ false],[.val false lm (some true)],λa=>bv a.1 a.2⟩)::eE
theorem iy:Gd eF:=kX iw 177 Tryz.f177 [] Tryz.func177
def iz (a0:List ma) (b1:List ma) (i5:Int):Option (Int⊕(Unit⊕Bool)) :=
 cond (decide (i5<(a0.length:Int)))
 ((at? a0 i5).bind λx19 =>
 (at? b1 i5).bind λx23 =>
 (bv x19 x23).bind λt25 =>
 cond (!t25) (some (.inr (.inr false))) (some (.inl (kJ (i5+1)))))
 (some (.inr (.inl ())))
def dk (a0:List ma) (b1:List ma):Option Bool :=
 cond ((a0.length:Int) != (b1.length:Int))
 (some false)
 ((loop (λz=>iz a0 b1 z) 0).bind (Sum.elim (λd =>
 some true) (λr=>some r)))
def eG:FL:=(132,⟨[.val false (.one (.sl mQ)) false,.val false (.one (.sl mQ)) false],[.val false lm (some true)],λa=>dk a.1 a.2⟩)::eF
theorem iA:Gd eG:=kX iy 132 Tryz.f132 [(0,⟨⟨[(5,false,[dI])],[]⟩,
 ⟨[],[]⟩,some ⟨[(4,false,[dB])],[]⟩⟩)] Tryz.func132
def iB (a0:List Int) (b1:List Int) (i5:Int):Option (Int⊕(Unit⊕Bool)) :=
 cond (decide (i5<(a0.length:Int)))
 ((at? a0 i5).bind λx19 =>
 (at? b1 i5).bind λx23 =>
 cond (x19 != x23) (some (.inr (.inr false))) (some (.inl (kJ (i5+1)))))
 (some (.inr (.inl ())))
def dl (a0:List Int) (b1:List Int):Option Bool :=
 cond ((a0.length:Int) != (b1.length:Int))
 (some false)
 ((loop (λz=>iB a0 b1 z) 0).bind (Sum.elim (λd =>
 some true) (λr=>some r)))
def eH:FL:=(11,⟨[.val false nF false,.val false nF false],[.val false lm (some true)],λa=>dl a.1 a.2⟩)::eG
theorem iC:Gd eH:=kX iA 11 Tryz.f11 [(0,⟨⟨[(5,false,[dI])],[]⟩,
 ⟨[],[]⟩,some ⟨[(4,false,[dB])],[]⟩⟩)] Tryz.func11
def bw (a0:nK) (b1:nK):Option Bool :=
 cond (a0.1 != b1.1)
 (some false)
 (cond (a0.2.1 != b1.2.1) (some false) (cond (a0.2.2 != b1.2.2) (some false) (some true)))
def eI:FL:=(192,⟨[.val true nE false,.val true nE false],[.val false lm (some true)],λa=>bw a.1 a.2⟩)::eH
theorem iD:Gd eI:=kX iC 192 Tryz.f192 [] Tryz.func192
def iE (a0:List nK) (b1:List nK) (i5:Int):Option (Int⊕(Unit⊕Bool)) :=
 cond (decide (i5<(a0.length:Int)))
 ((at? a0 i5).bind λx19 =>
 (at? b1 i5).bind λx23 =>
 (bw x19 x23).bind λt25 =>
 cond (!t25) (some (.inr (.inr false))) (some (.inl (kJ (i5+1)))))
 (some (.inr (.inl ())))
def dn (a0:List nK) (b1:List nK):Option Bool :=
 cond ((a0.length:Int) != (b1.length:Int))
 (some false)
 ((loop (λz=>iE a0 b1 z) 0).bind (Sum.elim (λd =>
 some true) (λr=>some r)))
def eJ:FL:=(178,⟨[.val false (.one (.sl nE)) false,.val false (.one (.sl nE)) false],[.val false lm (some true)],λa=>dn a.1 a.2⟩)::eI
theorem iF:Gd eJ:=kX iD 178 Tryz.f178 [(0,⟨⟨[(5,false,[dI])],[]⟩,
 ⟨[],[]⟩,some ⟨[(4,false,[dB])],[]⟩⟩)] Tryz.func178
def bT (a0:n6) (b1:n6):Option Bool :=
 (dn a0.1 b1.1).bind λt9 =>
 cond (!t9)
 (some false)
 ((dl a0.2 b1.2).bind λt15 =>
 cond (!t15) (some false) (some true))
def eK:FL:=(133,⟨[.val true pb false,.val true pb false],[.val false lm (some true)],λa=>bT a.1 a.2⟩)::eJ
theorem iG:Gd eK:=kX iF 133 Tryz.f133 [] Tryz.func133
def bx (a0:kZ) (b1:kZ):Option Bool :=
 cond (a0.1 != b1.1)
 (some false)
 (cond (!(a0.2.1==b1.2.1))
 (some false)
 ((dj a0.2.2.1 b1.2.2.1).bind λt19 =>
 cond (!t19)
 (some false)
 ((dk a0.2.2.2.1 b1.2.2.2.1).bind λt25 =>
 cond (!t25)
 (some false)
 ((bT (a0.2.2.2.2.1,a0.2.2.2.2.2.1) (b1.2.2.2.2.1,b1.2.2.2.2.2.1)).bind λt31 =>
 cond (!t31)
 (some false)
 (cond (a0.2.2.2.2.2.2.1 != b1.2.2.2.2.2.2.1)
 (some false)
 (cond (a0.2.2.2.2.2.2.2.1 != b1.2.2.2.2.2.2.2.1)
 (some false)
 (cond (a0.2.2.2.2.2.2.2.2.1 != b1.2.2.2.2.2.2.2.2.1)
 (some false)
 (cond (a0.2.2.2.2.2.2.2.2.2.1 != b1.2.2.2.2.2.2.2.2.2.1)
 (some false)
 (cond (a0.2.2.2.2.2.2.2.2.2.2 != b1.2.2.2.2.2.2.2.2.2.2) (some false) (some true))))))))))
def eL:FL:=(64,⟨[.val true lC false,.val true lC false],[.val false lm (some true)],λa=>bx a.1 a.2⟩)::eK
theorem iH:Gd eL:=kX iG 64 Tryz.f64 [] Tryz.func64
def iI (a0:List kZ) (b1:List kZ) (i5:Int):Option (Int⊕(Unit⊕Bool)) :=
 cond (decide (i5<(a0.length:Int)))
 ((at? a0 i5).bind λx19 =>
 (at? b1 i5).bind λx23 =>
 (bx x19 x23).bind λt25 =>
 cond (!t25) (some (.inr (.inr false))) (some (.inl (kJ (i5+1)))))
 (some (.inr (.inl ())))
def dp (a0:List kZ) (b1:List kZ):Option Bool :=
 cond ((a0.length:Int) != (b1.length:Int))
 (some false)
 ((loop (λz=>iI a0 b1 z) 0).bind (Sum.elim (λd =>
 some true) (λr=>some r)))
def eM:FL:=(32,⟨[.val false (.one (.sl lC)) false,.val false (.one (.sl lC)) false],[.val false lm (some true)],λa=>dp a.1 a.2⟩)::eL
theorem iJ:Gd eM:=kX iH 32 Tryz.f32 [(0,⟨⟨[(5,false,[dI])],[]⟩,
 ⟨[],[]⟩,some ⟨[(4,false,[dB])],[]⟩⟩)] Tryz.func32
def bz (a0:lp) (b1:lp):Option Bool :=
 cond (a0.1 != b1.1)
 (some false)
 (cond (a0.2.1 != b1.2.1)
 (some false)
 (cond (a0.2.2.1 != b1.2.2.1)
 (some false)
 (cond (a0.2.2.2 != b1.2.2.2) (some false) (some true))))
def eN:FL:=(65,⟨[.val true mI false,.val true mI false],[.val false lm (some true)],λa=>bz a.1 a.2⟩)::eM
theorem iK:Gd eN:=kX iJ 65 Tryz.f65 [] Tryz.func65
def iL (a0:List lp) (b1:List lp) (i5:Int):Option (Int⊕(Unit⊕Bool)) :=
 cond (decide (i5<(a0.length:Int)))
 ((at? a0 i5).bind λx19 =>
 (at? b1 i5).bind λx23 =>
 (bz x19 x23).bind λt25 =>
 cond (!t25) (some (.inr (.inr false))) (some (.inl (kJ (i5+1)))))
 (some (.inr (.inl ())))
def dq (a0:List lp) (b1:List lp):Option Bool :=
 cond ((a0.length:Int) != (b1.length:Int))
 (some false)
 ((loop (λz=>iL a0 b1 z) 0).bind (Sum.elim (λd =>
 some true) (λr=>some r)))
def eO:FL:=(33,⟨[.val false (.one (.sl mI)) false,.val false (.one (.sl mI)) false],[.val false lm (some true)],λa=>dq a.1 a.2⟩)::eN
theorem iM:Gd eO:=kX iK 33 Tryz.f33 [(0,⟨⟨[(5,false,[dI])],[]⟩,
 ⟨[],[]⟩,some ⟨[(4,false,[dB])],[]⟩⟩)] Tryz.func33
def bA (a0:nH) (b1:nH):Option Bool :=
 cond (a0.1 != b1.1)
 (some false)
 (cond (!(a0.2.1==b1.2.1))
 (some false)
 ((br a0.2.2 b1.2.2).bind λt19 =>
 cond (!t19) (some false) (some true)))
def eP:FL:=(66,⟨[.val true nn false,.val true nn false],[.val false lm (some true)],λa=>bA a.1 a.2⟩)::eO
theorem iN:Gd eP:=kX iM 66 Tryz.f66 [] Tryz.func66
def iO (a0:List nH) (b1:List nH) (i5:Int):Option (Int⊕(Unit⊕Bool)) :=
 cond (decide (i5<(a0.length:Int)))
 ((at? a0 i5).bind λx19 =>
 (at? b1 i5).bind λx23 =>
 (bA x19 x23).bind λt25 =>
 cond (!t25) (some (.inr (.inr false))) (some (.inl (kJ (i5+1)))))
 (some (.inr (.inl ())))
def dt (a0:List nH) (b1:List nH):Option Bool :=
 cond ((a0.length:Int) != (b1.length:Int))
 (some false)
 ((loop (λz=>iO a0 b1 z) 0).bind (Sum.elim (λd =>
 some true) (λr=>some r)))
def eQ:FL:=(34,⟨[.val false (.one (.sl nn)) false,.val false (.one (.sl nn)) false],[.val false lm (some true)],λa=>dt a.1 a.2⟩)::eP
theorem iP:Gd eQ:=kX iN 34 Tryz.f34 [(0,⟨⟨[(5,false,[dI])],[]⟩,
 ⟨[],[]⟩,some ⟨[(4,false,[dB])],[]⟩⟩)] Tryz.func34
def bU (a0:kK) (b1:kK):Option Bool :=
 (dp a0.1 b1.1).bind λt9 =>
 cond (!t9)
 (some false)
 ((dq a0.2.1 b1.2.1).bind λt15 =>
 cond (!t15)
 (some false)
 ((dt a0.2.2 b1.2.2).bind λt21 =>
 cond (!t21) (some false) (some true)))
def eR:FL:=(12,⟨[.val true lq false,.val true lq false],[.val false lm (some true)],λa=>bU a.1 a.2⟩)::eQ
theorem iQ:Gd eR:=kX iP 12 Tryz.f12 [] Tryz.func12
def a6 (x0:Int) (least1:Int) (most2:Int):Option Bool :=
 (cond (decide (x0>=least1)) (some (decide (x0<=most2))) (some false)).bind λt14 =>
 some t14
def eS:FL:=(52,⟨[.val false kP false,.val false kP false,.val false kP false],[.val false lm (some true)],λa=>a6 a.1 a.2.1 a.2.2⟩)::eR
theorem iR:Gd eS:=kX iQ 52 Tryz.f52 [] Tryz.func52
def bV (e0:ma):Option Bool :=
 (a6 e0.1 1 99).bind λt5 =>
 (cond t5
 ((a6 e0.2.1 1 9999).bind λt9 =>
 some t9)
 (some false)).bind λt10 =>
 (cond t10
 ((a6 e0.2.2.1 0 7).bind λt14 =>
 some t14)
 (some false)).bind λt15 =>
 (cond t15
 ((a6 e0.2.2.2.1 0 4).bind λt19 =>
 some t19)
 (some false)).bind λt20 =>
 (cond t20
 ((cond (!e0.2.2.2.2) (some true) (some (e0.2.2.2.1==0))).bind λt29 =>
 some t29)
 (some false)).bind λt30 =>
 some t30
def eT:FL:=(163,⟨[.val true mQ false],[.val false lm (some true)],λa=>bV a⟩)::eS
theorem iS:Gd eT:=kX iR 163 Tryz.f163 [] Tryz.func163
def bB (e0:ma) (tag1:Int) (mac2:Int):Option Bool :=
 cond (e0.1 != tag1) (some (decide (e0.1<tag1))) (some (decide (e0.2.1<mac2)))
def eU:FL:=(189,⟨[.val true mQ false,.val false kP false,.val false kP false],[.val false lm (some true)],λa=>bB a.1 a.2.1 a.2.2⟩)::eT
theorem iT:Gd eU:=kX iS 189 Tryz.f189 [] Tryz.func189
def du (l0:List ma) (i3:Int):Option (Int⊕(Unit⊕Bool)) :=
 cond (decide (i3<(l0.length:Int)))
 ((at? l0 i3).bind λx12 =>
 (bV x12).bind λt14 =>
 (cond (!t14)
 (some true)
 ((cond (decide (i3>0))
 ((at? l0 (kJ (i3-1))).bind λx23 =>
 (at? l0 i3).bind λx27 =>
 (at? l0 i3).bind λx32 =>
 (bB x23 x27.1 x32.2.1).bind λt35 =>
 some (!t35))
 (some false)).bind λt37 =>
 some t37)).bind λt38 =>
 cond t38 (some (.inr (.inr false))) (some (.inl (kJ (i3+1)))))
 (some (.inr (.inl ())))
def bW (l0:List ma):Option Bool :=
 (loop (λz=>du l0 z) 0).bind (Sum.elim (λd =>
 let t2:=decide ((l0.length:Int)<=12)
 some t2) (λr=>some r))
def eV:FL:=(162,⟨[.val false (.one (.sl mQ)) false],[.val false lm (some true)],λa=>bW a⟩)::eU
theorem iU:Gd eV:=kX iT 162 Tryz.f162 [(0,⟨⟨(3,false,[dI])::us 17 21 [],[]⟩,
 ⟨[],[]⟩,some ⟨[(2,false,[dB])],[]⟩⟩)] Tryz.func162
def aJ (v0:nG):Option Bool :=
 (a6 v0.1 1 99).bind λt5 =>
 (cond t5
 ((a6 v0.2.1 0 100000).bind λt9 =>
 some t9)
 (some false)).bind λt10 =>
 (cond t10
 ((a6 v0.2.2.1 0 10).bind λt14 =>
 some t14)
 (some false)).bind λt15 =>
 (cond t15
 ((a6 v0.2.2.2.1 1 99).bind λt19 =>
 some t19)
 (some false)).bind λt20 =>
 (cond t20
 ((a6 v0.2.2.2.2 0 7).bind λt24 =>
 some t24)
 (some false)).bind λt25 =>
 some t25
def eW:FL:=(73,⟨[.val true nl false],[.val false lm (some true)],λa=>aJ a⟩)::eV
theorem iV:Gd eW:=kX iU 73 Tryz.f73 [] Tryz.func73
def bC (p0:Pt):Option Bool :=
 (a6 p0.2.1 1 1000).bind λt5 =>
 (cond (!t5)
 (some true)
 ((cond (!p0.1) (some p0.2.2.1) (some false)).bind λt14 =>
 some t14)).bind λt15 =>
 cond t15
 (some false)
 (cond (!p0.2.2.1)
 (let t2:=p0.2.2.2.1==0&&(p0.2.2.2.2.1==0&&(p0.2.2.2.2.2.1==0&&(p0.2.2.2.2.2.2.1==0&&(p0.2.2.2.2.2.2.2==0))))
 some t2)
 ((aJ p0.2.2.2).bind λt25 =>
 some t25))
def eX:FL:=(179,⟨[.val true nZ false],[.val false lm (some true)],λa=>bC a⟩)::eW
theorem iW:Gd eX:=kX iV 179 Tryz.f179 [] Tryz.func179
def iX (v0:n6) (id1:Int) (i5:Int):Option (Int⊕(Unit⊕Int)) :=
 cond (decide (i5<(v0.1.length:Int)))
 ((at? v0.1 i5).bind λx16 =>
 cond (x16.1==id1) (some (.inr (.inr i5))) (some (.inl (kJ (i5+1)))))
 (some (.inr (.inl ())))
def eY (v0:n6) (id1:Int):Option Int :=
 (loop (λz=>iX v0 id1 z) 0).bind (Sum.elim (λd =>
 some (-1)) (λr=>some r))
def eZ:FL:=(160,⟨[.val true pb false,.val false kP false],[.val false kP (some true)],λa=>eY a.1 a.2⟩)::eX
theorem iY:Gd eZ:=kX iW 160 Tryz.f160 [(0,⟨⟨[(5,false,[dI])],[]⟩,
 ⟨[],[]⟩,some ⟨[(4,false,[dI])],[]⟩⟩)] Tryz.func160
def dv (p0:n6) (t27:Int) (t6:Int):Option (Int⊕(Unit⊕Bool)) :=
 cond (decide (t6<(p0.1.length:Int)))
 ((at? p0.1 t6).bind λx39 =>
 (a6 x39.1 1 99).bind λt43 =>
 (cond (!t43)
 (some true)
 ((a6 x39.2.1 0 (kJ (t27-1))).bind λt49 =>
 some (!t49))).bind λt51 =>
 (cond t51
 (some true)
 ((a6 x39.2.2 0 (kJ (t27-1))).bind λt56 =>
 some (!t56))).bind λt58 =>
 (cond t58 (some true) (some ((qx .i64 x39.2.2 x39.2.1) != x39.2.2))).bind λt68 =>
 (cond t68
 (some true)
 ((cond (decide (t6>0))
 ((at? p0.1 (kJ (t6-1))).bind λx77 =>
 some (decide (x77.1>=x39.1)))
 (some false)).bind λt83 =>
 some t83)).bind λt84 =>
 cond t84 (some (.inr (.inr false))) (some (.inl (kJ (t6+1)))))
 (some (.inr (.inl ())))
def f0 (p0:n6) (t8:Int):Option (Int⊕(Unit⊕Bool)) :=
 cond (decide (t8<(p0.2.length:Int)))
 ((at? p0.2 t8).bind λx96 =>
 (eY p0 x96).bind λt98 =>
 cond (decide (t98<0)) (some (.inr (.inr false))) (some (.inl (kJ (t8+1)))))
 (some (.inr (.inl ())))
def bX (p0:n6) (i1:Int):Option Bool :=
 (a6 i1 1 6).bind λt10 =>
 (cond (!t10) (some true) (some ((p0.2.length:Int) != i1))).bind λt18 =>
 (cond t18 (some true) (some (decide ((p0.1.length:Int)>6)))).bind λt24 =>
 cond t24
 (some false)
 ((shl .i64 1 (IntKind.u64.wrap (i1))).bind λt27 =>
 (loop (λz=>dv p0 t27 z) 0).bind (Sum.elim (λd =>
 (loop (λz=>f0 p0 z) 0).bind (Sum.elim (λd_1 =>
 some true) (λr=>some r))) (λr_1=>some r_1)))
def f6:FL:=(180,⟨[.val true pb false,.val false kP false],[.val false lm (some true)],λa=>bX a.1 a.2⟩)::eZ
theorem iZ:Gd f6:=kX iY 180 Tryz.f180 [(0,⟨⟨(6,false,[dI])::us 46 5 (us 53 5 (us 60 8 (us 70 14 []))),[]⟩,
 ⟨[],[]⟩,some ⟨[(4,false,[dB])],[]⟩⟩),
 (2,⟨⟨[(8,false,[dI])],[]⟩,
 ⟨[],[]⟩,some ⟨[(4,false,[dB])],[]⟩⟩)] Tryz.func180
def bY (b0:kZ):Option Bool :=
 (a6 b0.2.2.2.2.2.2.1 0 1000000).bind λt5 =>
 (cond t5
 ((a6 b0.2.2.2.2.2.2.2.1 0 1000000).bind λt9 =>
 some t9)
 (some false)).bind λt10 =>
 (cond t10
 ((a6 b0.2.2.2.2.2.2.2.2.1 0 1000000).bind λt14 =>
 some t14)
 (some false)).bind λt15 =>
 (cond t15
 ((a6 b0.2.2.2.2.2.2.2.2.2.1 0 1000000).bind λt19 =>
 some t19)
 (some false)).bind λt20 =>
 (cond t20
 ((a6 b0.2.2.2.2.2.2.2.2.2.2 0 1000000).bind λt24 =>
 some t24)
 (some false)).bind λt25 =>
 some t25
def f7:FL:=(181,⟨[.val true lC false],[.val false lm (some true)],λa=>bY a⟩)::f6
theorem j0:Gd f7:=kX iZ 181 Tryz.f181 [] Tryz.func181
def dw (b0:kZ) (i3:Int):Option (Int⊕(Unit⊕Bool)) :=
 cond (decide (i3<(b0.2.2.1.length:Int)))
 ((at? b0.2.2.1 i3).bind λx14 =>
 (bC x14).bind λt16 =>
 cond (!t16) (some (.inr (.inr false))) (some (.inl (kJ (i3+1)))))
 (some (.inr (.inl ())))
def bZ (b0:kZ):Option Bool :=
 (loop (λz=>dw b0 z) 0).bind (Sum.elim (λd =>
 (a6 b0.1 1 99).bind λt20 =>
 (cond t20 (some (decide ((b0.2.1.length:Int)<=10))) (some false)).bind λt26 =>
 (cond t26
 ((a6 (b0.2.2.1.length:Int) 1 6).bind λt31 =>
 some t31)
 (some false)).bind λt32 =>
 (cond t32
 ((bW b0.2.2.2.1).bind λt36 =>
 some t36)
 (some false)).bind λt37 =>
 (cond t37
 ((bX (b0.2.2.2.2.1,b0.2.2.2.2.2.1) (b0.2.2.1.length:Int)).bind λt44 =>
 some t44)
 (some false)).bind λt45 =>
 (cond t45
 ((bY b0).bind λt48 =>
 some t48)
 (some false)).bind λt49 =>
 some t49) (λr=>some r))
def f9:FL:=(135,⟨[.val true lC false],[.val false lm (some true)],λa=>bZ a⟩)::f7
theorem j6:Gd f9:=kX j0 135 Tryz.f135 [(0,⟨⟨[(3,false,[dI])],[]⟩,
 ⟨[],[]⟩,some ⟨[(2,false,[dB])],[]⟩⟩)] Tryz.func135
def aK (n0:kK) (b1:Int) (p2:Int) (k7:Int) (i8:Int):Option ((Int×Int)⊕Int) :=
 cond (decide (i8<(n0.2.1.length:Int)))
 ((at? n0.2.1 i8).bind λx20 =>
 (cond (x20.1==b1) (some (x20.2.1==p2)) (some false)).bind λt31 =>
 cond t31
 ((cond (x20.2.2.1==b1) (some (x20.2.2.2==p2)) (some false)).bind λt43 =>
 cond t43
 (some (.inl (kJ ((kJ (k7+1))+1),kJ (i8+1))))
 (some (.inl (kJ (k7+1),kJ (i8+1)))))
 ((cond (x20.2.2.1==b1) (some (x20.2.2.2==p2)) (some false)).bind λt43_1 =>
 cond t43_1
 (some (.inl (kJ (k7+1),kJ (i8+1))))
 (some (.inl (k7,kJ (i8+1))))))
 (some (.inr k7))
def bD (n0:kK) (b1:Int) (p2:Int):Option Int :=
 (loop (λz=>aK n0 b1 p2 z.1 z.2) (0,0)).bind λd =>
 some d
def fa:FL:=(136,⟨[.val true lq false,.val false kP false,.val false kP false],[.val false kP (some true)],λa=>bD a.1 a.2.1 a.2.2⟩)::f9
theorem j7:Gd fa:=kX j6 136 Tryz.f136 [(0,⟨⟨(7,false,[dI])::(8,false,[dI])::us 27 4 (us 39 4 []),[]⟩,
 ⟨[(7,false,[dI])],[]⟩,none⟩)] Tryz.func136
def aL (p0:kK) (t3:Int) (t4:Int):Option (Int⊕(Unit⊕Bool)) :=
 cond (decide (t4<t3))
 ((at? p0.1 t4).bind λx28 =>
 (at? p0.1 t3).bind λx34 =>
 cond (x28.1==x34.1) (some (.inr (.inr false))) (some (.inl (kJ (t4+1)))))
 (some (.inr (.inl ())))
def aM (p0:kK) (t3:Int) (t5:Int):Option (Int⊕(Unit⊕Bool)) :=
 (at? p0.1 t3).bind λx42 =>
 cond (decide (t5<(x42.2.2.1.length:Int)))
 ((at? p0.1 t3).bind λx52 =>
 (at? x52.2.2.1 t5).bind λx56 =>
 (cond x56.2.2.1
 ((bD p0 t3 t5).bind λt63 =>
 some (t63==0))
 (some false)).bind λt65 =>
 cond t65 (some (.inr (.inr false))) (some (.inl (kJ (t5+1)))))
 (some (.inr (.inl ())))
def aN (p0:kK) (t3:Int):Option (Int⊕(Unit⊕Bool)) :=
 cond (decide (t3<(p0.1.length:Int)))
 ((at? p0.1 t3).bind λx16 =>
 (bZ x16).bind λt18 =>
 cond (!t18)
 (some (.inr (.inr false)))
 ((loop (λz=>aL p0 t3 z) 0).bind (Sum.elim (λd =>
 (loop (λz=>aM p0 t3 z) 0).bind (Sum.elim (λd_1 =>
 some (.inl (kJ (t3+1)))) (λr=>some (.inr (.inr r))))) (λr_1=>some (.inr (.inr r_1))))))
 (some (.inr (.inl ())))
def ca (p0:kK):Option Bool :=
 (loop (λz=>aN p0 z) 0).bind (Sum.elim (λd_2 =>
 (a6 (p0.1.length:Int) 1 6).bind λt69 =>
 some t69) (λr_2=>some r_2))
def fb:FL:=(71,⟨[.val true lq false],[.val false lm (some true)],λa=>ca a⟩)::fa
theorem j8:Gd fb:=kX j7 71 Tryz.f71 [(0,⟨⟨(3,false,[dI])::us 60 5 [],[]⟩,
 ⟨[],[]⟩,some ⟨[(2,false,[dB])],[]⟩⟩),
 (2,⟨⟨[(4,false,[dI])],[]⟩,
 ⟨[],[]⟩,some ⟨[(2,false,[dB])],[]⟩⟩),
 (4,⟨⟨(5,false,[dI])::us 60 5 [],[]⟩,
 ⟨us 60 5 [],[]⟩,some ⟨[(2,false,[dB])],[]⟩⟩)] Tryz.func71
def bE (n0:kK) (b1:Int) (p2:Int):Option Bool :=
 (a6 b1 0 (kJ ((n0.1.length:Int)-1))).bind λt12 =>
 (cond t12
 ((at? n0.1 b1).bind λx18 =>
 (a6 p2 0 (kJ ((x18.2.2.1.length:Int)-1))).bind λt23 =>
 some t23)
 (some false)).bind λt24 =>
 (cond t24
 ((bD n0 b1 p2).bind λt29 =>
 some (t29==1))
 (some false)).bind λt31 =>
 some t31
def fc:FL:=(72,⟨[.val true lq false,.val false kP false,.val false kP false],[.val false lm (some true)],λa=>bE a.1 a.2.1 a.2.2⟩)::fb
theorem j9:Gd fc:=kX j8 72 Tryz.f72 [] Tryz.func72
def aO (p0:kK) (t3:Int):Option (Int⊕(Unit⊕Bool)) :=
 cond (decide (t3<(p0.2.1.length:Int)))
 ((at? p0.2.1 t3).bind λx31 =>
 (cond (x31.1==x31.2.2.1)
 (some true)
 ((bE p0 x31.1 x31.2.1).bind λt44 =>
 some (!t44))).bind λt46 =>
 (cond t46
 (some true)
 ((bE p0 x31.2.2.1 x31.2.2.2).bind λt53 =>
 some (!t53))).bind λt55 =>
 (cond t55
 (some true)
 ((at? p0.1 x31.1).bind λx61 =>
 (at? x61.2.2.1 x31.2.1).bind λx66 =>
 (at? p0.1 x31.2.2.1).bind λx73 =>
 (at? x73.2.2.1 x31.2.2.2).bind λx78 =>
 some (!(x66.1==x78.1)))).bind λt82 =>
 cond t82 (some (.inr (.inr false))) (some (.inl (kJ (t3+1)))))
 (some (.inr (.inl ())))
def aP (p0:kK) (t5:Int):Option (Int⊕(Unit⊕Bool)) :=
 cond (decide (t5<(p0.2.2.length:Int)))
 ((at? p0.2.2 t5).bind λx93 =>
 (a6 x93.1 0 (kJ ((p0.2.1.length:Int)-1))).bind λt100 =>
 (cond (!t100)
 (some true)
 ((at? p0.2.2 t5).bind λx106 =>
 (aJ x106.2.2).bind λt109 =>
 some (!t109))).bind λt111 =>
 cond t111 (some (.inr (.inr false))) (some (.inl (kJ (t5+1)))))
 (some (.inr (.inl ())))
def cb (p0:kK):Option Bool :=
 (ca p0).bind λt7 =>
 (cond (!t7) (some true) (some (decide ((p0.2.1.length:Int)>9)))).bind λt14 =>
 (cond t14 (some true) (some (decide ((p0.2.2.length:Int)>40)))).bind λt20 =>
 cond t20
 (some false)
 ((loop (λz=>aO p0 z) 0).bind (Sum.elim (λd =>
 (loop (λz=>aP p0 z) 0).bind (Sum.elim (λd_1 =>
 some true) (λr=>some r))) (λr_1=>some r_1)))
def fd:FL:=(40,⟨[.val true lq false],[.val false lm (some true)],λa=>cb a⟩)::fc
theorem ja:Gd fd:=kX j9 40 Tryz.f40 [(0,⟨⟨(3,false,[dI])::us 39 7 (us 48 7 (us 57 25 [])),[]⟩,
 ⟨[],[]⟩,some ⟨[(2,false,[dB])],[]⟩⟩),
 (2,⟨⟨(5,false,[dI])::us 103 8 [],[]⟩,
 ⟨[],[]⟩,some ⟨[(2,false,[dB])],[]⟩⟩)] Tryz.func40
def bG (n0:kK) (b1:Int) (p2:Int):Option Bool :=
 (a6 b1 0 (kJ ((n0.1.length:Int)-1))).bind λt12 =>
 (cond t12
 ((at? n0.1 b1).bind λx18 =>
 (a6 p2 0 (kJ ((x18.2.2.1.length:Int)-1))).bind λt23 =>
 some t23)
 (some false)).bind λt24 =>
 (cond t24
 ((at? n0.1 b1).bind λx29 =>
 (at? x29.2.2.1 p2).bind λx33 =>
 some x33.1)
 (some false)).bind λt36 =>
 some t36
def fe:FL:=(113,⟨[.val true lq false,.val false kP false,.val false kP false],[.val false lm (some true)],λa=>bG a.1 a.2.1 a.2.2⟩)::fd
theorem jb:Gd fe:=kX ja 113 Tryz.f113 [] Tryz.func113
def a9 (n0:kK) (k1:Int):Option Bool :=
 (a6 k1 0 (kJ ((n0.2.1.length:Int)-1))).bind λt11 =>
 cond (!t11)
 (some false)
 ((at? n0.2.1 k1).bind λx16 =>
 (bG n0 x16.1 x16.2.1).bind λt23 =>
 (cond t23
 ((bG n0 x16.2.2.1 x16.2.2.2).bind λt30 =>
 some t30)
 (some false)).bind λt31 =>
 some t31)
def ff:FL:=(74,⟨[.val true lq false,.val false kP false],[.val false lm (some true)],λa=>a9 a.1 a.2⟩)::fe
theorem jc:Gd ff:=kX jb 74 Tryz.f74 [] Tryz.func74
def cc (a0:nG) (b1:nG):Option Bool :=
 cond (a0.1 != b1.1)
 (some (decide (a0.1<b1.1)))
 (cond (a0.2.1 != b1.2.1)
 (some (decide (a0.2.1<b1.2.1)))
 (cond (a0.2.2.2.1 != b1.2.2.2.1)
 (let t4:=decide (a0.2.2.2.1<b1.2.2.2.1)
 some t4)
 (let t4_1:=decide (a0.2.2.2.2<b1.2.2.2.2)
 some t4_1)))
def fg:FL:=(143,⟨[.val true nl false,.val true nl false],[.val false lm (some true)],λa=>cc a.1 a.2⟩)::ff
theorem jd:Gd fg:=kX jc 143 Tryz.f143 [] Tryz.func143
def dx (v0:nG) (cost1:Int):Option (nG×Bool) :=
 (aJ v0).bind λt8 =>
 (cond (!t8)
 (some true)
 ((a6 cost1 1 1000).bind λt12 =>
 some (!t12))).bind λt14 =>
 cond t14
 (some (v0,false))
 ((aJ (v0.1,kJ (v0.2.1+cost1),kJ (v0.2.2.1+1),v0.2.2.2.1,v0.2.2.2.2)).bind λt27 =>
 cond (!t27)
 (some (v0,false))
 (some ((v0.1,kJ (v0.2.1+cost1),kJ (v0.2.2.1+1),v0.2.2.2.1,v0.2.2.2.2),true)))
def fh:FL:=(182,⟨[.val true nl false,.val false kP false],[.val true nl (some true),.val false lm (some true)],λa=>dx a.1 a.2⟩)::fg
theorem je:Gd fh:=kX jd 182 Tryz.f182 [] Tryz.func182
def dy (p0:Int) (i1:List Pt) (t8:Int) (t9:Int) (b0:Int) (b1:Int) (b2:Int) (b3:Int) (b4:Int) (b0_1:Int) (b1_1:Int) (b2_1:Int) (b3_1:Int) (b4_1:Int):Option ((Int×Int×Int×Int×Int×Int×Int×Int×Int×Int×Int×Int)⊕(Int×Int×Int×Int×Int×Int×Int×Int×Int×Int×Int)) :=
 cond (decide (t9<(i1.length:Int)))
 ((at? i1 t9).bind λx24 =>
 (cond (!x24.1)
 (some true)
 ((at? i1 t9).bind λx31 =>
 some (!x31.2.2.1))).bind λt35 =>
 cond t35
 (some (.inl (t8,kJ (t9+1),b0,b1,b2,b3,b4,b0_1,b1_1,b2_1,b3_1,b4_1)))
 ((at? i1 t9).bind λx39 =>
 (at? i1 t9).bind λx44 =>
 (dx x39.2.2.2 x44.2.1).bind λt47 =>
 (cond t47.2 (some (decide (t47.1.1<p0))) (some false)).bind λt56 =>
 (cond t56
 ((cond (decide (t8<0))
 (some true)
 ((cc t47.1 (b0_1,b1_1,b2_1,b3_1,b4_1)).bind λt63 =>
 some t63)).bind λt64 =>
 some t64)
 (some false)).bind λt65 =>
 cond t65
 (some (.inl (t9,kJ (t9+1),t47.1.1,t47.1.2.1,t47.1.2.2.1,p0,0,t47.1.1,t47.1.2.1,t47.1.2.2.1,t47.1.2.2.2.1,t47.1.2.2.2.2)))
 (some (.inl (t8,kJ (t9+1),b0,b1,b2,b3,b4,b0_1,b1_1,b2_1,b3_1,b4_1)))))
 (some (.inr (t8,b0,b1,b2,b3,b4,b0_1,b1_1,b2_1,b3_1,b4_1)))
def aQ (p0:Int) (i1:List Pt):Option (nG×Int) :=
 (loop (λz=>dy p0 i1 z.1 z.2.1 z.2.2.1 z.2.2.2.1 z.2.2.2.2.1 z.2.2.2.2.2.1 z.2.2.2.2.2.2.1 z.2.2.2.2.2.2.2.1 z.2.2.2.2.2.2.2.2.1 z.2.2.2.2.2.2.2.2.2.1 z.2.2.2.2.2.2.2.2.2.2.1 z.2.2.2.2.2.2.2.2.2.2.2) ((-1),0,p0,0,0,p0,0,0,0,0,0,0)).bind λd =>
 some ((d.2.1,d.2.2.1,d.2.2.2.1,d.2.2.2.2.1,d.2.2.2.2.2.1),d.1)
def fi:FL:=(140,⟨[.val false kP false,.val false (.one (.sl nZ)) false],[.val true nl (some true),.val false kP (some true)],λa=>aQ a.1 a.2⟩)::fh
theorem jf:Gd fi:=kX je 140 Tryz.f140 [(0,⟨⟨(8,false,[dI])::(9,false,[dI])::us 29 6 (us 52 4 (us 58 7 [])),[(266240,.box [dI,dI,dI,dI,dI]),(526336,.box [dI,dI,dI,dI,dI])]⟩,
 ⟨[(8,false,[dI])],[(266240,.box [dI,dI,dI,dI,dI]),(526336,.box [dI,dI,dI,dI,dI])]⟩,none⟩)] Tryz.func140
def aR (id0:Int) (l1:List Pt) (port2:Int):Option nG :=
 (aQ id0 l1).bind λt12 =>
 some (t12.1.1,t12.1.2.1,t12.1.2.2.1,t12.1.2.2.2.1,port2)
def fj:FL:=(144,⟨[.val false kP false,.val false (.one (.sl nZ)) false,.val false kP false],[.val true nl (some true)],λa=>aR a.1 a.2.1 a.2.2⟩)::fi
theorem jg:Gd fj:=kX jf 144 Tryz.f144 [] Tryz.func144
def ar (n0:kK) (k1:Int) (back2:Bool):Option nG :=
 (at? n0.2.1 k1).bind λx11 =>
 cond back2
 ((at? n0.1 x11.2.2.1).bind λx18 =>
 (at? n0.1 x11.2.2.1).bind λx25 =>
 (aR x18.1 x25.2.2.1 x11.2.2.2).bind λt30 =>
 some t30)
 ((at? n0.1 x11.1).bind λx35 =>
 (at? n0.1 x11.1).bind λx42 =>
 (aR x35.1 x42.2.2.1 x11.2.1).bind λt47 =>
 some t47)
def fk:FL:=(137,⟨[.val true lq false,.val false kP false,.val false lm false],[.val true nl (some true)],λa=>ar a.1 a.2.1 a.2.2⟩)::fj
theorem jh:Gd fk:=kX jg 137 Tryz.f137 [] Tryz.func137
def au (n0:kK) (k1:Int) (back2:Bool):Option Bool :=
 (at? n0.2.1 k1).bind λx12 =>
 (at? n0.1 x12.2.2.1).bind λx18 =>
 (at? x18.2.2.1 x12.2.2.2).bind λx23 =>
 cond back2
 ((at? n0.1 x12.1).bind λx30 =>
 (at? x30.2.2.1 x12.2.1).bind λx35 =>
 (cond x35.2.2.1
 ((ar n0 k1 back2).bind λt45 =>
 some (x35.2.2.2.1==t45.1&&(x35.2.2.2.2.1==t45.2.1&&(x35.2.2.2.2.2.1==t45.2.2.1&&(x35.2.2.2.2.2.2.1==t45.2.2.2.1&&(x35.2.2.2.2.2.2.2==t45.2.2.2.2))))))
 (some false)).bind λt47 =>
 some t47)
 ((cond x23.2.2.1
 ((ar n0 k1 back2).bind λt45_1 =>
 some (x23.2.2.2.1==t45_1.1&&(x23.2.2.2.2.1==t45_1.2.1&&(x23.2.2.2.2.2.1==t45_1.2.2.1&&(x23.2.2.2.2.2.2.1==t45_1.2.2.2.1&&(x23.2.2.2.2.2.2.2==t45_1.2.2.2.2))))))
 (some false)).bind λt47_1 =>
 some t47_1)
def fm:FL:=(75,⟨[.val true lq false,.val false kP false,.val false lm false],[.val false lm (some true)],λa=>au a.1 a.2.1 a.2.2⟩)::fk
theorem ji:Gd fm:=kX jh 75 Tryz.f75 [] Tryz.func75
def aS (n0:kK) (i3:Int):Option (Int⊕(Unit⊕Bool)) :=
 cond (decide (i3<(n0.2.1.length:Int)))
 ((a9 n0 i3).bind λt13 =>
 (cond t13
 ((au n0 i3 false).bind λt17 =>
 (cond (!t17)
 (some true)
 ((au n0 i3 true).bind λt22 =>
 some (!t22))).bind λt24 =>
 some t24)
 (some false)).bind λt25 =>
 cond t25 (some (.inr (.inr false))) (some (.inl (kJ (i3+1)))))
 (some (.inr (.inl ())))
def ce (n0:kK):Option Bool :=
 (loop (λz=>aS n0 z) 0).bind (Sum.elim (λd =>
 some true) (λr=>some r))
def fo:FL:=(41,⟨[.val true lq false],[.val false lm (some true)],λa=>ce a⟩)::fm
theorem jj:Gd fo:=kX ji 41 Tryz.f41 [(0,⟨⟨(3,false,[dI])::us 15 10 [],[]⟩,
 ⟨[],[]⟩,some ⟨[(2,false,[dB])],[]⟩⟩)] Tryz.func41
def al (id0:Int) (l1:List Pt) (port2:Int):Option Int :=
 (a6 port2 0 (kJ ((l1.length:Int)-1))).bind λt13 =>
 (cond (!t13)
 (some true)
 ((at? l1 port2).bind λx18 =>
 some (!x18.1))).bind λt22 =>
 cond t22
 (some 4)
 ((aQ id0 l1).bind λt26 =>
 cond (t26.2==port2)
 (some 1)
 ((at? l1 port2).bind λx36 =>
 (cond (!x36.2.2.1)
 (some true)
 ((aR id0 l1 port2).bind λt44 =>
 (at? l1 port2).bind λx47 =>
 (cc t44 x47.2.2.2).bind λt50 =>
 some t50)).bind λt51 =>
 cond t51 (some 2) (some 3)))
def fp:FL:=(82,⟨[.val false kP false,.val false (.one (.sl nZ)) false,.val false kP false],[.val false kP (some true)],λa=>al a.1 a.2.1 a.2.2⟩)::fo
theorem jk:Gd fp:=kX jj 82 Tryz.f82 [] Tryz.func82
def bH (id0:Int) (l1:List Pt) (n5:Int) (i6:Int):Option ((Int×Int)⊕Int) :=
 (cond (decide (i6<(l1.length:Int))) (some (decide (i6<6))) (some false)).bind λt14 =>
 cond t14
 ((al id0 l1 i6).bind λt20 =>
 cond (decide (t20<=2))
 ((shl .i64 1 (IntKind.u64.wrap (i6))).bind λt25 =>
 some (.inl (wU .i64 n5 t25,kJ (i6+1))))
 (some (.inl (n5,kJ (i6+1)))))
 (some (.inr n5))
def cf (id0:Int) (l1:List Pt):Option Int :=
 (loop (λz=>bH id0 l1 z.1 z.2) (0,0)).bind λd =>
 some d
def fq:FL:=(104,⟨[.val false kP false,.val false (.one (.sl nZ)) false],[.val false kP (some true)],λa=>cf a.1 a.2⟩)::fp
theorem jl:Gd fq:=kX jk 104 Tryz.f104 [(0,⟨⟨[(5,false,[dI]),(6,false,[dI]),(12,false,[.undef]),(13,false,[.undef])],[]⟩,
 ⟨[(5,false,[dI])],[]⟩,none⟩)] Tryz.func104
def cg (n0:Int) (port1:Int):Option Bool :=
 (a6 port1 0 7).bind λt6 =>
 (cond t6
 ((shr .i64 n0 (IntKind.u64.wrap (port1))).bind λt11 =>
 some ((qx .i64 t11 1)==1))
 (some false)).bind λt14 =>
 some t14
def fr:FL:=(106,⟨[.val false kP false,.val false kP false],[.val false lm (some true)],λa=>cg a.1 a.2⟩)::fq
theorem jm:Gd fr:=kX jl 106 Tryz.f106 [] Tryz.func106
def ac (n0:kK) (b1:Int) (p2:Int):Option Bool :=
 (at? n0.1 b1).bind λx10 =>
 (at? n0.1 b1).bind λx16 =>
 (cf x10.1 x16.2.2.1).bind λt19 =>
 (cg t19 p2).bind λt21 =>
 some t21
def ft:FL:=(54,⟨[.val true lq false,.val false kP false,.val false kP false],[.val false lm (some true)],λa=>ac a.1 a.2.1 a.2.2⟩)::fr
theorem jn:Gd ft:=kX jm 54 Tryz.f54 [] Tryz.func54
def dz (n0:kK) (i4:Int) (out3:List Int):Option ((Int×List Int)⊕(List Int)) :=
 cond (decide (i4<(n0.2.1.length:Int)))
 ((at? n0.2.1 i4).bind λx17 =>
 (a9 n0 i4).bind λt21 =>
 (cond t21
 ((ac n0 x17.1 x17.2.1).bind λt28 =>
 some t28)
 (some false)).bind λt29 =>
 (cond t29
 ((ac n0 x17.2.2.1 x17.2.2.2).bind λt36 =>
 some t36)
 (some false)).bind λt37 =>
 cond t37
 ((nh out3 [i4]).bind λzs41 =>
 some (.inl (kJ (i4+1),zs41)))
 (some (.inl (kJ (i4+1),out3))))
 (some (.inr out3))
def ch (n0:kK):Option (List Int) :=
 (loop (λz=>dz n0 z.1 z.2) (0,([]:List Int))).bind λd =>
 some d
def fu:FL:=(76,⟨[.val true lq false],[.val false nF (some true)],λa=>ch a⟩)::ft
theorem jo:Gd fu:=kX jn 76 Tryz.f76 [(0,⟨⟨(3,false,[.own 1000000000])::(4,false,[dI])::us 23 6 (us 31 6 []),[(1000000000,.root kP true)]⟩,
 ⟨[(3,false,[.own 1000000300])],[(1000000300,.root kP true)]⟩,none⟩)] Tryz.func76
def fv (n0:kK) (i4:Int) (out3:List Int):Option ((Int×List Int)⊕(List Int)) :=
 cond (decide (i4<(n0.2.1.length:Int)))
 ((a9 n0 i4).bind λt15 =>
 cond t15
 ((nh out3 [i4]).bind λzs19 =>
 some (.inl (kJ (i4+1),zs19)))
 (some (.inl (kJ (i4+1),out3))))
 (some (.inr out3))
def bI (n0:kK):Option (List Int) :=
 (loop (λz=>fv n0 z.1 z.2) (0,([]:List Int))).bind λd =>
 some d
def fw:FL:=(77,⟨[.val true lq false],[.val false nF (some true)],λa=>bI a⟩)::fu
theorem jp:Gd fw:=kX jo 77 Tryz.f77 [(0,⟨⟨[(3,false,[.own 1000000000]),(4,false,[dI])],[(1000000000,.root kP true)]⟩,
 ⟨[(3,false,[.own 1000000300])],[(1000000300,.root kP true)]⟩,none⟩)] Tryz.func77
def jq (a0:List Int) (b1:List Int) (i5:Int):Option (Int⊕(Unit⊕Bool)) :=
 cond (decide (i5<(a0.length:Int)))
 ((at? a0 i5).bind λx19 =>
 (at? b1 i5).bind λx23 =>
 cond (x19 != x23) (some (.inr (.inr false))) (some (.inl (kJ (i5+1)))))
 (some (.inr (.inl ())))
def ci (a0:List Int) (b1:List Int):Option Bool :=
 cond ((a0.length:Int) != (b1.length:Int))
 (some false)
 ((loop (λz=>jq a0 b1 z) 0).bind (Sum.elim (λd =>
 some true) (λr=>some r)))
def fx:FL:=(78,⟨[.val false nF false,.val false nF false],[.val false lm (some true)],λa=>ci a.1 a.2⟩)::fw
theorem jr:Gd fx:=kX jp 78 Tryz.f78 [(0,⟨⟨[(5,false,[dI])],[]⟩,
 ⟨[],[]⟩,some ⟨[(4,false,[dB])],[]⟩⟩)] Tryz.func78
def aU (l0:List Int) (n1:Int) (i5:Int):Option (Int⊕(Unit⊕Bool)) :=
 cond (decide (i5<(l0.length:Int)))
 ((at? l0 i5).bind λx14 =>
 cond (x14==n1) (some (.inr (.inr true))) (some (.inl (kJ (i5+1)))))
 (some (.inr (.inl ())))
def a8 (l0:List Int) (n1:Int):Option Bool :=
 (loop (λz=>aU l0 n1 z) 0).bind (Sum.elim (λd =>
 some false) (λr=>some r))
def fy:FL:=(139,⟨[.val false nF false,.val false kP false],[.val false lm (some true)],λa=>a8 a.1 a.2⟩)::fx
theorem js:Gd fy:=kX jr 139 Tryz.f139 [(0,⟨⟨[(5,false,[dI])],[]⟩,
 ⟨[],[]⟩,some ⟨[(4,false,[dB])],[]⟩⟩)] Tryz.func139
def aV (p0:kK) (i1:List Int) (t8:Int) (t7:List Int):Option ((Int×List Int)⊕(List Int)) :=
 cond (decide (t8<(i1.length:Int)))
 ((at? i1 t8).bind λx21 =>
 (a6 x21 0 (kJ ((p0.2.1.length:Int)-1))).bind λt27 =>
 cond (!t27)
 (some (.inl (kJ (t8+1),t7)))
 ((at? i1 t8).bind λx33 =>
 (at? p0.2.1 x33).bind λx35 =>
 (a8 t7 x35.1).bind λt40 =>
 (cond t40
 ((a8 t7 x35.2.2.1).bind λt45 =>
 some (!t45))
 (some false)).bind λt47 =>
 (cond t47
 ((a6 x35.2.2.1 0 (kJ ((p0.1.length:Int)-1))).bind λt55 =>
 some t55)
 (some false)).bind λt56 =>
 cond t56
 ((nh t7 [x35.2.2.1]).bind λzs61 =>
 (a8 zs61 x35.2.2.1).bind λt65 =>
 (cond t65
 ((a8 zs61 x35.1).bind λt70 =>
 some (!t70))
 (some false)).bind λt72 =>
 (cond t72
 ((a6 x35.1 0 (kJ ((p0.1.length:Int)-1))).bind λt80 =>
 some t80)
 (some false)).bind λt81 =>
 cond t81
 ((nh zs61 [x35.1]).bind λzs86 =>
 some (.inl (kJ (t8+1),zs86)))
 (some (.inl (kJ (t8+1),zs61))))
 ((a8 t7 x35.2.2.1).bind λt65_1 =>
 (cond t65_1
 ((a8 t7 x35.1).bind λt70_1 =>
 some (!t70_1))
 (some false)).bind λt72_1 =>
 (cond t72_1
 ((a6 x35.1 0 (kJ ((p0.1.length:Int)-1))).bind λt80_1 =>
 some t80_1)
 (some false)).bind λt81_1 =>
 cond t81_1
 ((nh t7 [x35.1]).bind λzs86_1 =>
 some (.inl (kJ (t8+1),zs86_1)))
 (some (.inl (kJ (t8+1),t7))))))
 (some (.inr t7))
def cj (p0:kK) (i1:List Int) (a2:List Int):Option (List Int) :=
 (nh ([]:List Int) a2).bind λzs12 =>
 (loop (λz=>aV p0 i1 z.1 z.2) (0,zs12)).bind λd =>
 some d
def fA:FL:=(138,⟨[.val true lq false,.val false nF false,.val false nF false],[.val false nF (some true)],λa=>cj a.1 a.2.1 a.2.2⟩)::fy
theorem jt:Gd fA:=kX js 138 Tryz.f138 [(0,⟨⟨(7,false,[.own 1000000000])::(8,false,[dI])::us 42 5 (us 49 7 (us 67 5 (us 74 7 []))),[(1000000000,.root kP true)]⟩,
 ⟨[(7,false,[.own 1000000300])],[(1000000300,.root kP true)]⟩,none⟩)] Tryz.func138
def av (n0:kK) (l2:List Int) (i8:Int) (x7:List Int):Option ((Int×List Int)⊕(List Int)) :=
 cond (decide (i8<(n0.1.length:Int)))
 ((cj n0 l2 x7).bind λt31 =>
 some (.inl (kJ (i8+1),t31)))
 (some (.inr x7))
def fB (n0:kK) (d:List Int) (i10:Int) (out9:List Int):Option ((Int×List Int)⊕(List Int)) :=
 cond (decide (i10<(n0.1.length:Int)))
 ((a8 d i10).bind λt42 =>
 cond t42
 ((nh out9 [i10]).bind λzs46 =>
 some (.inl (kJ (i10+1),zs46)))
 (some (.inl (kJ (i10+1),out9))))
 (some (.inr out9))
def af (n0:kK) (b1:Int) (l2:List Int):Option (List Int) :=
 (a6 b1 0 (kJ ((n0.1.length:Int)-1))).bind λt16 =>
 cond (!t16)
 (some ([]:List Int))
 ((loop (λz=>av n0 l2 z.1 z.2) (0,[b1])).bind λd =>
 (loop (λz=>fB n0 d z.1 z.2) (0,([]:List Int))).bind λd_1 =>
 some d_1)
def fC:FL:=(79,⟨[.val true lq false,.val false kP false,.val false nF false],[.val false nF (some true)],λa=>af a.1 a.2.1 a.2.2⟩)::fA
theorem ju:Gd fC:=kX jt 79 Tryz.f79 [(0,⟨⟨[(7,false,[.own 1000000000]),(8,false,[dI])],[(1000000000,.root kP true)]⟩,
 ⟨[(7,false,[.own 1000000300])],[(1000000300,.root kP true)]⟩,none⟩),
 (2,⟨⟨[(9,false,[.own 1000002000]),(10,false,[dI])],[(1000002000,.root kP true)]⟩,
 ⟨[(9,false,[.own 1000002300])],[(1000002300,.root kP true)]⟩,none⟩)] Tryz.func79
def dA (n0:kK) (l1:List Int) (i5:Int):Option (Int⊕(Unit⊕Bool)) :=
 cond (decide (i5<(l1.length:Int)))
 ((at? l1 i5).bind λx15 =>
 (a6 x15 0 (kJ ((n0.2.1.length:Int)-1))).bind λt21 =>
 cond (!t21)
 (some (.inl (kJ (i5+1))))
 ((cut l1 0 i5).bind λt26 =>
 (nh ([]:List Int) t26).bind λzs27 =>
 (cut l1 (kJ (i5+1)) (l1.length:Int)).bind λt31 =>
 (nh zs27 t31).bind λzs32 =>
 (at? l1 i5).bind λx38 =>
 (at? n0.2.1 x38).bind λx40 =>
 (af n0 x40.1 zs32).bind λt44 =>
 (at? l1 i5).bind λx49 =>
 (at? n0.2.1 x49).bind λx51 =>
 (a8 t44 x51.2.2.1).bind λt54 =>
 cond t54 (some (.inr (.inr true))) (some (.inl (kJ (i5+1))))))
 (some (.inr (.inl ())))
def ck (n0:kK) (l1:List Int):Option Bool :=
 (loop (λz=>dA n0 l1 z) 0).bind (Sum.elim (λd =>
 some false) (λr=>some r))
def fD:FL:=(80,⟨[.val true lq false,.val false nF false],[.val false lm (some true)],λa=>ck a.1 a.2⟩)::fC
theorem jv:Gd fD:=kX ju 80 Tryz.f80 [(0,⟨⟨[(5,false,[dI])],[]⟩,
 ⟨[],[]⟩,some ⟨[(4,false,[dB])],[]⟩⟩)] Tryz.func80
def dC (n0:kK) (t7:List Int) (t9:List Int) (i5:Int):Option (Int⊕(Unit⊕Bool)) :=
 cond (decide (i5<(n0.1.length:Int)))
 ((af n0 i5 t7).bind λt20 =>
 (af n0 i5 t9).bind λt24 =>
 (ci t20 t24).bind λt25 =>
 cond (!t25) (some (.inr (.inr false))) (some (.inl (kJ (i5+1)))))
 (some (.inr (.inl ())))
def cl (n0:kK):Option Bool :=
 (ch n0).bind λt7 =>
 (bI n0).bind λt9 =>
 (loop (λz=>dC n0 t7 t9 z) 0).bind (Sum.elim (λd =>
 (ck n0 t7).bind λt29 =>
 some (!t29)) (λr=>some r))
def fE:FL:=(42,⟨[.val true lq false],[.val false lm (some true)],λa=>cl a⟩)::fD
theorem jw:Gd fE:=kX jv 42 Tryz.f42 [(0,⟨⟨[(5,false,[dI])],[]⟩,
 ⟨[],[]⟩,some ⟨[(2,false,[dB])],[]⟩⟩)] Tryz.func42
def aW (n0:kK) (t13:List Int) (root6:Int) (i7:Int):Option ((Int×Int)⊕Int) :=
 cond (decide (i7<(t13.length:Int)))
 ((ix t13.length i7).bind λj24 =>
 (t13[j24]?).bind λx25 =>
 (at? n0.1 x25).bind λx26 =>
 (cond (root6==0) (some true) (some (decide (x26.1<root6)))).bind λt35 =>
 cond t35
 (some (.inl (x26.1,kJ (i7+1))))
 (some (.inl (root6,kJ (i7+1)))))
 (some (.inr root6))
def bJ (n0:kK) (b1:Int):Option Int :=
 (bI n0).bind λt12 =>
 (af n0 b1 t12).bind λt13 =>
 (loop (λz=>aW n0 t13 z.1 z.2) (0,0)).bind λd =>
 some d
def fF:FL:=(141,⟨[.val true lq false,.val false kP false],[.val false kP (some true)],λa=>bJ a.1 a.2⟩)::fE
theorem jx:Gd fF:=kX jw 141 Tryz.f141 [(0,⟨⟨(6,false,[dI])::(7,false,[dI])::us 32 3 [],[]⟩,
 ⟨[(6,false,[dI])],[]⟩,none⟩)] Tryz.func141
def aw (p0:kK) (i1:List Int) (t6:Int) (l:List Int):Option ((Int×List Int)⊕(List Int)) :=
 cond (decide (t6<(p0.2.1.length:Int)))
 ((a9 p0 t6).bind λt22 =>
 cond (!t22)
 (some (.inl (kJ (t6+1),l)))
 ((at? p0.2.1 t6).bind λx27 =>
 (at? p0.1 x27.2.2.1).bind λx33 =>
 (at? x33.2.2.1 x27.2.2.2).bind λx38 =>
 (at? p0.1 x27.1).bind λx45 =>
 (at? x45.2.2.1 x27.2.1).bind λx50 =>
 (at? i1 x27.1).bind λx56 =>
 (cond (decide (x56>=0))
 ((ix l.length x27.2.2.1).bind λj63 =>
 (l[j63]?).bind λx64 =>
 (cond (decide (x64<0))
 (some true)
 ((at? i1 x27.1).bind λx70 =>
 (ix l.length x27.2.2.1).bind λj77 =>
 (l[j77]?).bind λx78 =>
 some (decide ((kJ (x70+x38.2.1))<x78)))).bind λt80 =>
 some t80)
 (some false)).bind λt81 =>
 cond t81
 ((at? i1 x27.1).bind λx88 =>
 (ix l.length x27.2.2.1).bind λj92 =>
 (l[j92]?).bind λx =>
 (at? i1 x27.2.2.1).bind λx96 =>
 (cond (decide (x96>=0))
 ((ix (l.set j92 (kJ (x88+x38.2.1))).length x27.1).bind λj103 =>
 ((l.set j92 (kJ (x88+x38.2.1)))[j103]?).bind λx104 =>
 (cond (decide (x104<0))
 (some true)
 ((at? i1 x27.2.2.1).bind λx110 =>
 (ix (l.set j92 (kJ (x88+x38.2.1))).length x27.1).bind λj117 =>
 ((l.set j92 (kJ (x88+x38.2.1)))[j117]?).bind λx118 =>
 some (decide ((kJ (x110+x50.2.1))<x118)))).bind λt120 =>
 some t120)
 (some false)).bind λt121 =>
 cond t121
 ((at? i1 x27.2.2.1).bind λx128 =>
 (ix (l.set j92 (kJ (x88+x38.2.1))).length x27.1).bind λj132 =>
 ((l.set j92 (kJ (x88+x38.2.1)))[j132]?).bind λx_1 =>
 some (.inl (kJ (t6+1),(l.set j92 (kJ (x88+x38.2.1))).set j132 (kJ (x128+x50.2.1)))))
 (some (.inl (kJ (t6+1),l.set j92 (kJ (x88+x38.2.1))))))
 ((at? i1 x27.2.2.1).bind λx96_1 =>
 (cond (decide (x96_1>=0))
 ((ix l.length x27.1).bind λj103_1 =>
 (l[j103_1]?).bind λx104_1 =>
 (cond (decide (x104_1<0))
 (some true)
 ((at? i1 x27.2.2.1).bind λx110_1 =>
 (ix l.length x27.1).bind λj117_1 =>
 (l[j117_1]?).bind λx118_1 =>
 some (decide ((kJ (x110_1+x50.2.1))<x118_1)))).bind λt120_1 =>
 some t120_1)
 (some false)).bind λt121_1 =>
 cond t121_1
 ((at? i1 x27.2.2.1).bind λx128_1 =>
 (ix l.length x27.1).bind λj132_1 =>
 (l[j132_1]?).bind λx_2 =>
 some (.inl (kJ (t6+1),l.set j132_1 (kJ (x128_1+x50.2.1)))))
 (some (.inl (kJ (t6+1),l))))))
 (some (.inr l))
def cm (p0:kK) (i1:List Int):Option (List Int) :=
 (nh ([]:List Int) i1).bind λzs12 =>
 (loop (λz=>aw p0 i1 z.1 z.2) (0,zs12)).bind λd =>
 some d
def fG:FL:=(183,⟨[.val true lq false,.val false nF false],[.val false nF (some true)],λa=>cm a.1 a.2⟩)::fF
theorem jy:Gd fG:=kX jx 183 Tryz.f183 [(0,⟨⟨(6,false,[dI])::us 60 21 (us 100 21 []),[(265216,.keep kP true)]⟩,
 ⟨[],[(265216,.keep kP true)]⟩,none⟩)] Tryz.func183
def ax (n0:kK) (t19:Int) (i7:Int) (dist6:List Int):Option ((Int×List Int)⊕(List Int)) :=
 cond (decide (i7<(n0.1.length:Int)))
 ((at? n0.1 i7).bind λx31 =>
 cond (x31.1==t19)
 ((nh dist6 ([0]:List Int)).bind λzs39 =>
 some (.inl (kJ (i7+1),zs39)))
 ((nh dist6 ([(-1)]:List Int)).bind λzs39_1 =>
 some (.inl (kJ (i7+1),zs39_1))))
 (some (.inr dist6))
def ay (n0:kK) (i9:Int) (dist6_2:List Int):Option ((Int×List Int)⊕(List Int)) :=
 cond (decide (i9<(n0.1.length:Int)))
 ((cm n0 dist6_2).bind λt49 =>
 some (.inl (kJ (i9+1),t49)))
 (some (.inr dist6_2))
def bK (n0:kK) (b1:Int):Option Int :=
 (a6 b1 0 (kJ ((n0.1.length:Int)-1))).bind λt15 =>
 cond (!t15)
 (some (-1))
 ((bJ n0 b1).bind λt19 =>
 (loop (λz=>ax n0 t19 z.1 z.2) (0,([]:List Int))).bind λd =>
 (loop (λz=>ay n0 z.1 z.2) (0,d)).bind λd_1 =>
 (ix d_1.length b1).bind λj52 =>
 (d_1[j52]?).bind λx53 =>
 some x53)
def fH:FL:=(142,⟨[.val true lq false,.val false kP false],[.val false kP (some true)],λa=>bK a.1 a.2⟩)::fG
theorem jz:Gd fH:=kX jy 142 Tryz.f142 [(0,⟨⟨[(6,false,[.own 1000000000]),(7,false,[dI])],[(1000000000,.root kP true)]⟩,
 ⟨[(6,false,[.own 1000000300])],[(1000000300,.root kP true)]⟩,none⟩),
 (2,⟨⟨[(6,false,[.own 1000002000]),(9,false,[dI])],[(1000002000,.root kP true)]⟩,
 ⟨[(6,false,[.own 1000002300])],[(1000002300,.root kP true)]⟩,none⟩)] Tryz.func142
def cn (n0:kK) (b1:Int):Option Bool :=
 (a6 b1 0 (kJ ((n0.1.length:Int)-1))).bind λt12 =>
 cond (!t12)
 (some false)
 ((at? n0.1 b1).bind λx18 =>
 (at? n0.1 b1).bind λx24 =>
 (aQ x18.1 x24.2.2.1).bind λt27 =>
 (bJ n0 b1).bind λt34 =>
 (cond (t27.1.1==t34)
 ((bK n0 b1).bind λt41 =>
 some (t27.1.2.1==t41))
 (some false)).bind λt43 =>
 some t43)
def fJ:FL:=(81,⟨[.val true lq false,.val false kP false],[.val false lm (some true)],λa=>cn a.1 a.2⟩)::fH
theorem jA:Gd fJ:=kX jz 81 Tryz.f81 [] Tryz.func81
def aX (n0:kK) (i3:Int):Option (Int⊕(Unit⊕Bool)) :=
 cond (decide (i3<(n0.1.length:Int)))
 ((cn n0 i3).bind λt13 =>
 cond (!t13) (some (.inr (.inr false))) (some (.inl (kJ (i3+1)))))
 (some (.inr (.inl ())))
def co (n0:kK):Option Bool :=
 (loop (λz=>aX n0 z) 0).bind (Sum.elim (λd =>
 some true) (λr=>some r))
def fK:FL:=(43,⟨[.val true lq false],[.val false lm (some true)],λa=>co a⟩)::fJ
theorem jB:Gd fK:=kX jA 43 Tryz.f43 [(0,⟨⟨[(3,false,[dI])],[]⟩,
 ⟨[],[]⟩,some ⟨[(2,false,[dB])],[]⟩⟩)] Tryz.func43
def dD (n0:kK) (i3:Int):Option (Int⊕(Unit⊕Bool)) :=
 cond (decide (i3<(n0.2.1.length:Int)))
 ((a9 n0 i3).bind λt16 =>
 cond (!t16)
 (some (.inl (kJ (i3+1))))
 ((at? n0.2.1 i3).bind λx21 =>
 (at? n0.1 x21.1).bind λx27 =>
 (at? n0.1 x21.1).bind λx34 =>
 (al x27.1 x34.2.2.1 x21.2.1).bind λt39 =>
 (at? n0.1 x21.2.2.1).bind λx45 =>
 (at? n0.1 x21.2.2.1).bind λx52 =>
 (al x45.1 x52.2.2.1 x21.2.2.2).bind λt57 =>
 cond ((t39==2)==(t57==2)) (some (.inr (.inr false))) (some (.inl (kJ (i3+1))))))
 (some (.inr (.inl ())))
def cp (n0:kK):Option Bool :=
 (loop (λz=>dD n0 z) 0).bind (Sum.elim (λd =>
 some true) (λr=>some r))
def fL:FL:=(44,⟨[.val true lq false],[.val false lm (some true)],λa=>cp a⟩)::fK
theorem jC:Gd fL:=kX jB 44 Tryz.f44 [(0,⟨⟨[(3,false,[dI])],[]⟩,
 ⟨[],[]⟩,some ⟨[(2,false,[dB])],[]⟩⟩)] Tryz.func44
def cq (n0:kK):Option Int :=
 (cb n0).bind λt5 =>
 cond (!t5)
 (some 1)
 ((ce n0).bind λt9 =>
 cond (!t9)
 (some 0)
 ((cl n0).bind λt13 =>
 cond (!t13)
 (some 2)
 ((co n0).bind λt17 =>
 cond (!t17)
 (some 3)
 ((cp n0).bind λt21 =>
 cond (!t21) (some 4) (some 0)))))
def fM:FL:=(18,⟨[.val true lq false],[.val false kP (some true)],λa=>cq a⟩)::fL
theorem jD:Gd fM:=kX jC 18 Tryz.f18 [] Tryz.func18
def a7 (n0:Int) (low1:Int) (high2:Int):Option Bool :=
 (cond (decide (n0>=low1)) (some (decide (n0<=high2))) (some false)).bind λt14 =>
 some t14
def fN:FL:=(83,⟨[.val false kP false,.val false kP false,.val false kP false],[.val false lm (some true)],λa=>a7 a.1 a.2.1 a.2.2⟩)::fM
theorem jE:Gd fN:=kX jD 83 Tryz.f83 [] Tryz.func83
def am (v0:nG):Option Bool :=
 (a7 v0.1 1 99).bind λt5 =>
 (cond t5
 ((a7 v0.2.1 0 100000).bind λt9 =>
 some t9)
 (some false)).bind λt10 =>
 (cond t10
 ((a7 v0.2.2.1 0 10).bind λt14 =>
 some t14)
 (some false)).bind λt15 =>
 (cond t15
 ((a7 v0.2.2.2.1 1 99).bind λt19 =>
 some t19)
 (some false)).bind λt20 =>
 (cond t20
 ((a7 v0.2.2.2.2 0 7).bind λt24 =>
 some t24)
 (some false)).bind λt25 =>
 some t25
def fO:FL:=(86,⟨[.val true nl false],[.val false lm (some true)],λa=>am a⟩)::fN
theorem jF:Gd fO:=kX jE 86 Tryz.f86 [] Tryz.func86
def bL (p0:Pt):Option Bool :=
 (a7 p0.2.1 1 1000).bind λt5 =>
 (cond (!t5)
 (some true)
 ((cond p0.2.2.1 (some (!p0.1)) (some false)).bind λt14 =>
 some t14)).bind λt15 =>
 cond t15
 (some false)
 (cond p0.2.2.1
 ((am p0.2.2.2).bind λt20 =>
 some t20)
 (let t2:=p0.2.2.2.1==0&&(p0.2.2.2.2.1==0&&(p0.2.2.2.2.2.1==0&&(p0.2.2.2.2.2.2.1==0&&(p0.2.2.2.2.2.2.2==0))))
 some t2))
def fP:FL:=(145,⟨[.val true nZ false],[.val false lm (some true)],λa=>bL a⟩)::fO
theorem jG:Gd fP:=kX jF 145 Tryz.f145 [] Tryz.func145
def aY (e0:ma):Option Bool :=
 (a7 e0.1 1 99).bind λt5 =>
 (cond t5
 ((a7 e0.2.1 1 9999).bind λt9 =>
 some t9)
 (some false)).bind λt10 =>
 (cond t10
 ((a7 e0.2.2.1 0 7).bind λt14 =>
 some t14)
 (some false)).bind λt15 =>
 (cond t15
 ((a7 e0.2.2.2.1 0 4).bind λt19 =>
 some t19)
 (some false)).bind λt20 =>
 (cond t20
 ((cond (!e0.2.2.2.2) (some true) (some (e0.2.2.2.1==0))).bind λt29 =>
 some t29)
 (some false)).bind λt30 =>
 some t30
def fQ:FL:=(173,⟨[.val true mQ false],[.val false lm (some true)],λa=>aY a⟩)::fP
theorem jH:Gd fQ:=kX jG 173 Tryz.f173 [] Tryz.func173
def bM (e0:ma) (tag1:Int) (mac2:Int):Option Bool :=
 (cond (decide (e0.1>tag1))
 (some true)
 ((cond (e0.1==tag1) (some (decide (e0.2.1>mac2))) (some false)).bind λt21 =>
 some t21)).bind λt22 =>
 some t22
def fR:FL:=(184,⟨[.val true mQ false,.val false kP false,.val false kP false],[.val false lm (some true)],λa=>bM a.1 a.2.1 a.2.2⟩)::fQ
theorem jI:Gd fR:=kX jH 184 Tryz.f184 [] Tryz.func184
def dE (l0:List ma) (t7:Int):Option (Int⊕(Unit⊕Bool)) :=
 cond (decide (t7<(l0.length:Int)))
 ((at? l0 t7).bind λx10 =>
 (aY x10).bind λt13 =>
 (cond (!t13)
 (some true)
 ((cond (decide (t7>0))
 ((at? l0 (kJ (t7-1))).bind λx23 =>
 (at? l0 (kJ (t7-1))).bind λx29 =>
 (bM x10 x23.1 x29.2.1).bind λt32 =>
 some (!t32))
 (some false)).bind λt34 =>
 some t34)).bind λt35 =>
 cond t35 (some (.inr (.inr false))) (some (.inl (kJ (t7+1)))))
 (some (.inr (.inl ())))
def cr (l0:List ma):Option Bool :=
 (loop (λz=>dE l0 z) 0).bind (Sum.elim (λd =>
 let t2:=decide ((l0.length:Int)<=12)
 some t2) (λr=>some r))
def fS:FL:=(146,⟨[.val false (.one (.sl mQ)) false],[.val false lm (some true)],λa=>cr a⟩)::fR
theorem jJ:Gd fS:=kX jI 146 Tryz.f146 [(0,⟨⟨(7,false,[dI])::us 16 19 [],[]⟩,
 ⟨[],[]⟩,some ⟨[(2,false,[dB])],[]⟩⟩)] Tryz.func146
def ct (v0:n6) (id1:Int) (t10:Int):Option (Int⊕(Unit⊕Int)) :=
 cond (decide (t10<(v0.1.length:Int)))
 ((at? v0.1 t10).bind λx13 =>
 cond (x13.1==id1) (some (.inr (.inr t10))) (some (.inl (kJ (t10+1)))))
 (some (.inr (.inl ())))
def aZ (v0:n6) (id1:Int):Option Int :=
 (loop (λz=>ct v0 id1 z) 0).bind (Sum.elim (λd =>
 some (-1)) (λr=>some r))
def fT:FL:=(171,⟨[.val true pb false,.val false kP false],[.val false kP (some true)],λa=>aZ a.1 a.2⟩)::fS
theorem jK:Gd fT:=kX jJ 171 Tryz.f171 [(0,⟨⟨[(10,false,[dI])],[]⟩,
 ⟨[],[]⟩,some ⟨[(4,false,[dI])],[]⟩⟩)] Tryz.func171
def cu (ports0:Int):Option Int :=
 (shl .i64 1 ports0).bind λt4 =>
 some (kJ (t4-1))
def fU:FL:=(185,⟨[.val false kP false],[.val false kP (some true)],λa=>cu a⟩)::fT
theorem jL:Gd fU:=kX jK 185 Tryz.f185 [] Tryz.func185
def dG (p0:n6) (i1:Int) (t28:Int):Option (Int⊕(Unit⊕Bool)) :=
 cond (decide (t28<(p0.1.length:Int)))
 ((at? p0.1 t28).bind λx31 =>
 (a7 x31.1 1 99).bind λt35 =>
 (cond (!t35)
 (some true)
 ((cond (decide (t28>0))
 ((at? p0.1 (kJ (t28-1))).bind λx45 =>
 some (decide (x45.1>=x31.1)))
 (some false)).bind λt51 =>
 some t51)).bind λt52 =>
 (cond t52
 (some true)
 ((cu i1).bind λt57 =>
 (a7 x31.2.1 0 t57).bind λt58 =>
 some (!t58))).bind λt60 =>
 (cond t60 (some true) (some ((uH .i64 x31.2.2 x31.2.1) != 0))).bind λt68 =>
 cond t68 (some (.inr (.inr false))) (some (.inl (kJ (t28+1)))))
 (some (.inr (.inl ())))
def cw (p0:n6) (t73:Int):Option (Int⊕(Unit⊕Bool)) :=
 cond (decide (t73<(p0.2.length:Int)))
 ((at? p0.2 t73).bind λx75 =>
 (aZ p0 x75).bind λt79 =>
 cond (decide (t79<0)) (some (.inr (.inr false))) (some (.inl (kJ (t73+1)))))
 (some (.inr (.inl ())))
def cz (p0:n6) (i1:Int):Option Bool :=
 (a7 i1 1 6).bind λt10 =>
 (cond (!t10) (some true) (some ((p0.2.length:Int) != i1))).bind λt18 =>
 (cond t18 (some true) (some (decide ((p0.1.length:Int)>6)))).bind λt24 =>
 cond t24
 (some false)
 ((loop (λz=>dG p0 i1 z) 0).bind (Sum.elim (λd =>
 (loop (λz=>cw p0 z) 0).bind (Sum.elim (λd_1 =>
 some true) (λr=>some r))) (λr_1=>some r_1)))
def fV:FL:=(147,⟨[.val true pb false,.val false kP false],[.val false lm (some true)],λa=>cz a.1 a.2⟩)::fU
theorem jM:Gd fV:=kX jL 147 Tryz.f147 [(0,⟨⟨(28,false,[dI])::us 38 14 (us 54 6 (us 62 6 [])),[]⟩,
 ⟨[],[]⟩,some ⟨[(4,false,[dB])],[]⟩⟩),
 (2,⟨⟨[(73,false,[dI])],[]⟩,
 ⟨[],[]⟩,some ⟨[(4,false,[dB])],[]⟩⟩)] Tryz.func147
def ao (n0:Int):Option Bool :=
 (a7 n0 0 1000000).bind λt4 =>
 some t4
def fW:FL:=(148,⟨[.val false kP false],[.val false lm (some true)],λa=>ao a⟩)::fV
theorem jN:Gd fW:=kX jM 148 Tryz.f148 [] Tryz.func148
def dH (p0:kZ) (t8:Int):Option (Int⊕(Unit⊕Bool)) :=
 cond (decide (t8<(p0.2.2.1.length:Int)))
 ((at? p0.2.2.1 t8).bind λx10 =>
 (bL x10).bind λt13 =>
 cond (!t13) (some (.inr (.inr false))) (some (.inl (kJ (t8+1)))))
 (some (.inr (.inl ())))
def cA (p0:kZ):Option Bool :=
 (loop (λz=>dH p0 z) 0).bind (Sum.elim (λd =>
 (a7 p0.1 1 99).bind λt18 =>
 (cond (!t18) (some true) (some (decide ((p0.2.1.length:Int)>10)))).bind λt25 =>
 (cond t25
 (some true)
 ((a7 (p0.2.2.1.length:Int) 1 6).bind λt30 =>
 some (!t30))).bind λt32 =>
 (cond t32
 (some true)
 ((cr p0.2.2.2.1).bind λt36 =>
 some (!t36))).bind λt38 =>
 (cond t38
 (some true)
 ((cz (p0.2.2.2.2.1,p0.2.2.2.2.2.1) (p0.2.2.1.length:Int)).bind λt45 =>
 some (!t45))).bind λt47 =>
 cond t47
 (some false)
 ((ao p0.2.2.2.2.2.2.1).bind λt50 =>
 (cond t50
 ((ao p0.2.2.2.2.2.2.2.1).bind λt54 =>
 some t54)
 (some false)).bind λt55 =>
 (cond t55
 ((ao p0.2.2.2.2.2.2.2.2.1).bind λt59 =>
 some t59)
 (some false)).bind λt60 =>
 (cond t60
 ((ao p0.2.2.2.2.2.2.2.2.2.1).bind λt64 =>
 some t64)
 (some false)).bind λt65 =>
 (cond t65
 ((ao p0.2.2.2.2.2.2.2.2.2.2).bind λt69 =>
 some t69)
 (some false)).bind λt70 =>
 some t70)) (λr=>some r))
def fX:FL:=(84,⟨[.val true lC false],[.val false lm (some true)],λa=>cA a⟩)::fW
theorem jO:Gd fX:=kX jN 84 Tryz.f84 [(0,⟨⟨[(8,false,[dI])],[]⟩,
 ⟨[],[]⟩,some ⟨[(2,false,[dB])],[]⟩⟩)] Tryz.func84
def b5 (l0:List lp) (b1:Int) (p2:Int) (t11:Int):Option (Int⊕(Unit⊕Bool)) :=
 cond (decide (t11<(l0.length:Int)))
 ((at? l0 t11).bind λx13 =>
 (cond (x13.1==b1) (some (x13.2.1==p2)) (some false)).bind λt24 =>
 (cond t24
 (some true)
 ((cond (x13.2.2.1==b1) (some (x13.2.2.2==p2)) (some false)).bind λt35 =>
 some t35)).bind λt36 =>
 cond t36 (some (.inr (.inr true))) (some (.inl (kJ (t11+1)))))
 (some (.inr (.inl ())))
def b6 (l0:List lp) (b1:Int) (p2:Int):Option Bool :=
 (loop (λz=>b5 l0 b1 p2 z) 0).bind (Sum.elim (λd =>
 some false) (λr=>some r))
def fY:FL:=(85,⟨[.val false (.one (.sl mI)) false,.val false kP false,.val false kP false],[.val false lm (some true)],λa=>b6 a.1 a.2.1 a.2.2⟩)::fX
theorem jP:Gd fY:=kX jO 85 Tryz.f85 [(0,⟨⟨(11,false,[dI])::us 20 4 (us 26 10 []),[]⟩,
 ⟨[],[]⟩,some ⟨[(6,false,[dB])],[]⟩⟩)] Tryz.func85
def ap (n0:kK) (b1:Int) (p2:Int):Option (Pt×Bool) :=
 (a7 b1 0 (kJ ((n0.1.length:Int)-1))).bind λt13 =>
 (cond (!t13)
 (some true)
 ((at? n0.1 b1).bind λx20 =>
 (a7 p2 0 (kJ ((x20.2.2.1.length:Int)-1))).bind λt25 =>
 some (!t25))).bind λt27 =>
 cond t27
 (some ((false,0,false,0,0,0,0,0),false))
 ((at? n0.1 b1).bind λx32 =>
 (at? x32.2.2.1 p2).bind λx36 =>
 some (x36,true))
def fZ:FL:=(59,⟨[.val true lq false,.val false kP false,.val false kP false],[.val true nZ (some true),.val false lm (some true)],λa=>ap a.1 a.2.1 a.2.2⟩)::fY
theorem jQ:Gd fZ:=kX jP 59 Tryz.f59 [] Tryz.func59
def b7 (p0:kK) (t12:Int):Option (Int⊕(Unit⊕Bool)) :=
 cond (decide (t12<(p0.2.1.length:Int)))
 ((at? p0.2.1 t12).bind λx15 =>
 (ap p0 x15.1 x15.2.1).bind λt23 =>
 (ap p0 x15.2.2.1 x15.2.2.2).bind λt32 =>
 (cond (decide (t12>=9)) (some true) (some (!t23.2))).bind λt40 =>
 (cond t40 (some true) (some (!t32.2))).bind λt44 =>
 (cond t44 (some true) (some (x15.1==x15.2.2.1))).bind λt51 =>
 (cond t51 (some true) (some (!(t23.1.1==t32.1.1)))).bind λt58 =>
 cond t58
 (some (.inr (.inr false)))
 ((cut p0.2.1 0 t12).bind λt62 =>
 (b6 t62 x15.1 x15.2.1).bind λt67 =>
 (cond t67
 (some true)
 ((cut p0.2.1 0 t12).bind λt72 =>
 (b6 t72 x15.2.2.1 x15.2.2.2).bind λt77 =>
 some t77)).bind λt78 =>
 cond t78 (some (.inr (.inr false))) (some (.inl (kJ (t12+1))))))
 (some (.inr (.inl ())))
def cB (p0:kK):Option Bool :=
 (loop (λz=>b7 p0 z) 0).bind (Sum.elim (λd =>
 some true) (λr=>some r))
def ga:FL:=(87,⟨[.val true lq false],[.val false lm (some true)],λa=>cB a⟩)::fZ
theorem jR:Gd ga:=kX jQ 87 Tryz.f87 [(0,⟨⟨(12,false,[dI])::us 38 2 (us 42 2 (us 46 5 (us 53 5 (us 69 9 [])))),[]⟩,
 ⟨[],[]⟩,some ⟨[(2,false,[dB])],[]⟩⟩)] Tryz.func87
def b8 (x28:kZ) (t36:List kZ) (t38:Int):Option (Int⊕(Unit⊕Bool)) :=
 cond (decide (t38<(t36.length:Int)))
 ((at? t36 t38).bind λx40 =>
 cond (x40.1==x28.1) (some (.inr (.inr false))) (some (.inl (kJ (t38+1)))))
 (some (.inr (.inl ())))
def b9 (p0:kK) (t25:Int) (x28:kZ) (t51:Int):Option (Int⊕(Unit⊕Bool)) :=
 cond (decide (t51<(x28.2.2.1.length:Int)))
 ((at? x28.2.2.1 t51).bind λx54 =>
 (cond x54.2.2.1
 ((b6 p0.2.1 t25 t51).bind λt63 =>
 some (!t63))
 (some false)).bind λt65 =>
 cond t65 (some (.inr (.inr false))) (some (.inl (kJ (t51+1)))))
 (some (.inr (.inl ())))
def ba (p0:kK) (t25:Int):Option (Int⊕(Unit⊕Bool)) :=
 cond (decide (t25<(p0.1.length:Int)))
 ((at? p0.1 t25).bind λx28 =>
 (cA x28).bind λt31 =>
 cond (!t31)
 (some (.inr (.inr false)))
 ((cut p0.1 0 t25).bind λt36 =>
 (loop (λz=>b8 x28 t36 z) 0).bind (Sum.elim (λd =>
 (loop (λz=>b9 p0 t25 x28 z) 0).bind (Sum.elim (λd_1 =>
 some (.inl (kJ (t25+1)))) (λr=>some (.inr (.inr r))))) (λr_1=>some (.inr (.inr r_1))))))
 (some (.inr (.inl ())))
def bb (p0:kK) (t71:Int):Option (Int⊕(Unit⊕Bool)) :=
 cond (decide (t71<(p0.2.2.length:Int)))
 ((at? p0.2.2 t71).bind λx73 =>
 (a7 x73.1 0 (kJ ((p0.2.1.length:Int)-1))).bind λt81 =>
 (cond (!t81)
 (some true)
 ((am x73.2.2).bind λt86 =>
 some (!t86))).bind λt88 =>
 cond t88 (some (.inr (.inr false))) (some (.inl (kJ (t71+1)))))
 (some (.inr (.inl ())))
def cC (p0:kK):Option Bool :=
 (a7 (p0.1.length:Int) 1 6).bind λt14 =>
 (cond (!t14) (some true) (some (decide ((p0.2.2.length:Int)>40)))).bind λt21 =>
 cond t21
 (some false)
 ((loop (λz=>ba p0 z) 0).bind (Sum.elim (λd_2 =>
 (loop (λz=>bb p0 z) 0).bind (Sum.elim (λd_3 =>
 (cB p0).bind λt91 =>
 some t91) (λr_2=>some r_2))) (λr_3=>some r_3)))
def gb:FL:=(45,⟨[.val true lq false],[.val false lm (some true)],λa=>cC a⟩)::ga
theorem jS:Gd gb:=kX jR 45 Tryz.f45 [(0,⟨⟨(25,false,[dI])::us 59 6 [],[]⟩,
 ⟨[],[]⟩,some ⟨[(2,false,[dB])],[]⟩⟩),
 (2,⟨⟨[(38,false,[dI])],[]⟩,
 ⟨[],[]⟩,some ⟨[(2,false,[dB])],[]⟩⟩),
 (4,⟨⟨(51,false,[dI])::us 59 6 [],[]⟩,
 ⟨us 59 6 [],[]⟩,some ⟨[(2,false,[dB])],[]⟩⟩),
 (6,⟨⟨(71,false,[dI])::us 84 4 [],[]⟩,
 ⟨[],[]⟩,some ⟨[(2,false,[dB])],[]⟩⟩)] Tryz.func45
def az (n0:kK) (k1:Int):Option Bool :=
 (a7 k1 0 (kJ ((n0.2.1.length:Int)-1))).bind λt14 =>
 cond (!t14)
 (some false)
 ((at? n0.2.1 k1).bind λx21 =>
 (at? n0.2.1 k1).bind λx27 =>
 (ap n0 x21.1 x27.2.1).bind λt30 =>
 (at? n0.2.1 k1).bind λx38 =>
 (at? n0.2.1 k1).bind λx44 =>
 (ap n0 x38.2.2.1 x44.2.2.2).bind λt47 =>
 (cond t30.2 (some t47.2) (some false)).bind λt53 =>
 (cond t53 (some t30.1.1) (some false)).bind λt57 =>
 (cond t57 (some t47.1.1) (some false)).bind λt61 =>
 some t61)
def ge:FL:=(88,⟨[.val true lq false,.val false kP false],[.val false lm (some true)],λa=>az a.1 a.2⟩)::gb
theorem jT:Gd ge:=kX jS 88 Tryz.f88 [] Tryz.func88
def bN (n0:kK) (b1:Int) (p2:Int) (v3:nG):Option Bool :=
 (ap n0 b1 p2).bind λt15 =>
 (cond t15.2 (some t15.1.2.2.1) (some false)).bind λt22 =>
 (cond t22
 (some (t15.1.2.2.2.1==v3.1&&(t15.1.2.2.2.2.1==v3.2.1&&(t15.1.2.2.2.2.2.1==v3.2.2.1&&(t15.1.2.2.2.2.2.2.1==v3.2.2.2.1&&(t15.1.2.2.2.2.2.2.2==v3.2.2.2.2))))))
 (some false)).bind λt28 =>
 some t28
def gg:FL:=(89,⟨[.val true lq false,.val false kP false,.val false kP false,.val true nl false],[.val false lm (some true)],λa=>bN a.1 a.2.1 a.2.2.1 a.2.2.2⟩)::ge
theorem jU:Gd gg:=kX jT 89 Tryz.f89 [] Tryz.func89
def bc (a0:nG) (b1:nG):Option Bool :=
 cond (a0.1 != b1.1)
 (some (decide (a0.1<b1.1)))
 (cond (a0.2.1 != b1.2.1)
 (some (decide (a0.2.1<b1.2.1)))
 (cond (a0.2.2.2.1 != b1.2.2.2.1)
 (let t4:=decide (a0.2.2.2.1<b1.2.2.2.1)
 some t4)
 (let t4_1:=decide (a0.2.2.2.2<b1.2.2.2.2)
 some t4_1)))
def gh:FL:=(155,⟨[.val true nl false,.val true nl false],[.val false lm (some true)],λa=>bc a.1 a.2⟩)::gg
theorem jV:Gd gh:=kX jU 155 Tryz.f155 [] Tryz.func155
def bO (v0:nG) (cost1:Int):Option (nG×Bool) :=
 (am v0).bind λt8 =>
 (cond (!t8)
 (some true)
 ((a7 cost1 1 1000).bind λt12 =>
 some (!t12))).bind λt14 =>
 cond t14
 (some (v0,false))
 ((am (v0.1,kJ (v0.2.1+cost1),kJ (v0.2.2.1+1),v0.2.2.2.1,v0.2.2.2.2)).bind λt27 =>
 cond (!t27)
 (some (v0,false))
 (some ((v0.1,kJ (v0.2.1+cost1),kJ (v0.2.2.1+1),v0.2.2.2.1,v0.2.2.2.2),true)))
def gi:FL:=(186,⟨[.val true nl false,.val false kP false],[.val true nl (some true),.val false lm (some true)],λa=>bO a.1 a.2⟩)::gh
theorem jW:Gd gi:=kX jV 186 Tryz.f186 [] Tryz.func186
def bd (p0:Int) (i1:List Pt) (t7:Int) (t18:Int) (b0:Int) (b1:Int) (b2:Int) (b3:Int) (b4:Int) (b0_1:Int) (b1_1:Int) (b2_1:Int) (b3_1:Int) (b4_1:Int):Option ((Int×Int×Int×Int×Int×Int×Int×Int×Int×Int×Int×Int)⊕(Int×Int×Int×Int×Int×Int×Int×Int×Int×Int×Int)) :=
 cond (decide (t18<(i1.length:Int)))
 ((at? i1 t18).bind λx21 =>
 (cond (!x21.1) (some true) (some (!x21.2.2.1))).bind λt30 =>
 cond t30
 (some (.inl (t7,kJ (t18+1),b0,b1,b2,b3,b4,b0_1,b1_1,b2_1,b3_1,b4_1)))
 ((bO x21.2.2.2 x21.2.1).bind λt36 =>
 (cond t36.2 (some (decide (t36.1.1<p0))) (some false)).bind λt45 =>
 (cond t45
 ((cond (decide (t7<0))
 (some true)
 ((bc t36.1 (b0_1,b1_1,b2_1,b3_1,b4_1)).bind λt52 =>
 some t52)).bind λt53 =>
 some t53)
 (some false)).bind λt54 =>
 cond t54
 (some (.inl (t18,kJ (t18+1),t36.1.1,t36.1.2.1,t36.1.2.2.1,p0,0,t36.1.1,t36.1.2.1,t36.1.2.2.1,t36.1.2.2.2.1,t36.1.2.2.2.2)))
 (some (.inl (t7,kJ (t18+1),b0,b1,b2,b3,b4,b0_1,b1_1,b2_1,b3_1,b4_1)))))
 (some (.inr (t7,b0,b1,b2,b3,b4,b0_1,b1_1,b2_1,b3_1,b4_1)))
def ai (p0:Int) (i1:List Pt):Option (nG×Int) :=
 (loop (λz=>bd p0 i1 z.1 z.2.1 z.2.2.1 z.2.2.2.1 z.2.2.2.2.1 z.2.2.2.2.2.1 z.2.2.2.2.2.2.1 z.2.2.2.2.2.2.2.1 z.2.2.2.2.2.2.2.2.1 z.2.2.2.2.2.2.2.2.2.1 z.2.2.2.2.2.2.2.2.2.2.1 z.2.2.2.2.2.2.2.2.2.2.2) ((-1),0,p0,0,0,p0,0,0,0,0,0,0)).bind λd =>
 some ((d.2.1,d.2.2.1,d.2.2.2.1,d.2.2.2.2.1,d.2.2.2.2.2.1),d.1)
def gj:FL:=(152,⟨[.val false kP false,.val false (.one (.sl nZ)) false],[.val true nl (some true),.val false kP (some true)],λa=>ai a.1 a.2⟩)::gi
theorem jX:Gd gj:=kX jW 152 Tryz.f152 [(0,⟨⟨(7,false,[dI])::(18,false,[dI])::us 27 3 (us 41 4 (us 47 7 [])),[(266240,.box [dI,dI,dI,dI,dI]),(525312,.box [dI,dI,dI,dI,dI])]⟩,
 ⟨[(7,false,[dI])],[(266240,.box [dI,dI,dI,dI,dI]),(525312,.box [dI,dI,dI,dI,dI])]⟩,none⟩)] Tryz.func152
def ak (id0:Int) (l1:List Pt) (port2:Int):Option nG :=
 (ai id0 l1).bind λt12 =>
 some (t12.1.1,t12.1.2.1,t12.1.2.2.1,t12.1.2.2.2.1,port2)
def gk:FL:=(149,⟨[.val false kP false,.val false (.one (.sl nZ)) false,.val false kP false],[.val true nl (some true)],λa=>ak a.1 a.2.1 a.2.2⟩)::gj
theorem jY:Gd gk:=kX jX 149 Tryz.f149 [] Tryz.func149
def aA (n0:kK) (b1:Int) (p2:Int):Option nG :=
 (at? n0.1 b1).bind λx10 =>
 (at? n0.1 b1).bind λx16 =>
 (ak x10.1 x16.2.2.1 p2).bind λt20 =>
 some t20
def gl:FL:=(90,⟨[.val true lq false,.val false kP false,.val false kP false],[.val true nl (some true)],λa=>aA a.1 a.2.1 a.2.2⟩)::gk
theorem jZ:Gd gl:=kX jY 90 Tryz.f90 [] Tryz.func90
def be (n0:kK) (t8:Int):Option (Int⊕(Unit⊕Bool)) :=
 cond (decide (t8<(n0.2.1.length:Int)))
 ((at? n0.2.1 t8).bind λx11 =>
 (az n0 t8).bind λt15 =>
 (cond t15
 ((aA n0 x11.2.2.1 x11.2.2.2).bind λt27 =>
 (bN n0 x11.1 x11.2.1 t27).bind λt28 =>
 (cond (!t28)
 (some true)
 ((aA n0 x11.1 x11.2.1).bind λt41 =>
 (bN n0 x11.2.2.1 x11.2.2.2 t41).bind λt42 =>
 some (!t42))).bind λt44 =>
 some t44)
 (some false)).bind λt45 =>
 cond t45 (some (.inr (.inr false))) (some (.inl (kJ (t8+1)))))
 (some (.inr (.inl ())))
def cD (n0:kK):Option Bool :=
 (loop (λz=>be n0 z) 0).bind (Sum.elim (λd =>
 some true) (λr=>some r))
def gm:FL:=(46,⟨[.val true lq false],[.val false lm (some true)],λa=>cD a⟩)::gl
theorem kc:Gd gm:=kX jZ 46 Tryz.f46 [(0,⟨⟨(8,false,[dI])::us 17 28 [],[]⟩,
 ⟨[],[]⟩,some ⟨[(2,false,[dB])],[]⟩⟩)] Tryz.func46
def cE (bits0:Int) (port1:Int):Option Bool :=
 (a7 port1 0 62).bind λt6 =>
 (cond t6
 ((shr .i64 bits0 port1).bind λt10 =>
 some ((qx .i64 t10 1)==1))
 (some false)).bind λt13 =>
 some t13
def gn:FL:=(120,⟨[.val false kP false,.val false kP false],[.val false lm (some true)],λa=>cE a.1 a.2⟩)::gm
theorem kd:Gd gn:=kX kc 120 Tryz.f120 [] Tryz.func120
def aa (id0:Int) (l1:List Pt) (port2:Int):Option Int :=
 (a7 port2 0 (kJ ((l1.length:Int)-1))).bind λt13 =>
 (cond (!t13)
 (some true)
 ((at? l1 port2).bind λx18 =>
 some (!x18.1))).bind λt22 =>
 cond t22
 (some 4)
 ((ai id0 l1).bind λt26 =>
 cond (t26.2==port2)
 (some 1)
 ((at? l1 port2).bind λx36 =>
 (cond (!x36.2.2.1)
 (some true)
 ((ak id0 l1 port2).bind λt44 =>
 (at? l1 port2).bind λx47 =>
 (bc t44 x47.2.2.2).bind λt50 =>
 some t50)).bind λt51 =>
 cond t51 (some 2) (some 3)))
def gp:FL:=(97,⟨[.val false kP false,.val false (.one (.sl nZ)) false,.val false kP false],[.val false kP (some true)],λa=>aa a.1 a.2.1 a.2.2⟩)::gn
theorem ke:Gd gp:=kX kd 97 Tryz.f97 [] Tryz.func97
def ae (id0:Int) (l1:List Pt) (bits5:Int) (port6:Int):Option ((Int×Int)⊕Int) :=
 (cond (decide (port6<(l1.length:Int))) (some (decide (port6<6))) (some false)).bind λt15 =>
 cond t15
 ((aa id0 l1 port6).bind λt21 =>
 (cond (t21==1) (some true) (some (t21==2))).bind λt27 =>
 cond t27
 ((shl .i64 1 port6).bind λt30 =>
 some (.inl (wU .i64 bits5 t30,kJ (port6+1))))
 (some (.inl (bits5,kJ (port6+1)))))
 (some (.inr bits5))
def cG (id0:Int) (l1:List Pt):Option Int :=
 (loop (λz=>ae id0 l1 z.1 z.2) (0,0)).bind λd =>
 some d
def gq:FL:=(121,⟨[.val false kP false,.val false (.one (.sl nZ)) false],[.val false kP (some true)],λa=>cG a.1 a.2⟩)::gp
theorem kf:Gd gq:=kX ke 121 Tryz.f121 [(0,⟨⟨[(5,false,[dI]),(6,false,[dI]),(13,false,[.undef]),(14,false,[.undef]),(25,false,[.undef]),(26,false,[.undef])],[]⟩,
 ⟨[(5,false,[dI])],[]⟩,none⟩)] Tryz.func121
def aB (n0:kK) (b1:Int) (p2:Int):Option Bool :=
 (at? n0.1 b1).bind λx10 =>
 (at? n0.1 b1).bind λx16 =>
 (cG x10.1 x16.2.2.1).bind λt19 =>
 (cE t19 p2).bind λt21 =>
 some t21
def gt:FL:=(61,⟨[.val true lq false,.val false kP false,.val false kP false],[.val false lm (some true)],λa=>aB a.1 a.2.1 a.2.2⟩)::gq
theorem kg:Gd gt:=kX kf 61 Tryz.f61 [] Tryz.func61
def dJ (n0:kK) (t9:Int) (out3:List Int):Option ((Int×List Int)⊕(List Int)) :=
 cond (decide (t9<(n0.2.1.length:Int)))
 ((at? n0.2.1 t9).bind λx12 =>
 (az n0 t9).bind λt16 =>
 (cond t16
 ((aB n0 x12.1 x12.2.1).bind λt23 =>
 some t23)
 (some false)).bind λt24 =>
 (cond t24
 ((aB n0 x12.2.2.1 x12.2.2.2).bind λt31 =>
 some t31)
 (some false)).bind λt32 =>
 cond t32
 ((nh out3 [t9]).bind λzs36 =>
 some (.inl (kJ (t9+1),zs36)))
 (some (.inl (kJ (t9+1),out3))))
 (some (.inr out3))
def cH (n0:kK):Option (List Int) :=
 (loop (λz=>dJ n0 z.1 z.2) (0,[])).bind λd =>
 some d
def gu:FL:=(91,⟨[.val true lq false],[.val false nF (some true)],λa=>cH a⟩)::gt
theorem kh:Gd gu:=kX kg 91 Tryz.f91 [(0,⟨⟨(3,false,[.own 1000000000])::(9,false,[dI])::us 18 6 (us 26 6 []),[(1000000000,.root kP true)]⟩,
 ⟨[(3,false,[.own 1000000300])],[(1000000300,.root kP true)]⟩,none⟩)] Tryz.func91
def bf (n0:kK) (t8:Int) (out3:List Int):Option ((Int×List Int)⊕(List Int)) :=
 cond (decide (t8<(n0.2.1.length:Int)))
 ((az n0 t8).bind λt13 =>
 cond t13
 ((nh out3 [t8]).bind λzs17 =>
 some (.inl (kJ (t8+1),zs17)))
 (some (.inl (kJ (t8+1),out3))))
 (some (.inr out3))
def aC (n0:kK):Option (List Int) :=
 (loop (λz=>bf n0 z.1 z.2) (0,[])).bind λd =>
 some d
def gv:FL:=(92,⟨[.val true lq false],[.val false nF (some true)],λa=>aC a⟩)::gu
theorem ki:Gd gv:=kX kh 92 Tryz.f92 [(0,⟨⟨[(3,false,[.own 1000000000]),(8,false,[dI])],[(1000000000,.root kP true)]⟩,
 ⟨[(3,false,[.own 1000000300])],[(1000000300,.root kP true)]⟩,none⟩)] Tryz.func92
def bg (a0:List Int) (b1:List Int) (t13:Int):Option (Int⊕(Unit⊕Bool)) :=
 cond (decide (t13<(a0.length:Int)))
 ((at? a0 t13).bind λx18 =>
 (at? b1 t13).bind λx22 =>
 cond (x18 != x22) (some (.inr (.inr false))) (some (.inl (kJ (t13+1)))))
 (some (.inr (.inl ())))
def aq (a0:List Int) (b1:List Int):Option Bool :=
 cond ((a0.length:Int) != (b1.length:Int))
 (some false)
 ((loop (λz=>bg a0 b1 z) 0).bind (Sum.elim (λd =>
 some true) (λr=>some r)))
def gw:FL:=(93,⟨[.val false nF false,.val false nF false],[.val false lm (some true)],λa=>aq a.1 a.2⟩)::gv
theorem kj:Gd gw:=kX ki 93 Tryz.f93 [(0,⟨⟨[(13,false,[dI])],[]⟩,
 ⟨[],[]⟩,some ⟨[(4,false,[dB])],[]⟩⟩)] Tryz.func93
def aD (p0:kK) (a2:List Int) (t8_1:Bool) (t32:Int) (l_1:List Bool):Option ((Bool×Int×List Bool)⊕(Bool×List Bool)) :=
 cond (decide (t32<(a2.length:Int)))
 ((at? a2 t32).bind λx34 =>
 (a7 x34 0 (kJ ((p0.2.1.length:Int)-1))).bind λt41 =>
 cond (!t41)
 (some (.inl (t8_1,kJ (t32+1),l_1)))
 ((at? p0.2.1 x34).bind λx46 =>
 (a7 x46.1 0 (kJ ((l_1.length:Int)-1))).bind λt53 =>
 (cond t53
 ((a7 x46.2.2.1 0 (kJ ((l_1.length:Int)-1))).bind λt60 =>
 some t60)
 (some false)).bind λt61 =>
 (cond t61
 ((ix l_1.length x46.1).bind λj66 =>
 (l_1[j66]?).bind λx67 =>
 (ix l_1.length x46.2.2.1).bind λj71 =>
 (l_1[j71]?).bind λx72 =>
 some (!(x67==x72)))
 (some false)).bind λt74 =>
 cond t74
 ((ix l_1.length x46.1).bind λj81 =>
 (l_1[j81]?).bind λx_1 =>
 (ix (l_1.set j81 true).length x46.2.2.1).bind λj82 =>
 ((l_1.set j81 true)[j82]?).bind λx_2 =>
 some (.inl (true,kJ (t32+1),(l_1.set j81 true).set j82 true)))
 (some (.inl (t8_1,kJ (t32+1),l_1)))))
 (some (.inr (t8_1,l_1)))
def bh (p0:kK) (a2:List Int) (t8:Bool) (l:List Bool):Option ((Bool×List Bool)⊕(List Bool)) :=
 cond t8
 ((loop (λz=>aD p0 a2 z.1 z.2.1 z.2.2) (false,0,l)).bind λd =>
 some (.inl d))
 (some (.inr l))
def dK (d_1:List Bool) (t86:Int) (t12:List Int):Option ((Int×List Int)⊕(List Int)) :=
 cond (decide (t86<(d_1.length:Int)))
 ((ix d_1.length t86).bind λj89 =>
 (d_1[j89]?).bind λx90 =>
 cond x90
 ((nh t12 [t86]).bind λzs95 =>
 some (.inl (kJ (t86+1),zs95)))
 (some (.inl (kJ (t86+1),t12))))
 (some (.inr t12))
def ah (p0:kK) (i1:Int) (a2:List Int):Option (List Int) :=
 (a7 i1 0 (kJ ((p0.1.length:Int)-1))).bind λt20 =>
 cond (!t20)
 (some [])
 ((nM (p0.1.length:Int)).bind λn =>
 (ix (List.replicate n (false:Bool)).length i1).bind λj28 =>
 ((List.replicate n (false:Bool))[j28]?).bind λx =>
 (loop (λz=>bh p0 a2 z.1 z.2) (true,(List.replicate n (false:Bool)).set j28 true)).bind λd_1 =>
 (loop (λz=>dK d_1 z.1 z.2) (0,[])).bind λd_2 =>
 some d_2)
def gx:FL:=(94,⟨[.val true lq false,.val false kP false,.val false nF false],[.val false nF (some true)],λa=>ah a.1 a.2.1 a.2.2⟩)::gw
theorem kk:Gd gx:=kX kj 94 Tryz.f94 [(0,⟨⟨(8,false,[dB])::us 55 6 (us 63 11 []),[(790528,.keep lm true)]⟩,
 ⟨[],[(790528,.keep lm true)]⟩,none⟩),
 (2,⟨⟨(8,false,[dB])::(32,false,[dI])::us 55 6 (us 63 11 []),[(790528,.keep lm true)]⟩,
 ⟨(8,false,[dB])::us 55 6 (us 63 11 []),[(790528,.keep lm true)]⟩,none⟩),
 (4,⟨⟨[(12,false,[.own 1000004000]),(86,false,[dI])],[(1000004000,.root kP true)]⟩,
 ⟨[(12,false,[.own 1000004300])],[(1000004300,.root kP true)]⟩,none⟩)] Tryz.func94
def bP (l0:List Int):Option (List Int) :=
 (nh [] l0).bind λzs4 =>
 some zs4
def gy:FL:=(150,⟨[.val false nF false],[.val false nF (some true)],λa=>bP a⟩)::gx
theorem kl:Gd gy:=kX kk 150 Tryz.f150 [] Tryz.func150
def ko (l0:List Int) (n1:Int) (t9:Int):Option (Int⊕(Unit⊕Bool)) :=
 cond (decide (t9<(l0.length:Int)))
 ((at? l0 t9).bind λx11 =>
 cond (x11==n1) (some (.inr (.inr true))) (some (.inl (kJ (t9+1)))))
 (some (.inr (.inl ())))
def cI (l0:List Int) (n1:Int):Option Bool :=
 (loop (λz=>ko l0 n1 z) 0).bind (Sum.elim (λd =>
 some false) (λr=>some r))
def gz:FL:=(151,⟨[.val false nF false,.val false kP false],[.val false lm (some true)],λa=>cI a.1 a.2⟩)::gy
theorem kq:Gd gz:=kX kl 151 Tryz.f151 [(0,⟨⟨[(9,false,[dI])],[]⟩,
 ⟨[],[]⟩,some ⟨[(4,false,[dB])],[]⟩⟩)] Tryz.func151
def dL (n0:kK) (l1:List Int) (t10:Int):Option (Int⊕(Unit⊕Bool)) :=
 cond (decide (t10<(l1.length:Int)))
 ((at? l1 t10).bind λx13 =>
 (a7 x13 0 (kJ ((n0.2.1.length:Int)-1))).bind λt20 =>
 cond (!t20)
 (some (.inl (kJ (t10+1))))
 ((cut l1 0 t10).bind λt24 =>
 (bP t24).bind λt25 =>
 (cut l1 (kJ (t10+1)) (l1.length:Int)).bind λt29 =>
 (nh t25 t29).bind λzs30 =>
 (at? n0.2.1 x13).bind λx35 =>
 (ah n0 x35.1 zs30).bind λt39 =>
 (at? n0.2.1 x13).bind λx43 =>
 (cI t39 x43.2.2.1).bind λt46 =>
 cond t46 (some (.inr (.inr true))) (some (.inl (kJ (t10+1))))))
 (some (.inr (.inl ())))
def cJ (n0:kK) (l1:List Int):Option Bool :=
 (loop (λz=>dL n0 l1 z) 0).bind (Sum.elim (λd =>
 some false) (λr=>some r))
def gA:FL:=(95,⟨[.val true lq false,.val false nF false],[.val false lm (some true)],λa=>cJ a.1 a.2⟩)::gz
theorem kr:Gd gA:=kX kq 95 Tryz.f95 [(0,⟨⟨[(10,false,[dI])],[]⟩,
 ⟨[],[]⟩,some ⟨[(4,false,[dB])],[]⟩⟩)] Tryz.func95
def dM (n0:kK) (t7:List Int) (t9:List Int) (t13:Int):Option (Int⊕(Unit⊕Bool)) :=
 cond (decide (t13<(n0.1.length:Int)))
 ((ah n0 t13 t7).bind λt19 =>
 (ah n0 t13 t9).bind λt23 =>
 (aq t19 t23).bind λt24 =>
 cond (!t24) (some (.inr (.inr false))) (some (.inl (kJ (t13+1)))))
 (some (.inr (.inl ())))
def cK (n0:kK):Option Bool :=
 (cH n0).bind λt7 =>
 (aC n0).bind λt9 =>
 (loop (λz=>dM n0 t7 t9 z) 0).bind (Sum.elim (λd =>
 (cJ n0 t7).bind λt29 =>
 some (!t29)) (λr=>some r))
def gB:FL:=(47,⟨[.val true lq false],[.val false lm (some true)],λa=>cK a⟩)::gA
theorem kt:Gd gB:=kX kr 47 Tryz.f47 [(0,⟨⟨[(13,false,[dI])],[]⟩,
 ⟨[],[]⟩,some ⟨[(2,false,[dB])],[]⟩⟩)] Tryz.func47
def bm (n0:kK) (t12:List Int) (root5:Int) (t14:Int):Option ((Int×Int)⊕Int) :=
 cond (decide (t14<(t12.length:Int)))
 ((ix t12.length t14).bind λj16 =>
 (t12[j16]?).bind λx17 =>
 (cond (decide (root5<0))
 (some true)
 ((at? n0.1 x17).bind λx24 =>
 (at? n0.1 root5).bind λx30 =>
 some (decide (x24.1<x30.1)))).bind λt34 =>
 cond t34
 (some (.inl (x17,kJ (t14+1))))
 (some (.inl (root5,kJ (t14+1)))))
 (some (.inr root5))
def aE (n0:kK) (b1:Int):Option Int :=
 (aC n0).bind λt11 =>
 (ah n0 b1 t11).bind λt12 =>
 (loop (λz=>bm n0 t12 z.1 z.2) ((-1),0)).bind λd =>
 some d
def gC:FL:=(187,⟨[.val true lq false,.val false kP false],[.val false kP (some true)],λa=>aE a.1 a.2⟩)::gB
theorem ku:Gd gC:=kX kt 187 Tryz.f187 [(0,⟨⟨(5,false,[dI])::(14,false,[dI])::us 21 13 [],[]⟩,
 ⟨[(5,false,[dI])],[]⟩,none⟩)] Tryz.func187
def cL (n0:kK) (b1:Int):Option Int :=
 (aE n0 b1).bind λt8 =>
 cond (decide (t8<0))
 (some 0)
 ((at? n0.1 t8).bind λx14 =>
 some x14.1)
def gD:FL:=(153,⟨[.val true lq false,.val false kP false],[.val false kP (some true)],λa=>cL a.1 a.2⟩)::gC
theorem kv:Gd gD:=kX ku 153 Tryz.f153 [] Tryz.func153
def bQ (from0:Int) (to1:Int) (port2:Int) (a3:List Int) (a4:kK):Option ((List Int)×kK) :=
 (ix a3.length from0).bind λj11 =>
 (a3[j11]?).bind λx12 =>
 cond (decide (x12<0))
 (some (a3,a4))
 ((ix a3.length from0).bind λj16 =>
 (a3[j16]?).bind λx17 =>
 (at? a4.1 to1).bind λx21 =>
 (at? x21.2.2.1 port2).bind λx25 =>
 (ix a3.length to1).bind λj31 =>
 (a3[j31]?).bind λx32 =>
 (cond (decide (x32<0))
 (some true)
 ((ix a3.length to1).bind λj38 =>
 (a3[j38]?).bind λx39 =>
 some (decide ((kJ (x17+x25.2.1))<x39)))).bind λt41 =>
 cond t41
 ((ix a3.length to1).bind λj45 =>
 (a3[j45]?).bind λx =>
 some (a3.set j45 (kJ (x17+x25.2.1)),a4))
 (some (a3,a4)))
def gE:FL:=(188,⟨[.val false kP false,.val false kP false,.val false kP false,.ptr nF (some true),.ptr lq none],[],λa=>bQ a.1 a.2.1 a.2.2.1 a.2.2.2.1 a.2.2.2.2⟩)::gD
theorem kw:Gd gE:=kX kv 188 Tryz.f188 [] Tryz.func188
def aF (n:Nat) (t23:Int) (l:List Int):Option ((Int×List Int)⊕(List Int)) :=
 cond (decide (t23<((List.replicate n (0:Int)).length:Int)))
 ((ix l.length t23).bind λj28 =>
 (l[j28]?).bind λx =>
 some (.inl (kJ (t23+1),l.set j28 (-1))))
 (some (.inr l))
def aG (t40:List Int) (t42:Int) (b0_2:List kZ) (b1_1:List lp) (b2_1:List nH) (b0_3:List Int):Option ((Int×List kZ×List lp×List nH×List Int)⊕(List kZ×List lp×List nH×List Int)) :=
 cond (decide (t42<(t40.length:Int)))
 ((ix t40.length t42).bind λj44 =>
 (t40[j44]?).bind λx45 =>
 (at? b1_1 x45).bind λx49 =>
 (bQ x49.1 x49.2.2.1 x49.2.2.2 b0_3 (b0_2,b1_1,b2_1)).bind λt58 =>
 (bQ x49.2.2.1 x49.1 x49.2.1 t58.1 t58.2).bind λt66 =>
 some (.inl (kJ (t42+1),t66.2.1,t66.2.2.1,t66.2.2.2,t66.1)))
 (some (.inr (b0_2,b1_1,b2_1,b0_3)))
def bn (p0:kK) (t37:Int) (b0:List kZ) (b1:List lp) (b2:List nH) (b0_1:List Int):Option ((Int×List kZ×List lp×List nH×List Int)⊕(List kZ×List lp×List nH×List Int)) :=
 cond (decide (t37<(p0.1.length:Int)))
 ((aC (b0,b1,b2)).bind λt40 =>
 (loop (λz=>aG t40 z.1 z.2.1 z.2.2.1 z.2.2.2.1 z.2.2.2.2) (0,b0,b1,b2,b0_1)).bind λd_1 =>
 some (.inl (kJ (t37+1),d_1.1,d_1.2.1,d_1.2.2.1,d_1.2.2.2)))
 (some (.inr (b0,b1,b2,b0_1)))
def bo (p0:kK) (i1:Int):Option Int :=
 (aE p0 i1).bind λt14 =>
 cond (decide (t14<0))
 (some (-1))
 ((nM (p0.1.length:Int)).bind λn =>
 (loop (λz=>aF n z.1 z.2) (0,List.replicate n (0:Int))).bind λd =>
 (ix d.length t14).bind λj32 =>
 (d[j32]?).bind λx_1 =>
 (loop (λz=>bn p0 z.1 z.2.1 z.2.2.1 z.2.2.2.1 z.2.2.2.2) (0,p0.1,p0.2.1,p0.2.2,d.set j32 0)).bind λd_2 =>
 (ix d_2.2.2.2.length i1).bind λj71 =>
 (d_2.2.2.2[j71]?).bind λx72 =>
 some x72)
def gF:FL:=(154,⟨[.val true lq false,.val false kP false],[.val false kP (some true)],λa=>bo a.1 a.2⟩)::gE
theorem kz:Gd gF:=kX kw 154 Tryz.f154 [(0,⟨⟨[(23,false,[dI])],[(1052672,.keep kP true)]⟩,
 ⟨[],[(1052672,.keep kP true)]⟩,none⟩),
 (2,⟨⟨[(37,false,[dI])],[(1024,.box [.dat (.sl lC),.dat (.sl mI),.dat (.sl nn)]),(1053696,.box [.own 1000002000]),(1000002000,.root kP true)]⟩,
 ⟨[],[(1024,.box [.dat (.sl lC),.dat (.sl mI),.dat (.sl nn)]),(1053696,.box [.own 1000002300]),(1000002300,.root kP true)]⟩,none⟩),
 (4,⟨⟨[(42,false,[dI])],[(1024,.box [.dat (.sl lC),.dat (.sl mI),.dat (.sl nn)]),(1053696,.box [.own 1000004000]),(1000004000,.root kP true)]⟩,
 ⟨[],[(1024,.box [.dat (.sl lC),.dat (.sl mI),.dat (.sl nn)]),(1053696,.box [.own 1000004300]),(1000004300,.root kP true)]⟩,none⟩)] Tryz.func154
def aH (n0:kK) (b1:Int):Option Bool :=
 (a7 b1 0 (kJ ((n0.1.length:Int)-1))).bind λt12 =>
 cond (!t12)
 (some false)
 ((at? n0.1 b1).bind λx18 =>
 (at? n0.1 b1).bind λx24 =>
 (ai x18.1 x24.2.2.1).bind λt27 =>
 (cL n0 b1).bind λt34 =>
 (cond (t27.1.1==t34)
 ((bo n0 b1).bind λt41 =>
 some (t27.1.2.1==t41))
 (some false)).bind λt43 =>
 some t43)
def gG:FL:=(96,⟨[.val true lq false,.val false kP false],[.val false lm (some true)],λa=>aH a.1 a.2⟩)::gF
theorem kA:Gd gG:=kX kz 96 Tryz.f96 [] Tryz.func96
def bp (n0:kK) (t7:Int):Option (Int⊕(Unit⊕Bool)) :=
 cond (decide (t7<(n0.1.length:Int)))
 ((aH n0 t7).bind λt12 =>
 cond (!t12) (some (.inr (.inr false))) (some (.inl (kJ (t7+1)))))
 (some (.inr (.inl ())))
def cM (n0:kK):Option Bool :=
 (loop (λz=>bp n0 z) 0).bind (Sum.elim (λd =>
 some true) (λr=>some r))
def gH:FL:=(48,⟨[.val true lq false],[.val false lm (some true)],λa=>cM a⟩)::gG
theorem kB:Gd gH:=kX kA 48 Tryz.f48 [(0,⟨⟨[(7,false,[dI])],[]⟩,
 ⟨[],[]⟩,some ⟨[(2,false,[dB])],[]⟩⟩)] Tryz.func48
def dN (n0:kK) (t9:List Int) (t11:Int):Option (Int⊕(Unit⊕Bool)) :=
 cond (decide (t11<(t9.length:Int)))
 ((ix t9.length t11).bind λj13 =>
 (t9[j13]?).bind λx14 =>
 (at? n0.2.1 x14).bind λx18 =>
 (at? n0.1 x18.1).bind λx24 =>
 (at? n0.1 x18.1).bind λx31 =>
 (aa x24.1 x31.2.2.1 x18.2.1).bind λt36 =>
 (at? n0.1 x18.2.2.1).bind λx41 =>
 (at? n0.1 x18.2.2.1).bind λx48 =>
 (aa x41.1 x48.2.2.1 x18.2.2.2).bind λt53 =>
 cond ((t36==2)==(t53==2)) (some (.inr (.inr false))) (some (.inl (kJ (t11+1)))))
 (some (.inr (.inl ())))
def cN (n0:kK):Option Bool :=
 (aC n0).bind λt9 =>
 (loop (λz=>dN n0 t9 z) 0).bind (Sum.elim (λd =>
 some true) (λr=>some r))
def gI:FL:=(49,⟨[.val true lq false],[.val false lm (some true)],λa=>cN a⟩)::gH
theorem kC:Gd gI:=kX kB 49 Tryz.f49 [(0,⟨⟨[(11,false,[dI])],[]⟩,
 ⟨[],[]⟩,some ⟨[(2,false,[dB])],[]⟩⟩)] Tryz.func49
def cO (n0:kK):Option Int :=
 (cC n0).bind λt5 =>
 cond (!t5)
 (some 1)
 ((cD n0).bind λt9 =>
 cond (!t9)
 (some 0)
 ((cK n0).bind λt13 =>
 cond (!t13)
 (some 2)
 ((cM n0).bind λt17 =>
 cond (!t17)
 (some 3)
 ((cN n0).bind λt21 =>
 cond (!t21) (some 4) (some 0)))))
def kD:FL:=(19,⟨[.val true lq false],[.val false kP (some true)],λa=>cO a⟩)::gI
theorem kE:Gd kD:=kX kC 19 Tryz.f19 [] Tryz.func19
def pC (aN0:kK):Option Bool :=
 (cY aN0 1048576).bind λt9 =>
 cond (decide (t9<0))
 (some true)
 ((aI aN0).bind λt13 =>
 (cq t13).bind λt14 =>
 (aI aN0).bind λt16 =>
 (cO t16).bind λt18 =>
 cond (t18 != t14)
 (some false)
 ((aI aN0).bind λt24 =>
 (bU t16 t24).bind λt25 =>
 cond (!t25) (some false) (some true)))
def qt:Fn:=⟨[.val true lq false],[.val false lm (some true)],λa=>pC a⟩
theorem m_laws_FnExactSafe:rJ Tryz.prog 4 qt:=Dc kE 4 Tryz.f4 [] qt Tryz.func4
end
end Go.V.W

