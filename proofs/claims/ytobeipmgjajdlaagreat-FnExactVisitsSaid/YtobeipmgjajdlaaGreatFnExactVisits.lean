/- The law FnExactVisits: part of the proof that for every input it returns true. No condition. -/
import Derived.Test.YtobeipmgjajdlaaGreatV4
import Derived.Test.YtobeipmgjajdlaaGreatProg
import Derived.Test.YtobeipmgjajdlaaGreatChecked
import Derived.KernelRfl
set_option linter.unusedVariables false
set_option linter.unusedSimpArgs false
namespace Go.V.W
open Go.Proofs
noncomputable section
def us:Nat->Nat->List (Nat×Bool×List n4)->List (Nat×Bool×List n4)|_,0,l=>l|a,n+1,l=>(a,false,[.undef])::us (a+1) n l
@[reducible] def lY:Cs:=.one (.int .i64)
@[reducible] def mS:Cs:=.one .bool
@[reducible] def ux:Cs:=.one (.sl (.one (.int .u8)))
@[reducible] def sR:Cs:=.one (.sl (.one (.int .i64)))
@[reducible] def Hm:Cs:=.one .str
@[reducible] def dI:n4:=.dat (.int .i64)
@[reducible] def dB:n4:=.dat .bool
@[reducible] def dS:n4:=.dat .str
@[reducible] def pu:Cs:=.cons (.int .i64) (.cons (.int .i64) (.cons (.int .i64) (.cons (.int .i64) lY)))
@[reducible] def oM:Cs:=.cons .bool (.cons (.int .i64) (.cons .bool (.cons (.int .i64) (.cons (.int .i64) (.cons (.int .i64) (.cons (.int .i64) lY))))))
@[reducible] def mz:Cs:=.cons (.int .i64) (.cons (.int .i64) (.cons (.int .i64) (.cons (.int .i64) mS)))
@[reducible] def oe:Cs:=.cons (.int .i64) (.cons (.int .i64) lY)
@[reducible] def og:Cs:=.cons (.sl oe) sR
@[reducible] def mb:Cs:=.cons (.int .i64) (.cons .str (.cons (.sl oM) (.cons (.sl mz) (.cons (.sl oe) (.cons (.sl lY) (.cons (.int .i64) (.cons (.int .i64) (.cons (.int .i64) (.cons (.int .i64) lY)))))))))
@[reducible] def nP:Cs:=.cons (.int .i64) (.cons (.int .i64) (.cons (.int .i64) lY))
@[reducible] def oE:Cs:=.cons (.int .i64) (.cons .bool (.cons (.int .i64) (.cons (.int .i64) (.cons (.int .i64) (.cons (.int .i64) lY)))))
@[reducible] def np:Cs:=.cons (.sl mb) (.cons (.sl nP) (.one (.sl oE)))
@[reducible] def mZ:Cs:=.cons (.int .i64) (.cons (.int .i64) (.cons (.int .i64) ux))
@[reducible] def sS:Cs:=.cons (.int .i64) (.cons (.int .i64) (.cons (.int .i64) (.cons (.int .i64) ux)))
@[reducible] def mU:Cs:=.cons (.int .i64) (.cons (.int .i64) (.cons (.int .i64) (.cons (.int .i64) (.cons (.int .i64) ux))))
@[reducible] def vb:Cs:=.cons (.sl mb) (.cons (.sl nP) (.cons (.sl oE) (.cons (.sl mU) (.cons (.sl mU) (.cons (.sl lY) lY)))))
abbrev qk:Type:=Int×Int×Int×Int×Int
abbrev Pt:Type:=Bool×Int×Bool×Int×Int×Int×Int×Int
abbrev m0:Type:=Int×Int×Int×Int×Bool
abbrev nC:Type:=Int×Int×Int
abbrev mV:Type:=List nC×List Int
abbrev lS:Type:=Int×List UInt8×List Pt×List m0×List nC×List Int×Int×Int×Int×Int×Int
abbrev my:Type:=Int×Int×Int×Int
abbrev nX:Type:=Int×Bool×Int×Int×Int×Int×Int
abbrev mi:Type:=List lS×List my×List nX
abbrev mO:Type:=Int×Int×Int×List Int
abbrev ne:Type:=Int×Int×Int×Int×List Int
abbrev mJ:Type:=Int×Int×Int×Int×Int×List Int
abbrev uy:Type:=List lS×List my×List nX×List mJ×List mJ×List Int×Int
def tis:List (Nat×m9):=[(2,⟨false,.one (.int .i64),[],0⟩),
 (3,⟨false,.one (.int .i64),[],0⟩),
 (4,⟨false,.one .bool,[],0⟩),
 (5,⟨false,.one (.int .u8),[],0⟩),
 (6,⟨false,.one (.int .u8),[],0⟩),
 (9,⟨false,.one .str,[],0⟩),
 (10,⟨false,.one .str,[],0⟩),
 (11,⟨false,.one .str,[],0⟩),
 (12,⟨false,.one (.int .u64),[],0⟩),
 (21,⟨false,.one (.int .i32),[],0⟩),
 (22,⟨false,.one (.sl mb),[],84⟩),
 (23,⟨false,.one (.sl nP),[],103⟩),
 (24,⟨false,.one (.sl oE),[],111⟩),
 (25,⟨true,np,[(22,0),(23,1),(24,2)],0⟩),
 (26,⟨true,np,[(22,0),(23,1),(24,2)],0⟩),
 (27,⟨false,.one (.sl (.one (.int .u8))),[],5⟩),
 (28,⟨true,mZ,[(3,0),(3,1),(3,2),(27,3)],0⟩),
 (29,⟨true,mZ,[(3,0),(3,1),(3,2),(27,3)],0⟩),
 (32,⟨false,.one (.sl lY),[],3⟩),
 (34,⟨false,.one (.sl mb),[],92⟩),
 (35,⟨false,.one (.sl nP),[],101⟩),
 (36,⟨false,.one (.sl oE),[],107⟩),
 (37,⟨true,np,[(34,0),(35,1),(36,2)],0⟩),
 (38,⟨true,np,[(34,0),(35,1),(36,2)],0⟩),
 (40,⟨true,mZ,[(3,0),(3,1),(3,2),(27,3)],0⟩),
 (55,⟨false,.one (.sl mU),[],94⟩),
 (56,⟨false,.one (.sl mU),[],126⟩),
 (57,⟨true,vb,[(38,0),(55,3),(56,4),(32,5),(3,6)],0⟩),
 (58,⟨true,vb,[(38,0),(55,3),(56,4),(32,5),(3,6)],0⟩),
 (78,⟨false,.one (.sl oM),[],194⟩),
 (79,⟨false,.one (.sl mz),[],196⟩),
 (80,⟨false,.one (.sl oe),[],210⟩),
 (81,⟨true,og,[(80,0),(32,1)],0⟩),
 (82,⟨true,og,[(80,0),(32,1)],0⟩),
 (83,⟨true,mb,[(3,0),(9,1),(78,2),(79,3),(82,4),(3,6),(3,7),(3,8),(3,9),(3,10)],0⟩),
 (84,⟨true,mb,[(3,0),(9,1),(78,2),(79,3),(82,4),(3,6),(3,7),(3,8),(3,9),(3,10)],0⟩),
 (86,⟨false,.one (.sl oM),[],113⟩),
 (87,⟨false,.one (.sl mz),[],173⟩),
 (88,⟨false,.one (.sl oe),[],175⟩),
 (89,⟨true,og,[(88,0),(32,1)],0⟩),
 (90,⟨true,og,[(88,0),(32,1)],0⟩),
 (91,⟨true,mb,[(3,0),(9,1),(86,2),(87,3),(90,4),(3,6),(3,7),(3,8),(3,9),(3,10)],0⟩),
 (92,⟨true,mb,[(3,0),(9,1),(86,2),(87,3),(90,4),(3,6),(3,7),(3,8),(3,9),(3,10)],0⟩),
 (93,⟨true,mU,[(3,0),(3,1),(40,2)],0⟩),
 (94,⟨true,mU,[(3,0),(3,1),(40,2)],0⟩),
 (95,⟨false,.one (.sl sS),[],122⟩),
 (100,⟨true,nP,[(3,0),(3,1),(3,2),(3,3)],0⟩),
 (101,⟨true,nP,[(3,0),(3,1),(3,2),(3,3)],0⟩),
 (103,⟨true,nP,[(3,0),(3,1),(3,2),(3,3)],0⟩),
 (104,⟨true,pu,[(3,0),(3,1),(3,2),(3,3),(3,4)],0⟩),
 (105,⟨true,pu,[(3,0),(3,1),(3,2),(3,3),(3,4)],0⟩),
 (106,⟨true,oE,[(3,0),(4,1),(105,2)],0⟩),
 (107,⟨true,oE,[(3,0),(4,1),(105,2)],0⟩),
 (109,⟨true,pu,[(3,0),(3,1),(3,2),(3,3),(3,4)],0⟩),
 (110,⟨true,oE,[(3,0),(4,1),(109,2)],0⟩),
 (111,⟨true,oE,[(3,0),(4,1),(109,2)],0⟩),
 (112,⟨true,oM,[(4,0),(3,1),(4,2),(105,3)],0⟩),
 (113,⟨true,oM,[(4,0),(3,1),(4,2),(105,3)],0⟩),
 (118,⟨true,mU,[(3,0),(3,1),(40,2)],0⟩),
 (119,⟨true,mU,[(3,0),(3,1),(40,2)],0⟩),
 (120,⟨false,.one (.sl mU),[],119⟩),
 (121,⟨true,sS,[(3,0),(40,1)],0⟩),
 (122,⟨true,sS,[(3,0),(40,1)],0⟩),
 (125,⟨true,mU,[(3,0),(3,1),(40,2)],0⟩),
 (126,⟨true,mU,[(3,0),(3,1),(40,2)],0⟩),
 (157,⟨false,.one (.int .u64),[],0⟩),
 (172,⟨true,mz,[(3,0),(3,1),(3,2),(3,3),(4,4)],0⟩),
 (173,⟨true,mz,[(3,0),(3,1),(3,2),(3,3),(4,4)],0⟩),
 (174,⟨true,oe,[(3,0),(3,1),(3,2)],0⟩),
 (175,⟨true,oe,[(3,0),(3,1),(3,2)],0⟩),
 (187,⟨false,.one (.sl mS),[],4⟩),
 (193,⟨true,oM,[(4,0),(3,1),(4,2),(109,3)],0⟩),
 (194,⟨true,oM,[(4,0),(3,1),(4,2),(109,3)],0⟩),
 (196,⟨true,mz,[(3,0),(3,1),(3,2),(3,3),(4,4)],0⟩),
 (210,⟨true,oe,[(3,0),(3,1),(3,2)],0⟩),
 (219,⟨false,.one (.int .u32),[],0⟩),
 (220,⟨false,.one (.int .u8),[],0⟩),
 (221,⟨false,.one (.int .u8),[],0⟩),
 (224,⟨false,.one (.int .i32),[],0⟩),
 (225,⟨false,.one (.int .i32),[],0⟩)]
theorem tisT:nE Tryz.prog tis:=nE.of_all (by kernel_rfl)
theorem H5:zT Tryz.prog tis:=zT.of_all (by kernel_rfl)
theorem tisD:Deep Tryz.prog tis:=Deep.of_all (by kernel_rfl)
theorem qL:Tryz.prog.follows .mixedOrders=true:=by kernel_rfl
def nr (fn:Func):Code:=match fn.body with|some c=>c|none=>.skip
theorem iF:o7 Tryz.prog ⟨tis,[],[],false⟩:=⟨tisT,H5,(λf F h=>by cases h),(λf M h=>by cases h),(λh=>by cases h)⟩
theorem Hn {l : List (FuncId×Fn)} (g : o7 Tryz.prog ⟨tis, l, [], false⟩) (n : FuncId) (f : Func) (ann : List (Nat×lV)) (F : Fn) (h1 : Tryz.prog.funcs[n]?=some f) (h2 : (f.name == "runtime.NumGoroutine")=false := by kernel_rfl) (h3 : f.body=some (nr f) := by kernel_rfl) (h4 : wu ⟨tis, l, [], false⟩ ann f (nr f) F.ps F.rs=F.den := by kernel_rfl) : si Tryz.prog n F := by
 have h:=Ac (ann:=ann) (ps:=F.ps) (rs:=F.rs) g qL h1 h2 h3;rw[h4]at h;exact h
abbrev FL:=List (FuncId×Fn)
def Gd (l:FL):Prop:=o7 Tryz.prog ⟨tis,l,[],false⟩
theorem m7 {l : List (FuncId×Fn)} (g : Gd l) (n : FuncId) (f : Func) (ann : List (Nat×lV)) {F : Fn} (h1 : Tryz.prog.funcs[n]?=some f) (h2 : (f.name == "runtime.NumGoroutine")=false := by kernel_rfl) (h3 : f.body=some (nr f) := by kernel_rfl) (h4 : wu ⟨tis, l, [], false⟩ ann f (nr f) F.ps F.rs=F.den := by kernel_rfl) : Gd ((n, F)::l) := o7.cons g (Hn g n f ann F h1 h2 h3 h4)
def dp (a0:List Pt) (left1:Int):Option Int :=
 let left1_1:=lT (left1-(a0.length:Int))
 cond (decide (left1_1<0)) (some (-1)) (some left1_1)
def eE:FL:=(98,⟨[.val false (.one (.sl oM)) false,.val false lY false],[.val false lY (some true)],λa=>dp a.1 a.2⟩)::[]
theorem iG:Gd eE:=m7 iF 98 Tryz.f98 [] Tryz.func98
def dq (a0:List m0) (left1:Int):Option Int :=
 let left1_1:=lT (left1-(a0.length:Int))
 cond (decide (left1_1<0)) (some (-1)) (some left1_1)
def eF:FL:=(99,⟨[.val false (.one (.sl mz)) false,.val false lY false],[.val false lY (some true)],λa=>dq a.1 a.2⟩)::eE
theorem iH:Gd eF:=m7 iG 99 Tryz.f99 [] Tryz.func99
def dt (a0:List nC) (left1:Int):Option Int :=
 let left1_1:=lT (left1-(a0.length:Int))
 cond (decide (left1_1<0)) (some (-1)) (some left1_1)
def eG:FL:=(156,⟨[.val false (.one (.sl oe)) false,.val false lY false],[.val false lY (some true)],λa=>dt a.1 a.2⟩)::eF
theorem iI:Gd eG:=m7 iH 156 Tryz.f156 [] Tryz.func156
def du (a0:List Int) (left1:Int):Option Int :=
 let left1_1:=lT (left1-(a0.length:Int))
 cond (decide (left1_1<0)) (some (-1)) (some left1_1)
def eH:FL:=(157,⟨[.val false sR false,.val false lY false],[.val false lY (some true)],λa=>du a.1 a.2⟩)::eG
theorem iJ:Gd eH:=m7 iI 157 Tryz.f157 [] Tryz.func157
def dv (a0:mV) (left1:Int):Option Int :=
 (dt a0.1 left1).bind λt8 =>
 cond (decide (t8<0))
 (some (-1))
 ((du a0.2 t8).bind λt14 =>
 cond (decide (t14<0)) (some (-1)) (some t14))
def eI:FL:=(100,⟨[.val true og false,.val false lY false],[.val false lY (some true)],λa=>dv a.1 a.2⟩)::eH
theorem iK:Gd eI:=m7 iJ 100 Tryz.f100 [] Tryz.func100
def cp (a0:lS) (left1:Int):Option Int :=
 let left1_1:=lT (left1-(a0.2.1.length:Int))
 cond (decide (left1_1<0))
 (some (-1))
 ((dp a0.2.2.1 left1_1).bind λt15 =>
 cond (decide (t15<0))
 (some (-1))
 ((dq a0.2.2.2.1 t15).bind λt21 =>
 cond (decide (t21<0))
 (some (-1))
 ((dv (a0.2.2.2.2.1,a0.2.2.2.2.2.1) t21).bind λt27 =>
 cond (decide (t27<0)) (some (-1)) (some t27))))
def eJ:FL:=(50,⟨[.val true mb false,.val false lY false],[.val false lY (some true)],λa=>cp a.1 a.2⟩)::eI
theorem iL:Gd eJ:=m7 iK 50 Tryz.f50 [] Tryz.func50
def eK (a0:List lS) (left1_2:Int) (i5:Int):Option ((Int×Int)⊕(Int⊕Int)) :=
 cond (decide (i5<(a0.length:Int)))
 ((at? a0 i5).bind λx20 =>
 (cp x20 left1_2).bind λt23 =>
 cond (decide (t23<0)) (some (.inr (.inr (-1)))) (some (.inl (t23,lT (i5+1)))))
 (some (.inr (.inl left1_2)))
def dw (a0:List lS) (left1:Int):Option Int :=
 let left1_1:=lT (left1-(a0.length:Int))
 cond (decide (left1_1<0))
 (some (-1))
 ((loop (λz=>eK a0 z.1 z.2) (left1_1,0)).bind (Sum.elim (λd =>
 some d) (λr=>some r)))
def eL:FL:=(20,⟨[.val false (.one (.sl mb)) false,.val false lY false],[.val false lY (some true)],λa=>dw a.1 a.2⟩)::eJ
theorem iM:Gd eL:=m7 iL 20 Tryz.f20 [(0,⟨⟨[(1,false,[dI]),(5,false,[dI])],[]⟩,
 ⟨[(1,false,[dI])],[]⟩,some ⟨[(4,false,[dI])],[]⟩⟩)] Tryz.func20
def dx (a0:List my) (left1:Int):Option Int :=
 let left1_1:=lT (left1-(a0.length:Int))
 cond (decide (left1_1<0)) (some (-1)) (some left1_1)
def eM:FL:=(21,⟨[.val false (.one (.sl nP)) false,.val false lY false],[.val false lY (some true)],λa=>dx a.1 a.2⟩)::eL
theorem iN:Gd eM:=m7 iM 21 Tryz.f21 [] Tryz.func21
def dy (a0:List nX) (left1:Int):Option Int :=
 let left1_1:=lT (left1-(a0.length:Int))
 cond (decide (left1_1<0)) (some (-1)) (some left1_1)
def eN:FL:=(22,⟨[.val false (.one (.sl oE)) false,.val false lY false],[.val false lY (some true)],λa=>dy a.1 a.2⟩)::eM
theorem iO:Gd eN:=m7 iN 22 Tryz.f22 [] Tryz.func22
def dz (a0:mi) (left1:Int):Option Int :=
 (dw a0.1 left1).bind λt8 =>
 cond (decide (t8<0))
 (some (-1))
 ((dx a0.2.1 t8).bind λt14 =>
 cond (decide (t14<0))
 (some (-1))
 ((dy a0.2.2 t14).bind λt20 =>
 cond (decide (t20<0)) (some (-1)) (some t20)))
def eO:FL:=(5,⟨[.val true np false,.val false lY false],[.val false lY (some true)],λa=>dz a.1 a.2⟩)::eN
theorem iP:Gd eO:=m7 iO 5 Tryz.f5 [] Tryz.func5
def dA (a0:List Int) (left1:Int):Option Int :=
 let left1_1:=lT (left1-(a0.length:Int))
 cond (decide (left1_1<0)) (some (-1)) (some left1_1)
def eP:FL:=(23,⟨[.val false ux false,.val false lY false],[.val false lY (some true)],λa=>dA a.1 a.2⟩)::eO
theorem iQ:Gd eP:=m7 iP 23 Tryz.f23 [] Tryz.func23
def dC (a0:mO) (left1:Int):Option Int :=
 (dA a0.2.2.2 left1).bind λt8 =>
 cond (decide (t8<0)) (some (-1)) (some t8)
def eQ:FL:=(6,⟨[.val true mZ false,.val false lY false],[.val false lY (some true)],λa=>dC a.1 a.2⟩)::eP
theorem iR:Gd eQ:=m7 iQ 6 Tryz.f6 [] Tryz.func6
def a6 (x0:Int) (least1:Int) (most2:Int):Option Bool :=
 (cond (decide (x0>=least1)) (some (decide (x0<=most2))) (some false)).bind λt14 =>
 some t14
def eR:FL:=(52,⟨[.val false lY false,.val false lY false,.val false lY false],[.val false mS (some true)],λa=>a6 a.1 a.2.1 a.2.2⟩)::eQ
theorem iS:Gd eR:=m7 iR 52 Tryz.f52 [] Tryz.func52
def bv (e0:m0):Option Bool :=
 (a6 e0.1 1 99).bind λt5 =>
 (cond t5
 ((a6 e0.2.1 1 9999).bind λt9 =>
 some t9)
 (some false)).bind λt10 =>
 (cond t10
 ((a6 e0.2.2.1 0 7).bind λt14 =>
 some t14)
 (some false)).bind λt15 =>
 (cond t15
 ((a6 e0.2.2.2.1 0 4).bind λt19 =>
 some t19)
 (some false)).bind λt20 =>
 (cond t20
 ((cond (!e0.2.2.2.2) (some true) (some (e0.2.2.2.1==0))).bind λt29 =>
 some t29)
 (some false)).bind λt30 =>
 some t30
def eS:FL:=(163,⟨[.val true mz false],[.val false mS (some true)],λa=>bv a⟩)::eR
theorem iT:Gd eS:=m7 iS 163 Tryz.f163 [] Tryz.func163
def aq (e0:m0) (tag1:Int) (mac2:Int):Option Bool :=
 cond (e0.1 != tag1) (some (decide (e0.1<tag1))) (some (decide (e0.2.1<mac2)))
def eT:FL:=(189,⟨[.val true mz false,.val false lY false,.val false lY false],[.val false mS (some true)],λa=>aq a.1 a.2.1 a.2.2⟩)::eS
theorem iU:Gd eT:=m7 iT 189 Tryz.f189 [] Tryz.func189
def dD (l0:List m0) (i3:Int):Option (Int⊕(Unit⊕Bool)) :=
 cond (decide (i3<(l0.length:Int)))
 ((at? l0 i3).bind λx12 =>
 (bv x12).bind λt14 =>
 (cond (!t14)
 (some true)
 ((cond (decide (i3>0))
 ((at? l0 (lT (i3-1))).bind λx23 =>
 (at? l0 i3).bind λx27 =>
 (at? l0 i3).bind λx32 =>
 (aq x23 x27.1 x32.2.1).bind λt35 =>
 some (!t35))
 (some false)).bind λt37 =>
 some t37)).bind λt38 =>
 cond t38 (some (.inr (.inr false))) (some (.inl (lT (i3+1)))))
 (some (.inr (.inl ())))
def bw (l0:List m0):Option Bool :=
 (loop (λz=>dD l0 z) 0).bind (Sum.elim (λd =>
 let t2:=decide ((l0.length:Int)<=12)
 some t2) (λr=>some r))
def eU:FL:=(162,⟨[.val false (.one (.sl mz)) false],[.val false mS (some true)],λa=>bw a⟩)::eT
theorem iV:Gd eU:=m7 iU 162 Tryz.f162 [(0,⟨⟨(3,false,[dI])::us 17 21 [],[]⟩,
 ⟨[],[]⟩,some ⟨[(2,false,[dB])],[]⟩⟩)] Tryz.func162
def aP (v0:qk):Option Bool :=
 (a6 v0.1 1 99).bind λt5 =>
 (cond t5
 ((a6 v0.2.1 0 100000).bind λt9 =>
 some t9)
 (some false)).bind λt10 =>
 (cond t10
 ((a6 v0.2.2.1 0 10).bind λt14 =>
 some t14)
 (some false)).bind λt15 =>
 (cond t15
 ((a6 v0.2.2.2.1 1 99).bind λt19 =>
 some t19)
 (some false)).bind λt20 =>
 (cond t20
 ((a6 v0.2.2.2.2 0 7).bind λt24 =>
 some t24)
 (some false)).bind λt25 =>
 some t25
def eV:FL:=(73,⟨[.val true pu false],[.val false mS (some true)],λa=>aP a⟩)::eU
theorem iW:Gd eV:=m7 iV 73 Tryz.f73 [] Tryz.func73
def bx (p0:Pt):Option Bool :=
 (a6 p0.2.1 1 1000).bind λt5 =>
 (cond (!t5)
 (some true)
 ((cond (!p0.1) (some p0.2.2.1) (some false)).bind λt14 =>
 some t14)).bind λt15 =>
 cond t15
 (some false)
 (cond (!p0.2.2.1)
 (let t2:=p0.2.2.2.1==0&&(p0.2.2.2.2.1==0&&(p0.2.2.2.2.2.1==0&&(p0.2.2.2.2.2.2.1==0&&(p0.2.2.2.2.2.2.2==0))))
 some t2)
 ((aP p0.2.2.2).bind λt25 =>
 some t25))
def eW:FL:=(179,⟨[.val true oM false],[.val false mS (some true)],λa=>bx a⟩)::eV
theorem iX:Gd eW:=m7 iW 179 Tryz.f179 [] Tryz.func179
def iY (v0:mV) (id1:Int) (i5:Int):Option (Int⊕(Unit⊕Int)) :=
 cond (decide (i5<(v0.1.length:Int)))
 ((at? v0.1 i5).bind λx16 =>
 cond (x16.1==id1) (some (.inr (.inr i5))) (some (.inl (lT (i5+1)))))
 (some (.inr (.inl ())))
def aB (v0:mV) (id1:Int):Option Int :=
 (loop (λz=>iY v0 id1 z) 0).bind (Sum.elim (λd =>
 some (-1)) (λr=>some r))
def eX:FL:=(160,⟨[.val true og false,.val false lY false],[.val false lY (some true)],λa=>aB a.1 a.2⟩)::eW
theorem iZ:Gd eX:=m7 iX 160 Tryz.f160 [(0,⟨⟨[(5,false,[dI])],[]⟩,
 ⟨[],[]⟩,some ⟨[(4,false,[dI])],[]⟩⟩)] Tryz.func160
def dE (p0:mV) (t27:Int) (t6:Int):Option (Int⊕(Unit⊕Bool)) :=
 cond (decide (t6<(p0.1.length:Int)))
 ((at? p0.1 t6).bind λx39 =>
 (a6 x39.1 1 99).bind λt43 =>
 (cond (!t43)
 (some true)
 ((a6 x39.2.1 0 (lT (t27-1))).bind λt49 =>
 some (!t49))).bind λt51 =>
 (cond t51
 (some true)
 ((a6 x39.2.2 0 (lT (t27-1))).bind λt56 =>
 some (!t56))).bind λt58 =>
 (cond t58 (some true) (some ((ox .i64 x39.2.2 x39.2.1) != x39.2.2))).bind λt68 =>
 (cond t68
 (some true)
 ((cond (decide (t6>0))
 ((at? p0.1 (lT (t6-1))).bind λx77 =>
 some (decide (x77.1>=x39.1)))
 (some false)).bind λt83 =>
 some t83)).bind λt84 =>
 cond t84 (some (.inr (.inr false))) (some (.inl (lT (t6+1)))))
 (some (.inr (.inl ())))
def eY (p0:mV) (t8:Int):Option (Int⊕(Unit⊕Bool)) :=
 cond (decide (t8<(p0.2.length:Int)))
 ((at? p0.2 t8).bind λx96 =>
 (aB p0 x96).bind λt98 =>
 cond (decide (t98<0)) (some (.inr (.inr false))) (some (.inl (lT (t8+1)))))
 (some (.inr (.inl ())))
def cq (p0:mV) (i1:Int):Option Bool :=
 (a6 i1 1 6).bind λt10 =>
 (cond (!t10) (some true) (some ((p0.2.length:Int) != i1))).bind λt18 =>
 (cond t18 (some true) (some (decide ((p0.1.length:Int)>6)))).bind λt24 =>
 cond t24
 (some false)
 ((shl .i64 1 (IntKind.u64.wrap (i1))).bind λt27 =>
 (loop (λz=>dE p0 t27 z) 0).bind (Sum.elim (λd =>
 (loop (λz=>eY p0 z) 0).bind (Sum.elim (λd_1 =>
 some true) (λr=>some r))) (λr_1=>some r_1)))
def eZ:FL:=(180,⟨[.val true og false,.val false lY false],[.val false mS (some true)],λa=>cq a.1 a.2⟩)::eX
theorem j0:Gd eZ:=m7 iZ 180 Tryz.f180 [(0,⟨⟨(6,false,[dI])::us 46 5 (us 53 5 (us 60 8 (us 70 14 []))),[]⟩,
 ⟨[],[]⟩,some ⟨[(4,false,[dB])],[]⟩⟩),
 (2,⟨⟨[(8,false,[dI])],[]⟩,
 ⟨[],[]⟩,some ⟨[(4,false,[dB])],[]⟩⟩)] Tryz.func180
def ct (b0:lS):Option Bool :=
 (a6 b0.2.2.2.2.2.2.1 0 1000000).bind λt5 =>
 (cond t5
 ((a6 b0.2.2.2.2.2.2.2.1 0 1000000).bind λt9 =>
 some t9)
 (some false)).bind λt10 =>
 (cond t10
 ((a6 b0.2.2.2.2.2.2.2.2.1 0 1000000).bind λt14 =>
 some t14)
 (some false)).bind λt15 =>
 (cond t15
 ((a6 b0.2.2.2.2.2.2.2.2.2.1 0 1000000).bind λt19 =>
 some t19)
 (some false)).bind λt20 =>
 (cond t20
 ((a6 b0.2.2.2.2.2.2.2.2.2.2 0 1000000).bind λt24 =>
 some t24)
 (some false)).bind λt25 =>
 some t25
def fa:FL:=(181,⟨[.val true mb false],[.val false mS (some true)],λa=>ct a⟩)::eZ
theorem j6:Gd fa:=m7 j0 181 Tryz.f181 [] Tryz.func181
def dG (b0:lS) (i3:Int):Option (Int⊕(Unit⊕Bool)) :=
 cond (decide (i3<(b0.2.2.1.length:Int)))
 ((at? b0.2.2.1 i3).bind λx14 =>
 (bx x14).bind λt16 =>
 cond (!t16) (some (.inr (.inr false))) (some (.inl (lT (i3+1)))))
 (some (.inr (.inl ())))
def bz (b0:lS):Option Bool :=
 (loop (λz=>dG b0 z) 0).bind (Sum.elim (λd =>
 (a6 b0.1 1 99).bind λt20 =>
 (cond t20 (some (decide ((b0.2.1.length:Int)<=10))) (some false)).bind λt26 =>
 (cond t26
 ((a6 (b0.2.2.1.length:Int) 1 6).bind λt31 =>
 some t31)
 (some false)).bind λt32 =>
 (cond t32
 ((bw b0.2.2.2.1).bind λt36 =>
 some t36)
 (some false)).bind λt37 =>
 (cond t37
 ((cq (b0.2.2.2.2.1,b0.2.2.2.2.2.1) (b0.2.2.1.length:Int)).bind λt44 =>
 some t44)
 (some false)).bind λt45 =>
 (cond t45
 ((ct b0).bind λt48 =>
 some t48)
 (some false)).bind λt49 =>
 some t49) (λr=>some r))
def fb:FL:=(135,⟨[.val true mb false],[.val false mS (some true)],λa=>bz a⟩)::fa
theorem j7:Gd fb:=m7 j6 135 Tryz.f135 [(0,⟨⟨[(3,false,[dI])],[]⟩,
 ⟨[],[]⟩,some ⟨[(2,false,[dB])],[]⟩⟩)] Tryz.func135
def aQ (n0:mi) (b1:Int) (p2:Int) (k7:Int) (i8:Int):Option ((Int×Int)⊕Int) :=
 cond (decide (i8<(n0.2.1.length:Int)))
 ((at? n0.2.1 i8).bind λx20 =>
 (cond (x20.1==b1) (some (x20.2.1==p2)) (some false)).bind λt31 =>
 cond t31
 ((cond (x20.2.2.1==b1) (some (x20.2.2.2==p2)) (some false)).bind λt43 =>
 cond t43
 (some (.inl (lT ((lT (k7+1))+1),lT (i8+1))))
 (some (.inl (lT (k7+1),lT (i8+1)))))
 ((cond (x20.2.2.1==b1) (some (x20.2.2.2==p2)) (some false)).bind λt43_1 =>
 cond t43_1
 (some (.inl (lT (k7+1),lT (i8+1))))
 (some (.inl (k7,lT (i8+1))))))
 (some (.inr k7))
def bA (n0:mi) (b1:Int) (p2:Int):Option Int :=
 (loop (λz=>aQ n0 b1 p2 z.1 z.2) (0,0)).bind λd =>
 some d
def fd:FL:=(136,⟨[.val true np false,.val false lY false,.val false lY false],[.val false lY (some true)],λa=>bA a.1 a.2.1 a.2.2⟩)::fb
theorem j8:Gd fd:=m7 j7 136 Tryz.f136 [(0,⟨⟨(7,false,[dI])::(8,false,[dI])::us 27 4 (us 39 4 []),[]⟩,
 ⟨[(7,false,[dI])],[]⟩,none⟩)] Tryz.func136
def aR (p0:mi) (t3:Int) (t4:Int):Option (Int⊕(Unit⊕Bool)) :=
 cond (decide (t4<t3))
 ((at? p0.1 t4).bind λx28 =>
 (at? p0.1 t3).bind λx34 =>
 cond (x28.1==x34.1) (some (.inr (.inr false))) (some (.inl (lT (t4+1)))))
 (some (.inr (.inl ())))
def aS (p0:mi) (t3:Int) (t5:Int):Option (Int⊕(Unit⊕Bool)) :=
 (at? p0.1 t3).bind λx42 =>
 cond (decide (t5<(x42.2.2.1.length:Int)))
 ((at? p0.1 t3).bind λx52 =>
 (at? x52.2.2.1 t5).bind λx56 =>
 (cond x56.2.2.1
 ((bA p0 t3 t5).bind λt63 =>
 some (t63==0))
 (some false)).bind λt65 =>
 cond t65 (some (.inr (.inr false))) (some (.inl (lT (t5+1)))))
 (some (.inr (.inl ())))
def aU (p0:mi) (t3:Int):Option (Int⊕(Unit⊕Bool)) :=
 cond (decide (t3<(p0.1.length:Int)))
 ((at? p0.1 t3).bind λx16 =>
 (bz x16).bind λt18 =>
 cond (!t18)
 (some (.inr (.inr false)))
 ((loop (λz=>aR p0 t3 z) 0).bind (Sum.elim (λd =>
 (loop (λz=>aS p0 t3 z) 0).bind (Sum.elim (λd_1 =>
 some (.inl (lT (t3+1)))) (λr=>some (.inr (.inr r))))) (λr_1=>some (.inr (.inr r_1))))))
 (some (.inr (.inl ())))
def cu (p0:mi):Option Bool :=
 (loop (λz=>aU p0 z) 0).bind (Sum.elim (λd_2 =>
 (a6 (p0.1.length:Int) 1 6).bind λt69 =>
 some t69) (λr_2=>some r_2))
def fe:FL:=(71,⟨[.val true np false],[.val false mS (some true)],λa=>cu a⟩)::fd
theorem j9:Gd fe:=m7 j8 71 Tryz.f71 [(0,⟨⟨(3,false,[dI])::us 60 5 [],[]⟩,
 ⟨[],[]⟩,some ⟨[(2,false,[dB])],[]⟩⟩),
 (2,⟨⟨[(4,false,[dI])],[]⟩,
 ⟨[],[]⟩,some ⟨[(2,false,[dB])],[]⟩⟩),
 (4,⟨⟨(5,false,[dI])::us 60 5 [],[]⟩,
 ⟨us 60 5 [],[]⟩,some ⟨[(2,false,[dB])],[]⟩⟩)] Tryz.func71
def bB (n0:mi) (b1:Int) (p2:Int):Option Bool :=
 (a6 b1 0 (lT ((n0.1.length:Int)-1))).bind λt12 =>
 (cond t12
 ((at? n0.1 b1).bind λx18 =>
 (a6 p2 0 (lT ((x18.2.2.1.length:Int)-1))).bind λt23 =>
 some t23)
 (some false)).bind λt24 =>
 (cond t24
 ((bA n0 b1 p2).bind λt29 =>
 some (t29==1))
 (some false)).bind λt31 =>
 some t31
def ff:FL:=(72,⟨[.val true np false,.val false lY false,.val false lY false],[.val false mS (some true)],λa=>bB a.1 a.2.1 a.2.2⟩)::fe
theorem ja:Gd ff:=m7 j9 72 Tryz.f72 [] Tryz.func72
def aV (p0:mi) (t3:Int):Option (Int⊕(Unit⊕Bool)) :=
 cond (decide (t3<(p0.2.1.length:Int)))
 ((at? p0.2.1 t3).bind λx31 =>
 (cond (x31.1==x31.2.2.1)
 (some true)
 ((bB p0 x31.1 x31.2.1).bind λt44 =>
 some (!t44))).bind λt46 =>
 (cond t46
 (some true)
 ((bB p0 x31.2.2.1 x31.2.2.2).bind λt53 =>
 some (!t53))).bind λt55 =>
 (cond t55
 (some true)
 ((at? p0.1 x31.1).bind λx61 =>
 (at? x61.2.2.1 x31.2.1).bind λx66 =>
 (at? p0.1 x31.2.2.1).bind λx73 =>
 (at? x73.2.2.1 x31.2.2.2).bind λx78 =>
 some (!(x66.1==x78.1)))).bind λt82 =>
 cond t82 (some (.inr (.inr false))) (some (.inl (lT (t3+1)))))
 (some (.inr (.inl ())))
def aW (p0:mi) (t5:Int):Option (Int⊕(Unit⊕Bool)) :=
 cond (decide (t5<(p0.2.2.length:Int)))
 ((at? p0.2.2 t5).bind λx93 =>
 (a6 x93.1 0 (lT ((p0.2.1.length:Int)-1))).bind λt100 =>
 (cond (!t100)
 (some true)
 ((at? p0.2.2 t5).bind λx106 =>
 (aP x106.2.2).bind λt109 =>
 some (!t109))).bind λt111 =>
 cond t111 (some (.inr (.inr false))) (some (.inl (lT (t5+1)))))
 (some (.inr (.inl ())))
def cw (p0:mi):Option Bool :=
 (cu p0).bind λt7 =>
 (cond (!t7) (some true) (some (decide ((p0.2.1.length:Int)>9)))).bind λt14 =>
 (cond t14 (some true) (some (decide ((p0.2.2.length:Int)>40)))).bind λt20 =>
 cond t20
 (some false)
 ((loop (λz=>aV p0 z) 0).bind (Sum.elim (λd =>
 (loop (λz=>aW p0 z) 0).bind (Sum.elim (λd_1 =>
 some true) (λr=>some r))) (λr_1=>some r_1)))
def fg:FL:=(40,⟨[.val true np false],[.val false mS (some true)],λa=>cw a⟩)::ff
theorem jb:Gd fg:=m7 ja 40 Tryz.f40 [(0,⟨⟨(3,false,[dI])::us 39 7 (us 48 7 (us 57 25 [])),[]⟩,
 ⟨[],[]⟩,some ⟨[(2,false,[dB])],[]⟩⟩),
 (2,⟨⟨(5,false,[dI])::us 103 8 [],[]⟩,
 ⟨[],[]⟩,some ⟨[(2,false,[dB])],[]⟩⟩)] Tryz.func40
def bC (l0:List m0):Option (List m0) :=
 (nn ([]:List m0) l0).bind λzs5 =>
 some zs5
def fh:FL:=(158,⟨[.val false (.one (.sl mz)) false],[.val false (.one (.sl mz)) (some true)],λa=>bC a⟩)::fg
theorem jc:Gd fh:=m7 jb 158 Tryz.f158 [] Tryz.func158
def cz (v0:mV):Option mV :=
 (nn ([]:List nC) v0.1).bind λzs6 =>
 (nn ([]:List Int) v0.2).bind λzs10 =>
 some (zs6,zs10)
def fi:FL:=(159,⟨[.val true og false],[.val true og (some true)],λa=>cz a⟩)::fh
theorem jd:Gd fi:=m7 jc 159 Tryz.f159 [] Tryz.func159
def bD (b0:lS):Option lS :=
 (nn ([]:List Pt) b0.2.2.1).bind λzs8 =>
 (bC b0.2.2.2.1).bind λt12 =>
 (cz (b0.2.2.2.2.1,b0.2.2.2.2.2.1)).bind λt16 =>
 some (b0.1,b0.2.1,zs8,t12,t16.1,t16.2,b0.2.2.2.2.2.2.1,b0.2.2.2.2.2.2.2.1,b0.2.2.2.2.2.2.2.2.1,b0.2.2.2.2.2.2.2.2.2.1,b0.2.2.2.2.2.2.2.2.2.2)
def fj:FL:=(101,⟨[.val true mb false],[.val true mb (some true)],λa=>bD a⟩)::fi
theorem je:Gd fj:=m7 jd 101 Tryz.f101 [] Tryz.func101
def aX (n0:mi) (i4:Int) (b0:List lS):Option ((Int×List lS)⊕(List lS)) :=
 cond (decide (i4<(n0.1.length:Int)))
 ((at? n0.1 i4).bind λx26 =>
 (bD x26).bind λt28 =>
 (nn b0 [t28]).bind λzs30 =>
 some (.inl (lT (i4+1),zs30)))
 (some (.inr b0))
def cA (n0:mi):Option mi :=
 (nn ([]:List my) n0.2.1).bind λzs8 =>
 (nn ([]:List nX) n0.2.2).bind λzs12 =>
 (loop (λz=>aX n0 z.1 z.2) (0,[])).bind λd =>
 some (d,zs8,zs12)
def fk:FL:=(51,⟨[.val true np false],[.val true np (some true)],λa=>cA a⟩)::fj
theorem jf:Gd fk:=m7 je 51 Tryz.f51 [(0,⟨⟨[(4,false,[dI])],[(272384,.box [.own 1000000000,.same 266240,.same 270336]),(1000000000,.root mb true)]⟩,
 ⟨[],[(272384,.box [.own 1000000300,.same 266240,.same 270336]),(1000000300,.root mb true)]⟩,none⟩)] Tryz.func51
def cB (b0:lS) (port1:Int):Option Bool :=
 (bz b0).bind λt6 =>
 (cond t6
 ((a6 port1 0 (lT ((b0.2.2.1.length:Int)-1))).bind λt13 =>
 some t13)
 (some false)).bind λt14 =>
 some t14
def fm:FL:=(102,⟨[.val true mb false,.val false lY false],[.val false mS (some true)],λa=>cB a.1 a.2⟩)::fk
theorem jg:Gd fm:=m7 jf 102 Tryz.f102 [] Tryz.func102
def dH (f0:mO):Option Bool :=
 (a6 f0.1 0 9999).bind λt5 =>
 (cond t5
 ((a6 f0.2.1 1 9999).bind λt9 =>
 some t9)
 (some false)).bind λt10 =>
 (cond t10
 ((a6 f0.2.2.1 0 99).bind λt14 =>
 some t14)
 (some false)).bind λt15 =>
 (cond t15 (some (decide ((f0.2.2.2.length:Int)<=20))) (some false)).bind λt21 =>
 some t21
def fo:FL:=(103,⟨[.val true mZ false],[.val false mS (some true)],λa=>dH a⟩)::fm
theorem jh:Gd fo:=m7 jg 103 Tryz.f103 [] Tryz.func103
def cC (a0:qk) (b1:qk):Option Bool :=
 cond (a0.1 != b1.1)
 (some (decide (a0.1<b1.1)))
 (cond (a0.2.1 != b1.2.1)
 (some (decide (a0.2.1<b1.2.1)))
 (cond (a0.2.2.2.1 != b1.2.2.2.1)
 (let t4:=decide (a0.2.2.2.1<b1.2.2.2.1)
 some t4)
 (let t4_1:=decide (a0.2.2.2.2<b1.2.2.2.2)
 some t4_1)))
def fp:FL:=(143,⟨[.val true pu false,.val true pu false],[.val false mS (some true)],λa=>cC a.1 a.2⟩)::fo
theorem ji:Gd fp:=m7 jh 143 Tryz.f143 [] Tryz.func143
def dJ (v0:qk) (cost1:Int):Option (qk×Bool) :=
 (aP v0).bind λt8 =>
 (cond (!t8)
 (some true)
 ((a6 cost1 1 1000).bind λt12 =>
 some (!t12))).bind λt14 =>
 cond t14
 (some (v0,false))
 ((aP (v0.1,lT (v0.2.1+cost1),lT (v0.2.2.1+1),v0.2.2.2.1,v0.2.2.2.2)).bind λt27 =>
 cond (!t27)
 (some (v0,false))
 (some ((v0.1,lT (v0.2.1+cost1),lT (v0.2.2.1+1),v0.2.2.2.1,v0.2.2.2.2),true)))
def fq:FL:=(182,⟨[.val true pu false,.val false lY false],[.val true pu (some true),.val false mS (some true)],λa=>dJ a.1 a.2⟩)::fp
theorem jj:Gd fq:=m7 ji 182 Tryz.f182 [] Tryz.func182
def dK (p0:Int) (i1:List Pt) (t8:Int) (t9:Int) (b0:Int) (b1:Int) (b2:Int) (b3:Int) (b4:Int) (b0_1:Int) (b1_1:Int) (b2_1:Int) (b3_1:Int) (b4_1:Int):Option ((Int×Int×Int×Int×Int×Int×Int×Int×Int×Int×Int×Int)⊕(Int×Int×Int×Int×Int×Int×Int×Int×Int×Int×Int)) :=
 cond (decide (t9<(i1.length:Int)))
 ((at? i1 t9).bind λx24 =>
 (cond (!x24.1)
 (some true)
 ((at? i1 t9).bind λx31 =>
 some (!x31.2.2.1))).bind λt35 =>
 cond t35
 (some (.inl (t8,lT (t9+1),b0,b1,b2,b3,b4,b0_1,b1_1,b2_1,b3_1,b4_1)))
 ((at? i1 t9).bind λx39 =>
 (at? i1 t9).bind λx44 =>
 (dJ x39.2.2.2 x44.2.1).bind λt47 =>
 (cond t47.2 (some (decide (t47.1.1<p0))) (some false)).bind λt56 =>
 (cond t56
 ((cond (decide (t8<0))
 (some true)
 ((cC t47.1 (b0_1,b1_1,b2_1,b3_1,b4_1)).bind λt63 =>
 some t63)).bind λt64 =>
 some t64)
 (some false)).bind λt65 =>
 cond t65
 (some (.inl (t9,lT (t9+1),t47.1.1,t47.1.2.1,t47.1.2.2.1,p0,0,t47.1.1,t47.1.2.1,t47.1.2.2.1,t47.1.2.2.2.1,t47.1.2.2.2.2)))
 (some (.inl (t8,lT (t9+1),b0,b1,b2,b3,b4,b0_1,b1_1,b2_1,b3_1,b4_1)))))
 (some (.inr (t8,b0,b1,b2,b3,b4,b0_1,b1_1,b2_1,b3_1,b4_1)))
def bE (p0:Int) (i1:List Pt):Option (qk×Int) :=
 (loop (λz=>dK p0 i1 z.1 z.2.1 z.2.2.1 z.2.2.2.1 z.2.2.2.2.1 z.2.2.2.2.2.1 z.2.2.2.2.2.2.1 z.2.2.2.2.2.2.2.1 z.2.2.2.2.2.2.2.2.1 z.2.2.2.2.2.2.2.2.2.1 z.2.2.2.2.2.2.2.2.2.2.1 z.2.2.2.2.2.2.2.2.2.2.2) ((-1),0,p0,0,0,p0,0,0,0,0,0,0)).bind λd =>
 some ((d.2.1,d.2.2.1,d.2.2.2.1,d.2.2.2.2.1,d.2.2.2.2.2.1),d.1)
def fr:FL:=(140,⟨[.val false lY false,.val false (.one (.sl oM)) false],[.val true pu (some true),.val false lY (some true)],λa=>bE a.1 a.2⟩)::fq
theorem jk:Gd fr:=m7 jj 140 Tryz.f140 [(0,⟨⟨(8,false,[dI])::(9,false,[dI])::us 29 6 (us 52 4 (us 58 7 [])),[(266240,.box [dI,dI,dI,dI,dI]),(526336,.box [dI,dI,dI,dI,dI])]⟩,
 ⟨[(8,false,[dI])],[(266240,.box [dI,dI,dI,dI,dI]),(526336,.box [dI,dI,dI,dI,dI])]⟩,none⟩)] Tryz.func140
def cD (id0:Int) (l1:List Pt) (port2:Int):Option qk :=
 (bE id0 l1).bind λt12 =>
 some (t12.1.1,t12.1.2.1,t12.1.2.2.1,t12.1.2.2.2.1,port2)
def ft:FL:=(144,⟨[.val false lY false,.val false (.one (.sl oM)) false,.val false lY false],[.val true pu (some true)],λa=>cD a.1 a.2.1 a.2.2⟩)::fr
theorem jl:Gd ft:=m7 jk 144 Tryz.f144 [] Tryz.func144
def cE (id0:Int) (l1:List Pt) (port2:Int):Option Int :=
 (a6 port2 0 (lT ((l1.length:Int)-1))).bind λt13 =>
 (cond (!t13)
 (some true)
 ((at? l1 port2).bind λx18 =>
 some (!x18.1))).bind λt22 =>
 cond t22
 (some 4)
 ((bE id0 l1).bind λt26 =>
 cond (t26.2==port2)
 (some 1)
 ((at? l1 port2).bind λx36 =>
 (cond (!x36.2.2.1)
 (some true)
 ((cD id0 l1 port2).bind λt44 =>
 (at? l1 port2).bind λx47 =>
 (cC t44 x47.2.2.2).bind λt50 =>
 some t50)).bind λt51 =>
 cond t51 (some 2) (some 3)))
def fu:FL:=(82,⟨[.val false lY false,.val false (.one (.sl oM)) false,.val false lY false],[.val false lY (some true)],λa=>cE a.1 a.2.1 a.2.2⟩)::ft
theorem jm:Gd fu:=m7 jl 82 Tryz.f82 [] Tryz.func82
def bG (id0:Int) (l1:List Pt) (n5:Int) (i6:Int):Option ((Int×Int)⊕Int) :=
 (cond (decide (i6<(l1.length:Int))) (some (decide (i6<6))) (some false)).bind λt14 =>
 cond t14
 ((cE id0 l1 i6).bind λt20 =>
 cond (decide (t20<=2))
 ((shl .i64 1 (IntKind.u64.wrap (i6))).bind λt25 =>
 some (.inl (zC .i64 n5 t25,lT (i6+1))))
 (some (.inl (n5,lT (i6+1)))))
 (some (.inr n5))
def bH (id0:Int) (l1:List Pt):Option Int :=
 (loop (λz=>bG id0 l1 z.1 z.2) (0,0)).bind λd =>
 some d
def fv:FL:=(104,⟨[.val false lY false,.val false (.one (.sl oM)) false],[.val false lY (some true)],λa=>bH a.1 a.2⟩)::fu
theorem jn:Gd fv:=m7 jm 104 Tryz.f104 [(0,⟨⟨[(5,false,[dI]),(6,false,[dI]),(12,false,[.undef]),(13,false,[.undef])],[]⟩,
 ⟨[(5,false,[dI])],[]⟩,none⟩)] Tryz.func104
def ac (n0:Int) (port1:Int):Option Bool :=
 (a6 port1 0 7).bind λt6 =>
 (cond t6
 ((shr .i64 n0 (IntKind.u64.wrap (port1))).bind λt11 =>
 some ((ox .i64 t11 1)==1))
 (some false)).bind λt14 =>
 some t14
def fw:FL:=(106,⟨[.val false lY false,.val false lY false],[.val false mS (some true)],λa=>ac a.1 a.2⟩)::fv
theorem jo:Gd fw:=m7 jn 106 Tryz.f106 [] Tryz.func106
def cG (v0:mV) (port1:Int) (tag2:Int):Option (Int×Bool) :=
 (a6 port1 0 (lT ((v0.2.length:Int)-1))).bind λt14 =>
 cond (!t14)
 (some (0,false))
 (cond (tag2==0)
 ((at? v0.2 port1).bind λx21 =>
 (aB v0 x21).bind λt25 =>
 (cond (decide (t25<0))
 (some true)
 ((at? v0.1 t25).bind λx32 =>
 (ac x32.2.1 port1).bind λt36 =>
 some (!t36))).bind λt38 =>
 cond t38 (some (0,false)) (some (x21,true)))
 ((aB v0 tag2).bind λt25_1 =>
 (cond (decide (t25_1<0))
 (some true)
 ((at? v0.1 t25_1).bind λx32_1 =>
 (ac x32_1.2.1 port1).bind λt36_1 =>
 some (!t36_1))).bind λt38_1 =>
 cond t38_1 (some (0,false)) (some (tag2,true))))
def fx:FL:=(105,⟨[.val true og false,.val false lY false,.val false lY false],[.val false lY (some true),.val false mS (some true)],λa=>cG a.1 a.2.1 a.2.2⟩)::fw
theorem jp:Gd fx:=m7 jo 105 Tryz.f105 [] Tryz.func105
def aC (n0:Int):Option Int :=
 cond (decide (n0>=1000000)) (some n0) (some (lT (n0+1)))
def fy:FL:=(107,⟨[.val false lY false],[.val false lY (some true)],λa=>aC a⟩)::fx
theorem jq:Gd fy:=m7 jp 107 Tryz.f107 [] Tryz.func107
def aD (l0:List m0) (tag1:Int) (mac2:Int) (i7:Int):Option (Int⊕(Unit⊕Int)) :=
 cond (decide (i7<(l0.length:Int)))
 ((at? l0 i7).bind λx16 =>
 (cond (x16.1==tag1)
 ((at? l0 i7).bind λx24 =>
 some (x24.2.1==mac2))
 (some false)).bind λt29 =>
 cond t29 (some (.inr (.inr i7))) (some (.inl (lT (i7+1)))))
 (some (.inr (.inl ())))
def bI (l0:List m0) (tag1:Int) (mac2:Int):Option Int :=
 (loop (λz=>aD l0 tag1 mac2 z) 0).bind (Sum.elim (λd =>
 some (-1)) (λr=>some r))
def fA:FL:=(161,⟨[.val false (.one (.sl mz)) false,.val false lY false,.val false lY false],[.val false lY (some true)],λa=>bI a.1 a.2.1 a.2.2⟩)::fy
theorem jr:Gd fA:=m7 jq 161 Tryz.f161 [(0,⟨⟨(7,false,[dI])::us 22 7 [],[]⟩,
 ⟨[],[]⟩,some ⟨[(6,false,[dI])],[]⟩⟩)] Tryz.func161
def aE (p0:List m0) (i1:m0) (t6:Bool) (t7:Int) (t5:List m0):Option ((Bool×Int×List m0)⊕(Bool×List m0)) :=
 cond (decide (t7<(p0.length:Int)))
 ((cond (!t6)
 ((at? p0 t7).bind λx20 =>
 (aq x20 i1.1 i1.2.1).bind λt26 =>
 some (!t26))
 (some false)).bind λt28 =>
 cond t28
 ((nn t5 [i1]).bind λzs32 =>
 (at? p0 t7).bind λx35 =>
 (cond (x35.1 != i1.1)
 (some true)
 ((at? p0 t7).bind λx44 =>
 some (x44.2.1 != i1.2.1))).bind λt50 =>
 cond t50
 ((at? p0 t7).bind λx54 =>
 (nn zs32 [x54]).bind λzs57 =>
 some (.inl (true,lT (t7+1),zs57)))
 (some (.inl (true,lT (t7+1),zs32))))
 ((at? p0 t7).bind λx35_1 =>
 (cond (x35_1.1 != i1.1)
 (some true)
 ((at? p0 t7).bind λx44_1 =>
 some (x44_1.2.1 != i1.2.1))).bind λt50_1 =>
 cond t50_1
 ((at? p0 t7).bind λx54_1 =>
 (nn t5 [x54_1]).bind λzs57_1 =>
 some (.inl (t6,lT (t7+1),zs57_1)))
 (some (.inl (t6,lT (t7+1),t5)))))
 (some (.inr (t6,t5)))
def cH (p0:List m0) (i1:m0):Option (List m0) :=
 (loop (λz=>aE p0 i1 z.1 z.2.1 z.2.2) (false,0,([]:List m0))).bind λd =>
 cond (!d.1)
 ((nn d.2 [i1]).bind λzs63 =>
 some zs63)
 (some d.2)
def fB:FL:=(164,⟨[.val false (.one (.sl mz)) false,.val true mz false],[.val false (.one (.sl mz)) (some true)],λa=>cH a.1 a.2⟩)::fA
theorem js:Gd fB:=m7 jr 164 Tryz.f164 [(0,⟨⟨(5,false,[.own 1000000000])::(6,false,[dB])::(7,false,[dI])::us 18 10 (us 42 8 []),[(1000000000,.root mz true)]⟩,
 ⟨[(5,false,[.own 1000000300]),(6,false,[dB])],[(1000000300,.root mz true)]⟩,none⟩)] Tryz.func164
def cI (l0:List m0) (tag1:Int) (mac2:Int) (port3:Int):Option (List m0) :=
 (bI l0 tag1 mac2).bind λt18 =>
 (bw l0).bind λt20 =>
 (cond (!t20)
 (some true)
 ((bv (tag1,mac2,port3,0,false)).bind λt24 =>
 some (!t24))).bind λt26 =>
 (cond t26
 (some true)
 ((cond (decide (t18>=0))
 ((at? l0 t18).bind λx33 =>
 some x33.2.2.2.2)
 (some false)).bind λt36 =>
 some t36)).bind λt37 =>
 (cond t37
 (some true)
 ((cond (decide (t18<0)) (some (decide ((l0.length:Int)>=12))) (some false)).bind λt45 =>
 some t45)).bind λt46 =>
 cond t46
 ((bC l0).bind λt48 =>
 some t48)
 ((cH l0 (tag1,mac2,port3,0,false)).bind λt51 =>
 some t51)
def fC:FL:=(108,⟨[.val false (.one (.sl mz)) false,.val false lY false,.val false lY false,.val false lY false],[.val false (.one (.sl mz)) (some true)],λa=>cI a.1 a.2.1 a.2.2.1 a.2.2.2⟩)::fB
theorem jt:Gd fC:=m7 js 108 Tryz.f108 [] Tryz.func108
def dL (v0:mV) (id1:Int):Option Int :=
 (aB v0 id1).bind λt8 =>
 cond (decide (t8<0))
 (some 0)
 ((at? v0.1 t8).bind λx14 =>
 some x14.2.1)
def fD:FL:=(109,⟨[.val true og false,.val false lY false],[.val false lY (some true)],λa=>dL a.1 a.2⟩)::fC
theorem ju:Gd fD:=m7 jt 109 Tryz.f109 [] Tryz.func109
def cJ (l0:List m0) (tag1:Int) (mac2:Int):Option Int :=
 (bI l0 tag1 mac2).bind λt11 =>
 cond (decide (t11<0))
 (some (-1))
 ((at? l0 t11).bind λx16 =>
 some x16.2.2.1)
def fE:FL:=(110,⟨[.val false (.one (.sl mz)) false,.val false lY false,.val false lY false],[.val false lY (some true)],λa=>cJ a.1 a.2.1 a.2.2⟩)::fD
theorem jv:Gd fE:=m7 ju 110 Tryz.f110 [] Tryz.func110
def dM (f0:mO):Option mO :=
 (nn ([]:List Int) f0.2.2.2).bind λzs8 =>
 some (f0.1,f0.2.1,f0.2.2.1,zs8)
def fF:FL:=(190,⟨[.val true mZ false],[.val true mZ (some true)],λa=>dM a⟩)::fE
theorem jw:Gd fF:=m7 jv 190 Tryz.f190 [] Tryz.func190
def cK (f0:mO) (tag1:Int):Option mO :=
 (dM f0).bind λt7 =>
 some (t7.1,t7.2.1,tag1,t7.2.2.2)
def fG:FL:=(165,⟨[.val true mZ false,.val false lY false],[.val true mZ (some true)],λa=>cK a.1 a.2⟩)::fF
theorem jx:Gd fG:=m7 jw 165 Tryz.f165 [] Tryz.func165
def cL (v0:mV) (id1:Int) (port2:Int):Option Int :=
 (aB v0 id1).bind λt10 =>
 (cond (decide (t10<0))
 (some true)
 ((at? v0.1 t10).bind λx17 =>
 (ac x17.2.2 port2).bind λt21 =>
 some t21)).bind λt22 =>
 cond t22 (some 0) (some id1)
def fH:FL:=(166,⟨[.val true og false,.val false lY false,.val false lY false],[.val false lY (some true)],λa=>cL a.1 a.2.1 a.2.2⟩)::fG
theorem jy:Gd fH:=m7 jx 166 Tryz.f166 [] Tryz.func166
def aY (b0:lS) (tag1:Int) (bits2:Int) (f3:mO) (i10:Int) (out9:List ne):Option ((Int×List ne)⊕(List ne)) :=
 cond (decide (i10<(b0.2.2.1.length:Int)))
 ((ac bits2 i10).bind λt21 =>
 cond t21
 ((cL (b0.2.2.2.2.1,b0.2.2.2.2.2.1) tag1 i10).bind λt29 =>
 (cK f3 t29).bind λt30 =>
 (nn out9 [(i10,t30.1,t30.2.1,t30.2.2.1,t30.2.2.2)]).bind λzs33 =>
 some (.inl (lT (i10+1),zs33)))
 (some (.inl (lT (i10+1),out9))))
 (some (.inr out9))
def aF (b0:lS) (tag1:Int) (bits2:Int) (f3:mO):Option (List ne) :=
 (loop (λz=>aY b0 tag1 bits2 f3 z.1 z.2) (0,([]:List ne))).bind λd =>
 some d
def fJ:FL:=(111,⟨[.val true mb false,.val false lY false,.val false lY false,.val true mZ false],[.val false (.one (.sl sS)) (some true)],λa=>aF a.1 a.2.1 a.2.2.1 a.2.2.2⟩)::fH
theorem jz:Gd fJ:=m7 jy 111 Tryz.f111 [(0,⟨⟨[(9,false,[.own 1000000000]),(10,false,[dI])],[(1000000000,.root sS true)]⟩,
 ⟨[(9,false,[.own 1000000300])],[(1000000300,.root sS true)]⟩,none⟩)] Tryz.func111
def aZ (p0:lS) (i1:Int) (a2:mO):Option (lS×List ne) :=
 (bD p0).bind λt16 =>
 (cB p0 i1).bind λt20 =>
 (cond (!t20)
 (some true)
 ((dH a2).bind λt24 =>
 some (!t24))).bind λt26 =>
 cond t26
 (some (t16,([]:List ne)))
 ((bH p0.1 p0.2.2.1).bind λt33 =>
 (cG (p0.2.2.2.2.1,p0.2.2.2.2.2.1) i1 a2.2.2.1).bind λt40 =>
 (ac t33 i1).bind λt45 =>
 (cond (!t45) (some true) (some (!t40.2))).bind λt50 =>
 cond t50
 ((aC p0.2.2.2.2.2.2.2.2.2.1).bind λt53 =>
 some ((t16.1,t16.2.1,t16.2.2.1,t16.2.2.2.1,t16.2.2.2.2.1,t16.2.2.2.2.2.1,t16.2.2.2.2.2.2.1,t16.2.2.2.2.2.2.2.1,t16.2.2.2.2.2.2.2.2.1,t53,t16.2.2.2.2.2.2.2.2.2.2),([]:List ne)))
 ((cI p0.2.2.2.1 t40.1 a2.2.1 i1).bind λt63 =>
 (aC p0.2.2.2.2.2.2.2.2.2.2).bind λt67 =>
 (dL (p0.2.2.2.2.1,p0.2.2.2.2.2.1) t40.1).bind λt73 =>
 (shl .i64 1 (IntKind.u64.wrap (i1))).bind λt77 =>
 let t13:=rn .i64 (ox .i64 t33 t73) t77
 cond (a2.1 != 0)
 ((cJ t63 t40.1 a2.1).bind λt87 =>
 cond (decide (t87>=0))
 ((shl .i64 1 (IntKind.u64.wrap (t87))).bind λt93 =>
 (aF p0 t40.1 (ox .i64 t13 t93) a2).bind λt100 =>
 some ((t16.1,t16.2.1,t16.2.2.1,t63,t16.2.2.2.2.1,t16.2.2.2.2.2.1,t16.2.2.2.2.2.2.1,t16.2.2.2.2.2.2.2.1,t16.2.2.2.2.2.2.2.2.1,t16.2.2.2.2.2.2.2.2.2.1,t67),t100))
 ((aF p0 t40.1 t13 a2).bind λt100_1 =>
 some ((t16.1,t16.2.1,t16.2.2.1,t63,t16.2.2.2.2.1,t16.2.2.2.2.2.1,t16.2.2.2.2.2.2.1,t16.2.2.2.2.2.2.2.1,t16.2.2.2.2.2.2.2.2.1,t16.2.2.2.2.2.2.2.2.2.1,t67),t100_1)))
 ((aF p0 t40.1 t13 a2).bind λt100_2 =>
 some ((t16.1,t16.2.1,t16.2.2.1,t63,t16.2.2.2.2.1,t16.2.2.2.2.2.1,t16.2.2.2.2.2.2.1,t16.2.2.2.2.2.2.2.1,t16.2.2.2.2.2.2.2.2.1,t16.2.2.2.2.2.2.2.2.2.1,t67),t100_2))))
def fK:FL:=(53,⟨[.val true mb false,.val false lY false,.val true mZ false],[.val true mb (some true),.val false (.one (.sl sS)) (some true)],λa=>aZ a.1 a.2.1 a.2.2⟩)::fJ
theorem jA:Gd fK:=m7 jz 53 Tryz.f53 [] Tryz.func53
def bJ (n0:mi) (b1:Int) (p2:Int):Option Bool :=
 (at? n0.1 b1).bind λx10 =>
 (at? n0.1 b1).bind λx16 =>
 (bH x10.1 x16.2.2.1).bind λt19 =>
 (ac t19 p2).bind λt21 =>
 some t21
def fL:FL:=(54,⟨[.val true np false,.val false lY false,.val false lY false],[.val false mS (some true)],λa=>bJ a.1 a.2.1 a.2.2⟩)::fK
theorem jB:Gd fL:=m7 jA 54 Tryz.f54 [] Tryz.func54
def jC (n0:mi) (b1:Int) (p2:Int) (i9:Int):Option (Int⊕(Unit⊕(Int×Int×Bool))) :=
 cond (decide (i9<(n0.2.1.length:Int)))
 ((at? n0.2.1 i9).bind λx21 =>
 (cond (x21.1==b1) (some (x21.2.1==p2)) (some false)).bind λt32 =>
 cond t32
 (some (.inr (.inr (x21.2.2.1,x21.2.2.2,true))))
 ((cond (x21.2.2.1==b1) (some (x21.2.2.2==p2)) (some false)).bind λt46 =>
 cond t46
 (some (.inr (.inr (x21.1,x21.2.1,true))))
 (some (.inl (lT (i9+1))))))
 (some (.inr (.inl ())))
def dN (n0:mi) (b1:Int) (p2:Int):Option (Int×Int×Bool) :=
 (loop (λz=>jC n0 b1 p2 z) 0).bind (Sum.elim (λd =>
 some ((-1),(-1),false)) (λr=>some r))
def fM:FL:=(112,⟨[.val true np false,.val false lY false,.val false lY false],[.val false lY (some true),.val false lY (some true),.val false mS (some true)],λa=>dN a.1 a.2.1 a.2.2⟩)::fL
theorem jD:Gd fM:=m7 jB 112 Tryz.f112 [(0,⟨⟨(9,false,[dI])::us 28 4 (us 42 4 []),[]⟩,
 ⟨[],[]⟩,some ⟨[(6,false,[dI]),(7,false,[dI]),(8,false,[dB])],[]⟩⟩)] Tryz.func112
def bK (n0:mi) (b1:Int) (p2:Int):Option Bool :=
 (a6 b1 0 (lT ((n0.1.length:Int)-1))).bind λt12 =>
 (cond t12
 ((at? n0.1 b1).bind λx18 =>
 (a6 p2 0 (lT ((x18.2.2.1.length:Int)-1))).bind λt23 =>
 some t23)
 (some false)).bind λt24 =>
 (cond t24
 ((at? n0.1 b1).bind λx29 =>
 (at? x29.2.2.1 p2).bind λx33 =>
 some x33.1)
 (some false)).bind λt36 =>
 some t36
def fN:FL:=(113,⟨[.val true np false,.val false lY false,.val false lY false],[.val false mS (some true)],λa=>bK a.1 a.2.1 a.2.2⟩)::fM
theorem jE:Gd fN:=m7 jD 113 Tryz.f113 [] Tryz.func113
def aG (p0:uy) (i1:Int) (a2:List ne) (t6:Int) (b6:Int) (b3:List mJ) (b4:List mJ):Option ((Int×Int×List mJ×List mJ)⊕(Int×List mJ×List mJ)) :=
 cond (decide (t6<(a2.length:Int)))
 ((at? a2 t6).bind λx24 =>
 (dN (p0.1,p0.2.1,p0.2.2.1) i1 x24.1).bind λt27 =>
 cond (!t27.2.2)
 ((at? a2 t6).bind λx42 =>
 (at? a2 t6).bind λx47 =>
 (nn b4 [(i1,x42.1,x47.2.1,x47.2.2.1,x47.2.2.2.1,x47.2.2.2.2)]).bind λzs52 =>
 some (.inl (lT (t6+1),b6,b3,zs52)))
 ((bK (p0.1,p0.2.1,p0.2.2.1) t27.1 t27.2.1).bind λt62 =>
 cond t62
 ((at? a2 t6).bind λx72 =>
 (nn b3 [(t27.1,t27.2.1,x72.2.1,x72.2.2.1,x72.2.2.2.1,x72.2.2.2.2)]).bind λzs77 =>
 some (.inl (lT (t6+1),b6,zs77,b4)))
 (some (.inl (lT (t6+1),b6,b3,b4)))))
 (some (.inr (b6,b3,b4)))
def bL (p0:uy) (i1:Int) (a2:List ne):Option uy :=
 (loop (λz=>aG p0 i1 a2 z.1 z.2.1 z.2.2.1 z.2.2.2) (0,p0.2.2.2.2.2.2,p0.2.2.2.1,p0.2.2.2.2.1)).bind λd =>
 some (p0.1,p0.2.1,p0.2.2.1,d.2.1,d.2.2,p0.2.2.2.2.2.1,d.1)
def fO:FL:=(55,⟨[.ptr vb (some false),.val false lY false,.val false (.one (.sl sS)) false],[],λa=>bL a.1 a.2.1 a.2.2⟩)::fN
theorem jF:Gd fO:=m7 jE 55 Tryz.f55 [(0,⟨⟨[(6,false,[dI])],[(1,.box [.same 2,.same 3,.same 4,.own 1000000000,.own 1000000001,.same 7,dI]),(1000000000,.root mU false),(1000000001,.root mU false)]⟩,
 ⟨[],[(1,.box [.same 2,.same 3,.same 4,.own 1000000300,.own 1000000301,.same 7,dI]),(1000000300,.root mU false),(1000000301,.root mU false)]⟩,none⟩)] Tryz.func55
def ak (b6:Int) (b0:List lS) (b1:List my) (b2:List nX) (b3:List mJ) (b4:List mJ) (b5:List Int):Option ((Int×List lS×List my×List nX×List mJ×List mJ×List Int)⊕(Int×List lS×List my×List nX×List mJ×List mJ×List Int)) :=
 (cond (decide ((b3.length:Int)>0)) (some (decide (b6<60))) (some false)).bind λt65 =>
 cond t65
 ((ix b3.length 0).bind λj70 =>
 (b3[j70]?).bind λx71 =>
 (uG b3.length 1 (b3.length:Int)).bind λp =>
 (ix b0.length x71.1).bind λj88 =>
 (b0[j88]?).bind λx89 =>
 (aZ x89 x71.2.1 x71.2.2).bind λt94 =>
 (ix b0.length x71.1).bind λj105 =>
 (b0[j105]?).bind λx =>
 (bJ (b0.set j105 t94.1,b1,b2) x71.1 x71.2.1).bind λt114 =>
 cond t114
 ((nn b5 [x71.1]).bind λzs123 =>
 (bL (b0.set j105 t94.1,b1,b2,(b3.take p.2).drop p.1,b4,zs123,lT (b6+1)) x71.1 t94.2).bind λt137 =>
 some (.inl (t137.2.2.2.2.2.2,t137.1,t137.2.1,t137.2.2.1,t137.2.2.2.1,t137.2.2.2.2.1,t137.2.2.2.2.2.1)))
 ((bL (b0.set j105 t94.1,b1,b2,(b3.take p.2).drop p.1,b4,b5,lT (b6+1)) x71.1 t94.2).bind λt137_1 =>
 some (.inl (t137_1.2.2.2.2.2.2,t137_1.1,t137_1.2.1,t137_1.2.2.1,t137_1.2.2.2.1,t137_1.2.2.2.2.1,t137_1.2.2.2.2.2.1))))
 (some (.inr (b6,b0,b1,b2,b3,b4,b5)))
def dO (p0:mi) (i1:Int) (a2:Int) (a3:mO):Option uy :=
 (cA p0).bind λt14 =>
 (cw p0).bind λt20 =>
 (cond (!t20)
 (some true)
 ((a6 i1 0 (lT ((p0.1.length:Int)-1))).bind λt28 =>
 some (!t28))).bind λt30 =>
 (cond t30
 (some true)
 ((at? p0.1 i1).bind λx36 =>
 (a6 a2 0 (lT ((x36.2.2.1.length:Int)-1))).bind λt41 =>
 some (!t41))).bind λt43 =>
 cond t43
 (some (t14.1,t14.2.1,t14.2.2,[],([]:List mJ),([]:List Int),0))
 ((loop (λz=>ak z.1 z.2.1 z.2.2.1 z.2.2.2.1 z.2.2.2.2.1 z.2.2.2.2.2.1 z.2.2.2.2.2.2) (0,t14.1,t14.2.1,t14.2.2,[(i1,a2,a3.1,a3.2.1,a3.2.2.1,a3.2.2.2)],([]:List mJ),([]:List Int))).bind λd =>
 some (d.2.1,d.2.2.1,d.2.2.2.1,d.2.2.2.2.1,d.2.2.2.2.2.1,d.2.2.2.2.2.2,d.1))
def fP:FL:=(24,⟨[.val true np false,.val false lY false,.val false lY false,.val true mZ false],[.ptr vb (some false)],λa=>dO a.1 a.2.1 a.2.2.1 a.2.2.2⟩)::fO
theorem jG:Gd fP:=m7 jF 24 Tryz.f24 [(0,⟨⟨us 60 5 [],[(268288,.box [.own 1000000000,.own 1000000001,.own 1000000002,.own 1000000003,.own 1000000004,.own 1000000005,dI]),(1000000000,.root mb false),(1000000001,.root nP false),(1000000002,.root oE false),(1000000003,.root mU false),(1000000004,.root mU false),(1000000005,.root lY false)]⟩,
 ⟨[],[(268288,.box [.own 1000000300,.own 1000000301,.own 1000000302,.own 1000000303,.own 1000000304,.own 1000000305,dI]),(1000000300,.root mb false),(1000000301,.root nP false),(1000000302,.root oE false),(1000000303,.root mU false),(1000000304,.root mU false),(1000000305,.root lY false)]⟩,none⟩)] Tryz.func24
def cM (n0:mi) (b1:Int) (p2:Int) (f3:mO):Option (List Int) :=
 (dO n0 b1 p2 f3).bind λt13 =>
 some t13.2.2.2.2.2.1
def fQ:FL:=(7,⟨[.val true np false,.val false lY false,.val false lY false,.val true mZ false],[.val false sR none],λa=>cM a.1 a.2.1 a.2.2.1 a.2.2.2⟩)::fP
theorem jH:Gd fQ:=m7 jG 7 Tryz.f7 [] Tryz.func7
def dP (a0:qk):Option qk :=
 some a0
def fR:FL:=(117,⟨[.val true pu false],[.val true pu (some true)],λa=>dP a⟩)::fQ
theorem jI:Gd fR:=m7 jH 117 Tryz.f117 [] Tryz.func117
def dQ (a0:Pt):Option Pt :=
 (dP a0.2.2.2).bind λt15 =>
 some (a0.1,a0.2.1,a0.2.2.1,t15.1,t15.2.1,t15.2.2.1,t15.2.2.2.1,t15.2.2.2.2)
def fS:FL:=(167,⟨[.val true oM false],[.val true oM (some true)],λa=>dQ a⟩)::fR
theorem jJ:Gd fS:=m7 jI 167 Tryz.f167 [] Tryz.func167
def jK (a0:List Pt) (i4:Int) (l:List Pt):Option ((Int×List Pt)⊕(List Pt)) :=
 cond (decide (i4<(a0.length:Int)))
 ((at? a0 i4).bind λx18 =>
 (dQ x18).bind λt20 =>
 (ix l.length i4).bind λj21 =>
 (l[j21]?).bind λx =>
 some (.inl (lT (i4+1),l.set j21 t20)))
 (some (.inr l))
def dR (a0:List Pt):Option (List Pt) :=
 (pZ (a0.length:Int)).bind λn =>
 (loop (λz=>jK a0 z.1 z.2) (0,List.replicate n ((false,0,false,0,0,0,0,0):Pt))).bind λd =>
 some d
def fT:FL:=(114,⟨[.val false (.one (.sl oM)) false],[.val false (.one (.sl oM)) (some true)],λa=>dR a⟩)::fS
theorem jL:Gd fT:=m7 jJ 114 Tryz.f114 [(0,⟨⟨[(4,false,[dI])],[(265216,.keep oM true)]⟩,
 ⟨[],[(265216,.keep oM true)]⟩,none⟩)] Tryz.func114
def dU (a0:m0):Option m0 :=
 some a0
def fU:FL:=(168,⟨[.val true mz false],[.val true mz (some true)],λa=>dU a⟩)::fT
theorem jM:Gd fU:=m7 jL 168 Tryz.f168 [] Tryz.func168
def jN (a0:List m0) (i4:Int) (l:List m0):Option ((Int×List m0)⊕(List m0)) :=
 cond (decide (i4<(a0.length:Int)))
 ((at? a0 i4).bind λx18 =>
 (dU x18).bind λt20 =>
 (ix l.length i4).bind λj21 =>
 (l[j21]?).bind λx =>
 some (.inl (lT (i4+1),l.set j21 t20)))
 (some (.inr l))
def dV (a0:List m0):Option (List m0) :=
 (pZ (a0.length:Int)).bind λn =>
 (loop (λz=>jN a0 z.1 z.2) (0,List.replicate n ((0,0,0,0,false):m0))).bind λd =>
 some d
def fV:FL:=(115,⟨[.val false (.one (.sl mz)) false],[.val false (.one (.sl mz)) (some true)],λa=>dV a⟩)::fU
theorem jO:Gd fV:=m7 jM 115 Tryz.f115 [(0,⟨⟨[(4,false,[dI])],[(265216,.keep mz true)]⟩,
 ⟨[],[(265216,.keep mz true)]⟩,none⟩)] Tryz.func115
def dW (a0:nC):Option nC :=
 some a0
def fW:FL:=(191,⟨[.val true oe false],[.val true oe (some true)],λa=>dW a⟩)::fV
theorem jP:Gd fW:=m7 jO 191 Tryz.f191 [] Tryz.func191
def jQ (a0:List nC) (i4:Int) (l:List nC):Option ((Int×List nC)⊕(List nC)) :=
 cond (decide (i4<(a0.length:Int)))
 ((at? a0 i4).bind λx18 =>
 (dW x18).bind λt20 =>
 (ix l.length i4).bind λj21 =>
 (l[j21]?).bind λx =>
 some (.inl (lT (i4+1),l.set j21 t20)))
 (some (.inr l))
def dX (a0:List nC):Option (List nC) :=
 (pZ (a0.length:Int)).bind λn =>
 (loop (λz=>jQ a0 z.1 z.2) (0,List.replicate n ((0,0,0):nC))).bind λd =>
 some d
def fX:FL:=(169,⟨[.val false (.one (.sl oe)) false],[.val false (.one (.sl oe)) (some true)],λa=>dX a⟩)::fW
theorem jR:Gd fX:=m7 jP 169 Tryz.f169 [(0,⟨⟨[(4,false,[dI])],[(265216,.keep oe true)]⟩,
 ⟨[],[(265216,.keep oe true)]⟩,none⟩)] Tryz.func169
def jS (a0:List Int) (i4:Int) (l:List Int):Option ((Int×List Int)⊕(List Int)) :=
 cond (decide (i4<(a0.length:Int)))
 ((at? a0 i4).bind λx18 =>
 (ix l.length i4).bind λj20 =>
 (l[j20]?).bind λx =>
 some (.inl (lT (i4+1),l.set j20 x18)))
 (some (.inr l))
def dY (a0:List Int):Option (List Int) :=
 (pZ (a0.length:Int)).bind λn =>
 (loop (λz=>jS a0 z.1 z.2) (0,List.replicate n (0:Int))).bind λd =>
 some d
def fY:FL:=(170,⟨[.val false sR false],[.val false sR (some true)],λa=>dY a⟩)::fX
theorem jT:Gd fY:=m7 jR 170 Tryz.f170 [(0,⟨⟨[(4,false,[dI])],[(265216,.keep lY true)]⟩,
 ⟨[],[(265216,.keep lY true)]⟩,none⟩)] Tryz.func170
def cN (a0:mV):Option mV :=
 (dX a0.1).bind λt6 =>
 (dY a0.2).bind λt10 =>
 some (t6,t10)
def fZ:FL:=(116,⟨[.val true og false],[.val true og (some true)],λa=>cN a⟩)::fY
theorem jU:Gd fZ:=m7 jT 116 Tryz.f116 [] Tryz.func116
def bM (a0:lS):Option lS :=
 (dR a0.2.2.1).bind λt12 =>
 (dV a0.2.2.2.1).bind λt16 =>
 (cN (a0.2.2.2.2.1,a0.2.2.2.2.2.1)).bind λt20 =>
 some (a0.1,a0.2.1,t12,t16,t20.1,t20.2,a0.2.2.2.2.2.2.1,a0.2.2.2.2.2.2.2.1,a0.2.2.2.2.2.2.2.2.1,a0.2.2.2.2.2.2.2.2.2.1,a0.2.2.2.2.2.2.2.2.2.2)
def ga:FL:=(56,⟨[.val true mb false],[.val true mb (some true)],λa=>bM a⟩)::fZ
theorem jV:Gd ga:=m7 jU 56 Tryz.f56 [] Tryz.func56
def jW (a0:List lS) (i4:Int) (l:List lS):Option ((Int×List lS)⊕(List lS)) :=
 cond (decide (i4<(a0.length:Int)))
 ((at? a0 i4).bind λx18 =>
 (bM x18).bind λt20 =>
 (ix l.length i4).bind λj21 =>
 (l[j21]?).bind λx =>
 some (.inl (lT (i4+1),l.set j21 t20)))
 (some (.inr l))
def dZ (a0:List lS):Option (List lS) :=
 (pZ (a0.length:Int)).bind λn =>
 (loop (λz=>jW a0 z.1 z.2) (0,List.replicate n ((0,[],[],[],[],[],0,0,0,0,0):lS))).bind λd =>
 some d
def gb:FL:=(25,⟨[.val false (.one (.sl mb)) false],[.val false (.one (.sl mb)) (some true)],λa=>dZ a⟩)::ga
theorem jX:Gd gb:=m7 jV 25 Tryz.f25 [(0,⟨⟨[(4,false,[dI])],[(265216,.keep mb true)]⟩,
 ⟨[],[(265216,.keep mb true)]⟩,none⟩)] Tryz.func25
def ea (a0:my):Option my :=
 some a0
def gd:FL:=(57,⟨[.val true nP false],[.val true nP (some true)],λa=>ea a⟩)::gb
theorem jY:Gd gd:=m7 jX 57 Tryz.f57 [] Tryz.func57
def jZ (a0:List my) (i4:Int) (l:List my):Option ((Int×List my)⊕(List my)) :=
 cond (decide (i4<(a0.length:Int)))
 ((at? a0 i4).bind λx18 =>
 (ea x18).bind λt20 =>
 (ix l.length i4).bind λj21 =>
 (l[j21]?).bind λx =>
 some (.inl (lT (i4+1),l.set j21 t20)))
 (some (.inr l))
def ed (a0:List my):Option (List my) :=
 (pZ (a0.length:Int)).bind λn =>
 (loop (λz=>jZ a0 z.1 z.2) (0,List.replicate n ((0,0,0,0):my))).bind λd =>
 some d
def ge:FL:=(26,⟨[.val false (.one (.sl nP)) false],[.val false (.one (.sl nP)) (some true)],λa=>ed a⟩)::gd
theorem kc:Gd ge:=m7 jY 26 Tryz.f26 [(0,⟨⟨[(4,false,[dI])],[(265216,.keep nP true)]⟩,
 ⟨[],[(265216,.keep nP true)]⟩,none⟩)] Tryz.func26
def ee (a0:nX):Option nX :=
 (dP a0.2.2).bind λt12 =>
 some (a0.1,a0.2.1,t12.1,t12.2.1,t12.2.2.1,t12.2.2.2.1,t12.2.2.2.2)
def gg:FL:=(58,⟨[.val true oE false],[.val true oE (some true)],λa=>ee a⟩)::ge
theorem kd:Gd gg:=m7 kc 58 Tryz.f58 [] Tryz.func58
def ke (a0:List nX) (i4:Int) (l:List nX):Option ((Int×List nX)⊕(List nX)) :=
 cond (decide (i4<(a0.length:Int)))
 ((at? a0 i4).bind λx18 =>
 (ee x18).bind λt20 =>
 (ix l.length i4).bind λj21 =>
 (l[j21]?).bind λx =>
 some (.inl (lT (i4+1),l.set j21 t20)))
 (some (.inr l))
def ef (a0:List nX):Option (List nX) :=
 (pZ (a0.length:Int)).bind λn =>
 (loop (λz=>ke a0 z.1 z.2) (0,List.replicate n ((0,false,0,0,0,0,0):nX))).bind λd =>
 some d
def gh:FL:=(27,⟨[.val false (.one (.sl oE)) false],[.val false (.one (.sl oE)) (some true)],λa=>ef a⟩)::gg
theorem kf:Gd gh:=m7 kd 27 Tryz.f27 [(0,⟨⟨[(4,false,[dI])],[(265216,.keep oE true)]⟩,
 ⟨[],[(265216,.keep oE true)]⟩,none⟩)] Tryz.func27
def aH (a0:mi):Option mi :=
 (dZ a0.1).bind λt6 =>
 (ed a0.2.1).bind λt10 =>
 (ef a0.2.2).bind λt14 =>
 some (t6,t10,t14)
def gi:FL:=(8,⟨[.val true np false],[.val true np (some true)],λa=>aH a⟩)::gh
theorem kg:Gd gi:=m7 kf 8 Tryz.f8 [] Tryz.func8
def kh (a0:List Int) (i4:Int) (l:List Int):Option ((Int×List Int)⊕(List Int)) :=
 cond (decide (i4<(a0.length:Int)))
 ((at? a0 i4).bind λx18 =>
 (ix l.length i4).bind λj20 =>
 (l[j20]?).bind λx =>
 some (.inl (lT (i4+1),l.set j20 x18)))
 (some (.inr l))
def eg (a0:List Int):Option (List Int) :=
 (pZ (a0.length:Int)).bind λn =>
 (loop (λz=>kh a0 z.1 z.2) (0,List.replicate n (0:Int))).bind λd =>
 some d
def gj:FL:=(28,⟨[.val false ux false],[.val false ux (some true)],λa=>eg a⟩)::gi
theorem ki:Gd gj:=m7 kg 28 Tryz.f28 [(0,⟨⟨[(4,false,[dI])],[(265216,.keep (.one (.int .u8)) true)]⟩,
 ⟨[],[(265216,.keep (.one (.int .u8)) true)]⟩,none⟩)] Tryz.func28
def aI (a0:mO):Option mO :=
 (eg a0.2.2.2).bind λt15 =>
 some (a0.1,a0.2.1,a0.2.2.1,t15)
def gk:FL:=(9,⟨[.val true mZ false],[.val true mZ (some true)],λa=>aI a⟩)::gj
theorem kj:Gd gk:=m7 ki 9 Tryz.f9 [] Tryz.func9
def a7 (n0:Int) (low1:Int) (high2:Int):Option Bool :=
 (cond (decide (n0>=low1)) (some (decide (n0<=high2))) (some false)).bind λt14 =>
 some t14
def gl:FL:=(83,⟨[.val false lY false,.val false lY false,.val false lY false],[.val false mS (some true)],λa=>a7 a.1 a.2.1 a.2.2⟩)::gk
theorem kk:Gd gl:=m7 kj 83 Tryz.f83 [] Tryz.func83
def ar (v0:qk):Option Bool :=
 (a7 v0.1 1 99).bind λt5 =>
 (cond t5
 ((a7 v0.2.1 0 100000).bind λt9 =>
 some t9)
 (some false)).bind λt10 =>
 (cond t10
 ((a7 v0.2.2.1 0 10).bind λt14 =>
 some t14)
 (some false)).bind λt15 =>
 (cond t15
 ((a7 v0.2.2.2.1 1 99).bind λt19 =>
 some t19)
 (some false)).bind λt20 =>
 (cond t20
 ((a7 v0.2.2.2.2 0 7).bind λt24 =>
 some t24)
 (some false)).bind λt25 =>
 some t25
def gm:FL:=(86,⟨[.val true pu false],[.val false mS (some true)],λa=>ar a⟩)::gl
theorem kl:Gd gm:=m7 kk 86 Tryz.f86 [] Tryz.func86
def bN (p0:Pt):Option Bool :=
 (a7 p0.2.1 1 1000).bind λt5 =>
 (cond (!t5)
 (some true)
 ((cond p0.2.2.1 (some (!p0.1)) (some false)).bind λt14 =>
 some t14)).bind λt15 =>
 cond t15
 (some false)
 (cond p0.2.2.1
 ((ar p0.2.2.2).bind λt20 =>
 some t20)
 (let t2:=p0.2.2.2.1==0&&(p0.2.2.2.2.1==0&&(p0.2.2.2.2.2.1==0&&(p0.2.2.2.2.2.2.1==0&&(p0.2.2.2.2.2.2.2==0))))
 some t2))
def gn:FL:=(145,⟨[.val true oM false],[.val false mS (some true)],λa=>bN a⟩)::gm
theorem ko:Gd gn:=m7 kl 145 Tryz.f145 [] Tryz.func145
def aJ (e0:m0):Option Bool :=
 (a7 e0.1 1 99).bind λt5 =>
 (cond t5
 ((a7 e0.2.1 1 9999).bind λt9 =>
 some t9)
 (some false)).bind λt10 =>
 (cond t10
 ((a7 e0.2.2.1 0 7).bind λt14 =>
 some t14)
 (some false)).bind λt15 =>
 (cond t15
 ((a7 e0.2.2.2.1 0 4).bind λt19 =>
 some t19)
 (some false)).bind λt20 =>
 (cond t20
 ((cond (!e0.2.2.2.2) (some true) (some (e0.2.2.2.1==0))).bind λt29 =>
 some t29)
 (some false)).bind λt30 =>
 some t30
def gp:FL:=(173,⟨[.val true mz false],[.val false mS (some true)],λa=>aJ a⟩)::gn
theorem kq:Gd gp:=m7 ko 173 Tryz.f173 [] Tryz.func173
def b7 (e0:m0) (tag1:Int) (mac2:Int):Option Bool :=
 (cond (decide (e0.1>tag1))
 (some true)
 ((cond (e0.1==tag1) (some (decide (e0.2.1>mac2))) (some false)).bind λt21 =>
 some t21)).bind λt22 =>
 some t22
def gq:FL:=(184,⟨[.val true mz false,.val false lY false,.val false lY false],[.val false mS (some true)],λa=>b7 a.1 a.2.1 a.2.2⟩)::gp
theorem kr:Gd gq:=m7 kq 184 Tryz.f184 [] Tryz.func184
def eh (l0:List m0) (t7:Int):Option (Int⊕(Unit⊕Bool)) :=
 cond (decide (t7<(l0.length:Int)))
 ((at? l0 t7).bind λx10 =>
 (aJ x10).bind λt13 =>
 (cond (!t13)
 (some true)
 ((cond (decide (t7>0))
 ((at? l0 (lT (t7-1))).bind λx23 =>
 (at? l0 (lT (t7-1))).bind λx29 =>
 (b7 x10 x23.1 x29.2.1).bind λt32 =>
 some (!t32))
 (some false)).bind λt34 =>
 some t34)).bind λt35 =>
 cond t35 (some (.inr (.inr false))) (some (.inl (lT (t7+1)))))
 (some (.inr (.inl ())))
def bO (l0:List m0):Option Bool :=
 (loop (λz=>eh l0 z) 0).bind (Sum.elim (λd =>
 let t2:=decide ((l0.length:Int)<=12)
 some t2) (λr=>some r))
def gt:FL:=(146,⟨[.val false (.one (.sl mz)) false],[.val false mS (some true)],λa=>bO a⟩)::gq
theorem kt:Gd gt:=m7 kr 146 Tryz.f146 [(0,⟨⟨(7,false,[dI])::us 16 19 [],[]⟩,
 ⟨[],[]⟩,some ⟨[(2,false,[dB])],[]⟩⟩)] Tryz.func146
def aK (v0:mV) (id1:Int) (t10:Int):Option (Int⊕(Unit⊕Int)) :=
 cond (decide (t10<(v0.1.length:Int)))
 ((at? v0.1 t10).bind λx13 =>
 cond (x13.1==id1) (some (.inr (.inr t10))) (some (.inl (lT (t10+1)))))
 (some (.inr (.inl ())))
def aa (v0:mV) (id1:Int):Option Int :=
 (loop (λz=>aK v0 id1 z) 0).bind (Sum.elim (λd =>
 some (-1)) (λr=>some r))
def gu:FL:=(171,⟨[.val true og false,.val false lY false],[.val false lY (some true)],λa=>aa a.1 a.2⟩)::gt
theorem ku:Gd gu:=m7 kt 171 Tryz.f171 [(0,⟨⟨[(10,false,[dI])],[]⟩,
 ⟨[],[]⟩,some ⟨[(4,false,[dI])],[]⟩⟩)] Tryz.func171
def cO (ports0:Int):Option Int :=
 (shl .i64 1 ports0).bind λt4 =>
 some (lT (t4-1))
def gv:FL:=(185,⟨[.val false lY false],[.val false lY (some true)],λa=>cO a⟩)::gu
theorem kv:Gd gv:=m7 ku 185 Tryz.f185 [] Tryz.func185
def ej (p0:mV) (i1:Int) (t28:Int):Option (Int⊕(Unit⊕Bool)) :=
 cond (decide (t28<(p0.1.length:Int)))
 ((at? p0.1 t28).bind λx31 =>
 (a7 x31.1 1 99).bind λt35 =>
 (cond (!t35)
 (some true)
 ((cond (decide (t28>0))
 ((at? p0.1 (lT (t28-1))).bind λx45 =>
 some (decide (x45.1>=x31.1)))
 (some false)).bind λt51 =>
 some t51)).bind λt52 =>
 (cond t52
 (some true)
 ((cO i1).bind λt57 =>
 (a7 x31.2.1 0 t57).bind λt58 =>
 some (!t58))).bind λt60 =>
 (cond t60 (some true) (some ((rn .i64 x31.2.2 x31.2.1) != 0))).bind λt68 =>
 cond t68 (some (.inr (.inr false))) (some (.inl (lT (t28+1)))))
 (some (.inr (.inl ())))
def cP (p0:mV) (t73:Int):Option (Int⊕(Unit⊕Bool)) :=
 cond (decide (t73<(p0.2.length:Int)))
 ((at? p0.2 t73).bind λx75 =>
 (aa p0 x75).bind λt79 =>
 cond (decide (t79<0)) (some (.inr (.inr false))) (some (.inl (lT (t73+1)))))
 (some (.inr (.inl ())))
def cQ (p0:mV) (i1:Int):Option Bool :=
 (a7 i1 1 6).bind λt10 =>
 (cond (!t10) (some true) (some ((p0.2.length:Int) != i1))).bind λt18 =>
 (cond t18 (some true) (some (decide ((p0.1.length:Int)>6)))).bind λt24 =>
 cond t24
 (some false)
 ((loop (λz=>ej p0 i1 z) 0).bind (Sum.elim (λd =>
 (loop (λz=>cP p0 z) 0).bind (Sum.elim (λd_1 =>
 some true) (λr=>some r))) (λr_1=>some r_1)))
def gw:FL:=(147,⟨[.val true og false,.val false lY false],[.val false mS (some true)],λa=>cQ a.1 a.2⟩)::gv
theorem kw:Gd gw:=m7 kv 147 Tryz.f147 [(0,⟨⟨(28,false,[dI])::us 38 14 (us 54 6 (us 62 6 [])),[]⟩,
 ⟨[],[]⟩,some ⟨[(4,false,[dB])],[]⟩⟩),
 (2,⟨⟨[(73,false,[dI])],[]⟩,
 ⟨[],[]⟩,some ⟨[(4,false,[dB])],[]⟩⟩)] Tryz.func147
def au (n0:Int):Option Bool :=
 (a7 n0 0 1000000).bind λt4 =>
 some t4
def gx:FL:=(148,⟨[.val false lY false],[.val false mS (some true)],λa=>au a⟩)::gw
theorem kz:Gd gx:=m7 kw 148 Tryz.f148 [] Tryz.func148
def ek (p0:lS) (t8:Int):Option (Int⊕(Unit⊕Bool)) :=
 cond (decide (t8<(p0.2.2.1.length:Int)))
 ((at? p0.2.2.1 t8).bind λx10 =>
 (bN x10).bind λt13 =>
 cond (!t13) (some (.inr (.inr false))) (some (.inl (lT (t8+1)))))
 (some (.inr (.inl ())))
def bP (p0:lS):Option Bool :=
 (loop (λz=>ek p0 z) 0).bind (Sum.elim (λd =>
 (a7 p0.1 1 99).bind λt18 =>
 (cond (!t18) (some true) (some (decide ((p0.2.1.length:Int)>10)))).bind λt25 =>
 (cond t25
 (some true)
 ((a7 (p0.2.2.1.length:Int) 1 6).bind λt30 =>
 some (!t30))).bind λt32 =>
 (cond t32
 (some true)
 ((bO p0.2.2.2.1).bind λt36 =>
 some (!t36))).bind λt38 =>
 (cond t38
 (some true)
 ((cQ (p0.2.2.2.2.1,p0.2.2.2.2.2.1) (p0.2.2.1.length:Int)).bind λt45 =>
 some (!t45))).bind λt47 =>
 cond t47
 (some false)
 ((au p0.2.2.2.2.2.2.1).bind λt50 =>
 (cond t50
 ((au p0.2.2.2.2.2.2.2.1).bind λt54 =>
 some t54)
 (some false)).bind λt55 =>
 (cond t55
 ((au p0.2.2.2.2.2.2.2.2.1).bind λt59 =>
 some t59)
 (some false)).bind λt60 =>
 (cond t60
 ((au p0.2.2.2.2.2.2.2.2.2.1).bind λt64 =>
 some t64)
 (some false)).bind λt65 =>
 (cond t65
 ((au p0.2.2.2.2.2.2.2.2.2.2).bind λt69 =>
 some t69)
 (some false)).bind λt70 =>
 some t70)) (λr=>some r))
def gy:FL:=(84,⟨[.val true mb false],[.val false mS (some true)],λa=>bP a⟩)::gx
theorem kA:Gd gy:=m7 kz 84 Tryz.f84 [(0,⟨⟨[(8,false,[dI])],[]⟩,
 ⟨[],[]⟩,some ⟨[(2,false,[dB])],[]⟩⟩)] Tryz.func84
def b8 (l0:List my) (b1:Int) (p2:Int) (t11:Int):Option (Int⊕(Unit⊕Bool)) :=
 cond (decide (t11<(l0.length:Int)))
 ((at? l0 t11).bind λx13 =>
 (cond (x13.1==b1) (some (x13.2.1==p2)) (some false)).bind λt24 =>
 (cond t24
 (some true)
 ((cond (x13.2.2.1==b1) (some (x13.2.2.2==p2)) (some false)).bind λt35 =>
 some t35)).bind λt36 =>
 cond t36 (some (.inr (.inr true))) (some (.inl (lT (t11+1)))))
 (some (.inr (.inl ())))
def b9 (l0:List my) (b1:Int) (p2:Int):Option Bool :=
 (loop (λz=>b8 l0 b1 p2 z) 0).bind (Sum.elim (λd =>
 some false) (λr=>some r))
def gz:FL:=(85,⟨[.val false (.one (.sl nP)) false,.val false lY false,.val false lY false],[.val false mS (some true)],λa=>b9 a.1 a.2.1 a.2.2⟩)::gy
theorem kB:Gd gz:=m7 kA 85 Tryz.f85 [(0,⟨⟨(11,false,[dI])::us 20 4 (us 26 10 []),[]⟩,
 ⟨[],[]⟩,some ⟨[(6,false,[dB])],[]⟩⟩)] Tryz.func85
def ba (n0:mi) (b1:Int) (p2:Int):Option (Pt×Bool) :=
 (a7 b1 0 (lT ((n0.1.length:Int)-1))).bind λt13 =>
 (cond (!t13)
 (some true)
 ((at? n0.1 b1).bind λx20 =>
 (a7 p2 0 (lT ((x20.2.2.1.length:Int)-1))).bind λt25 =>
 some (!t25))).bind λt27 =>
 cond t27
 (some ((false,0,false,0,0,0,0,0),false))
 ((at? n0.1 b1).bind λx32 =>
 (at? x32.2.2.1 p2).bind λx36 =>
 some (x36,true))
def gA:FL:=(59,⟨[.val true np false,.val false lY false,.val false lY false],[.val true oM (some true),.val false mS (some true)],λa=>ba a.1 a.2.1 a.2.2⟩)::gz
theorem kC:Gd gA:=m7 kB 59 Tryz.f59 [] Tryz.func59
def bb (p0:mi) (t12:Int):Option (Int⊕(Unit⊕Bool)) :=
 cond (decide (t12<(p0.2.1.length:Int)))
 ((at? p0.2.1 t12).bind λx15 =>
 (ba p0 x15.1 x15.2.1).bind λt23 =>
 (ba p0 x15.2.2.1 x15.2.2.2).bind λt32 =>
 (cond (decide (t12>=9)) (some true) (some (!t23.2))).bind λt40 =>
 (cond t40 (some true) (some (!t32.2))).bind λt44 =>
 (cond t44 (some true) (some (x15.1==x15.2.2.1))).bind λt51 =>
 (cond t51 (some true) (some (!(t23.1.1==t32.1.1)))).bind λt58 =>
 cond t58
 (some (.inr (.inr false)))
 ((cut p0.2.1 0 t12).bind λt62 =>
 (b9 t62 x15.1 x15.2.1).bind λt67 =>
 (cond t67
 (some true)
 ((cut p0.2.1 0 t12).bind λt72 =>
 (b9 t72 x15.2.2.1 x15.2.2.2).bind λt77 =>
 some t77)).bind λt78 =>
 cond t78 (some (.inr (.inr false))) (some (.inl (lT (t12+1))))))
 (some (.inr (.inl ())))
def cR (p0:mi):Option Bool :=
 (loop (λz=>bb p0 z) 0).bind (Sum.elim (λd =>
 some true) (λr=>some r))
def gB:FL:=(87,⟨[.val true np false],[.val false mS (some true)],λa=>cR a⟩)::gA
theorem kD:Gd gB:=m7 kC 87 Tryz.f87 [(0,⟨⟨(12,false,[dI])::us 38 2 (us 42 2 (us 46 5 (us 53 5 (us 69 9 [])))),[]⟩,
 ⟨[],[]⟩,some ⟨[(2,false,[dB])],[]⟩⟩)] Tryz.func87
def bc (x28:lS) (t36:List lS) (t38:Int):Option (Int⊕(Unit⊕Bool)) :=
 cond (decide (t38<(t36.length:Int)))
 ((at? t36 t38).bind λx40 =>
 cond (x40.1==x28.1) (some (.inr (.inr false))) (some (.inl (lT (t38+1)))))
 (some (.inr (.inl ())))
def bd (p0:mi) (t25:Int) (x28:lS) (t51:Int):Option (Int⊕(Unit⊕Bool)) :=
 cond (decide (t51<(x28.2.2.1.length:Int)))
 ((at? x28.2.2.1 t51).bind λx54 =>
 (cond x54.2.2.1
 ((b9 p0.2.1 t25 t51).bind λt63 =>
 some (!t63))
 (some false)).bind λt65 =>
 cond t65 (some (.inr (.inr false))) (some (.inl (lT (t51+1)))))
 (some (.inr (.inl ())))
def be (p0:mi) (t25:Int):Option (Int⊕(Unit⊕Bool)) :=
 cond (decide (t25<(p0.1.length:Int)))
 ((at? p0.1 t25).bind λx28 =>
 (bP x28).bind λt31 =>
 cond (!t31)
 (some (.inr (.inr false)))
 ((cut p0.1 0 t25).bind λt36 =>
 (loop (λz=>bc x28 t36 z) 0).bind (Sum.elim (λd =>
 (loop (λz=>bd p0 t25 x28 z) 0).bind (Sum.elim (λd_1 =>
 some (.inl (lT (t25+1)))) (λr=>some (.inr (.inr r))))) (λr_1=>some (.inr (.inr r_1))))))
 (some (.inr (.inl ())))
def bf (p0:mi) (t71:Int):Option (Int⊕(Unit⊕Bool)) :=
 cond (decide (t71<(p0.2.2.length:Int)))
 ((at? p0.2.2 t71).bind λx73 =>
 (a7 x73.1 0 (lT ((p0.2.1.length:Int)-1))).bind λt81 =>
 (cond (!t81)
 (some true)
 ((ar x73.2.2).bind λt86 =>
 some (!t86))).bind λt88 =>
 cond t88 (some (.inr (.inr false))) (some (.inl (lT (t71+1)))))
 (some (.inr (.inl ())))
def cS (p0:mi):Option Bool :=
 (a7 (p0.1.length:Int) 1 6).bind λt14 =>
 (cond (!t14) (some true) (some (decide ((p0.2.2.length:Int)>40)))).bind λt21 =>
 cond t21
 (some false)
 ((loop (λz=>be p0 z) 0).bind (Sum.elim (λd_2 =>
 (loop (λz=>bf p0 z) 0).bind (Sum.elim (λd_3 =>
 (cR p0).bind λt91 =>
 some t91) (λr_2=>some r_2))) (λr_3=>some r_3)))
def gC:FL:=(45,⟨[.val true np false],[.val false mS (some true)],λa=>cS a⟩)::gB
theorem kE:Gd gC:=m7 kD 45 Tryz.f45 [(0,⟨⟨(25,false,[dI])::us 59 6 [],[]⟩,
 ⟨[],[]⟩,some ⟨[(2,false,[dB])],[]⟩⟩),
 (2,⟨⟨[(38,false,[dI])],[]⟩,
 ⟨[],[]⟩,some ⟨[(2,false,[dB])],[]⟩⟩),
 (4,⟨⟨(51,false,[dI])::us 59 6 [],[]⟩,
 ⟨us 59 6 [],[]⟩,some ⟨[(2,false,[dB])],[]⟩⟩),
 (6,⟨⟨(71,false,[dI])::us 84 4 [],[]⟩,
 ⟨[],[]⟩,some ⟨[(2,false,[dB])],[]⟩⟩)] Tryz.func45
def eo (n0:mi) (b1:Int) (p2:Int):Option Bool :=
 (ba n0 b1 p2).bind λt13 =>
 (cond t13.2
 ((cS n0).bind λt19 =>
 some t19)
 (some false)).bind λt20 =>
 some t20
def gD:FL:=(29,⟨[.val true np false,.val false lY false,.val false lY false],[.val false mS (some true)],λa=>eo a.1 a.2.1 a.2.2⟩)::gC
theorem kF:Gd gD:=m7 kE 29 Tryz.f29 [] Tryz.func29
def av (l0:List m0):Option (List m0) :=
 (nn [] l0).bind λzs4 =>
 some zs4
def gE:FL:=(118,⟨[.val false (.one (.sl mz)) false],[.val false (.one (.sl mz)) (some true)],λa=>av a⟩)::gD
theorem kG:Gd gE:=m7 kF 118 Tryz.f118 [] Tryz.func118
def cU (l0:List Int):Option (List Int) :=
 (nn [] l0).bind λzs4 =>
 some zs4
def gF:FL:=(150,⟨[.val false sR false],[.val false sR (some true)],λa=>cU a⟩)::gE
theorem kH:Gd gF:=m7 kG 150 Tryz.f150 [] Tryz.func150
def cV (v0:mV):Option mV :=
 (nn [] v0.1).bind λzs5 =>
 (cU v0.2).bind λt8 =>
 some (zs5,t8)
def gG:FL:=(119,⟨[.val true og false],[.val true og (some true)],λa=>cV a⟩)::gF
theorem kJ:Gd gG:=m7 kH 119 Tryz.f119 [] Tryz.func119
def bQ (b0:lS):Option lS :=
 (nn [] b0.2.2.1).bind λzs5 =>
 (av b0.2.2.2.1).bind λt9 =>
 (cV (b0.2.2.2.2.1,b0.2.2.2.2.2.1)).bind λt12 =>
 some (b0.1,b0.2.1,zs5,t9,t12.1,t12.2,b0.2.2.2.2.2.2.1,b0.2.2.2.2.2.2.2.1,b0.2.2.2.2.2.2.2.2.1,b0.2.2.2.2.2.2.2.2.2.1,b0.2.2.2.2.2.2.2.2.2.2)
def gH:FL:=(60,⟨[.val true mb false],[.val true mb (some true)],λa=>bQ a⟩)::gG
theorem kK:Gd gH:=m7 kJ 60 Tryz.f60 [] Tryz.func60
def bg (n0:mi) (t16:Int) (b0:List lS):Option ((Int×List lS)⊕(List lS)) :=
 cond (decide (t16<(n0.1.length:Int)))
 ((at? n0.1 t16).bind λx18 =>
 (bQ x18).bind λt23 =>
 (nn b0 [t23]).bind λzs25 =>
 some (.inl (lT (t16+1),zs25)))
 (some (.inr b0))
def cW (n0:mi):Option mi :=
 (nn [] n0.2.1).bind λzs8 =>
 (nn [] n0.2.2).bind λzs11 =>
 (loop (λz=>bg n0 z.1 z.2) (0,[])).bind λd =>
 some (d,zs8,zs11)
def gI:FL:=(30,⟨[.val true np false],[.val true np (some true)],λa=>cW a⟩)::gH
theorem kL:Gd gI:=m7 kK 30 Tryz.f30 [(0,⟨⟨[(16,false,[dI])],[(270336,.box [.own 1000000000,.same 265216,.same 268288]),(1000000000,.root mb true)]⟩,
 ⟨[],[(270336,.box [.own 1000000300,.same 265216,.same 268288]),(1000000300,.root mb true)]⟩,none⟩)] Tryz.func30
def a9 (bits0:Int) (port1:Int):Option Bool :=
 (a7 port1 0 62).bind λt6 =>
 (cond t6
 ((shr .i64 bits0 port1).bind λt10 =>
 some ((ox .i64 t10 1)==1))
 (some false)).bind λt13 =>
 some t13
def gJ:FL:=(120,⟨[.val false lY false,.val false lY false],[.val false mS (some true)],λa=>a9 a.1 a.2⟩)::gI
theorem kM:Gd gJ:=m7 kL 120 Tryz.f120 [] Tryz.func120
def bh (a0:qk) (b1:qk):Option Bool :=
 cond (a0.1 != b1.1)
 (some (decide (a0.1<b1.1)))
 (cond (a0.2.1 != b1.2.1)
 (some (decide (a0.2.1<b1.2.1)))
 (cond (a0.2.2.2.1 != b1.2.2.2.1)
 (let t4:=decide (a0.2.2.2.1<b1.2.2.2.1)
 some t4)
 (let t4_1:=decide (a0.2.2.2.2<b1.2.2.2.2)
 some t4_1)))
def gK:FL:=(155,⟨[.val true pu false,.val true pu false],[.val false mS (some true)],λa=>bh a.1 a.2⟩)::gJ
theorem kN:Gd gK:=m7 kM 155 Tryz.f155 [] Tryz.func155
def bR (v0:qk) (cost1:Int):Option (qk×Bool) :=
 (ar v0).bind λt8 =>
 (cond (!t8)
 (some true)
 ((a7 cost1 1 1000).bind λt12 =>
 some (!t12))).bind λt14 =>
 cond t14
 (some (v0,false))
 ((ar (v0.1,lT (v0.2.1+cost1),lT (v0.2.2.1+1),v0.2.2.2.1,v0.2.2.2.2)).bind λt27 =>
 cond (!t27)
 (some (v0,false))
 (some ((v0.1,lT (v0.2.1+cost1),lT (v0.2.2.1+1),v0.2.2.2.1,v0.2.2.2.2),true)))
def gL:FL:=(186,⟨[.val true pu false,.val false lY false],[.val true pu (some true),.val false mS (some true)],λa=>bR a.1 a.2⟩)::gK
theorem kO:Gd gL:=m7 kN 186 Tryz.f186 [] Tryz.func186
def bj (p0:Int) (i1:List Pt) (t7:Int) (t18:Int) (b0:Int) (b1:Int) (b2:Int) (b3:Int) (b4:Int) (b0_1:Int) (b1_1:Int) (b2_1:Int) (b3_1:Int) (b4_1:Int):Option ((Int×Int×Int×Int×Int×Int×Int×Int×Int×Int×Int×Int)⊕(Int×Int×Int×Int×Int×Int×Int×Int×Int×Int×Int)) :=
 cond (decide (t18<(i1.length:Int)))
 ((at? i1 t18).bind λx21 =>
 (cond (!x21.1) (some true) (some (!x21.2.2.1))).bind λt30 =>
 cond t30
 (some (.inl (t7,lT (t18+1),b0,b1,b2,b3,b4,b0_1,b1_1,b2_1,b3_1,b4_1)))
 ((bR x21.2.2.2 x21.2.1).bind λt36 =>
 (cond t36.2 (some (decide (t36.1.1<p0))) (some false)).bind λt45 =>
 (cond t45
 ((cond (decide (t7<0))
 (some true)
 ((bh t36.1 (b0_1,b1_1,b2_1,b3_1,b4_1)).bind λt52 =>
 some t52)).bind λt53 =>
 some t53)
 (some false)).bind λt54 =>
 cond t54
 (some (.inl (t18,lT (t18+1),t36.1.1,t36.1.2.1,t36.1.2.2.1,p0,0,t36.1.1,t36.1.2.1,t36.1.2.2.1,t36.1.2.2.2.1,t36.1.2.2.2.2)))
 (some (.inl (t7,lT (t18+1),b0,b1,b2,b3,b4,b0_1,b1_1,b2_1,b3_1,b4_1)))))
 (some (.inr (t7,b0,b1,b2,b3,b4,b0_1,b1_1,b2_1,b3_1,b4_1)))
def aw (p0:Int) (i1:List Pt):Option (qk×Int) :=
 (loop (λz=>bj p0 i1 z.1 z.2.1 z.2.2.1 z.2.2.2.1 z.2.2.2.2.1 z.2.2.2.2.2.1 z.2.2.2.2.2.2.1 z.2.2.2.2.2.2.2.1 z.2.2.2.2.2.2.2.2.1 z.2.2.2.2.2.2.2.2.2.1 z.2.2.2.2.2.2.2.2.2.2.1 z.2.2.2.2.2.2.2.2.2.2.2) ((-1),0,p0,0,0,p0,0,0,0,0,0,0)).bind λd =>
 some ((d.2.1,d.2.2.1,d.2.2.2.1,d.2.2.2.2.1,d.2.2.2.2.2.1),d.1)
def gM:FL:=(152,⟨[.val false lY false,.val false (.one (.sl oM)) false],[.val true pu (some true),.val false lY (some true)],λa=>aw a.1 a.2⟩)::gL
theorem kP:Gd gM:=m7 kO 152 Tryz.f152 [(0,⟨⟨(7,false,[dI])::(18,false,[dI])::us 27 3 (us 41 4 (us 47 7 [])),[(266240,.box [dI,dI,dI,dI,dI]),(525312,.box [dI,dI,dI,dI,dI])]⟩,
 ⟨[(7,false,[dI])],[(266240,.box [dI,dI,dI,dI,dI]),(525312,.box [dI,dI,dI,dI,dI])]⟩,none⟩)] Tryz.func152
def bS (id0:Int) (l1:List Pt) (port2:Int):Option qk :=
 (aw id0 l1).bind λt12 =>
 some (t12.1.1,t12.1.2.1,t12.1.2.2.1,t12.1.2.2.2.1,port2)
def gN:FL:=(149,⟨[.val false lY false,.val false (.one (.sl oM)) false,.val false lY false],[.val true pu (some true)],λa=>bS a.1 a.2.1 a.2.2⟩)::gM
theorem kQ:Gd gN:=m7 kP 149 Tryz.f149 [] Tryz.func149
def am (id0:Int) (l1:List Pt) (port2:Int):Option Int :=
 (a7 port2 0 (lT ((l1.length:Int)-1))).bind λt13 =>
 (cond (!t13)
 (some true)
 ((at? l1 port2).bind λx18 =>
 some (!x18.1))).bind λt22 =>
 cond t22
 (some 4)
 ((aw id0 l1).bind λt26 =>
 cond (t26.2==port2)
 (some 1)
 ((at? l1 port2).bind λx36 =>
 (cond (!x36.2.2.1)
 (some true)
 ((bS id0 l1 port2).bind λt44 =>
 (at? l1 port2).bind λx47 =>
 (bh t44 x47.2.2.2).bind λt50 =>
 some t50)).bind λt51 =>
 cond t51 (some 2) (some 3)))
def gO:FL:=(97,⟨[.val false lY false,.val false (.one (.sl oM)) false,.val false lY false],[.val false lY (some true)],λa=>am a.1 a.2.1 a.2.2⟩)::gN
theorem kR:Gd gO:=m7 kQ 97 Tryz.f97 [] Tryz.func97
def ae (id0:Int) (l1:List Pt) (bits5:Int) (port6:Int):Option ((Int×Int)⊕Int) :=
 (cond (decide (port6<(l1.length:Int))) (some (decide (port6<6))) (some false)).bind λt15 =>
 cond t15
 ((am id0 l1 port6).bind λt21 =>
 (cond (t21==1) (some true) (some (t21==2))).bind λt27 =>
 cond t27
 ((shl .i64 1 port6).bind λt30 =>
 some (.inl (zC .i64 bits5 t30,lT (port6+1))))
 (some (.inl (bits5,lT (port6+1)))))
 (some (.inr bits5))
def bT (id0:Int) (l1:List Pt):Option Int :=
 (loop (λz=>ae id0 l1 z.1 z.2) (0,0)).bind λd =>
 some d
def gP:FL:=(121,⟨[.val false lY false,.val false (.one (.sl oM)) false],[.val false lY (some true)],λa=>bT a.1 a.2⟩)::gO
theorem kS:Gd gP:=m7 kR 121 Tryz.f121 [(0,⟨⟨[(5,false,[dI]),(6,false,[dI]),(13,false,[.undef]),(14,false,[.undef]),(25,false,[.undef]),(26,false,[.undef])],[]⟩,
 ⟨[(5,false,[dI])],[]⟩,none⟩)] Tryz.func121
def bU (n0:mi) (b1:Int) (p2:Int):Option Bool :=
 (at? n0.1 b1).bind λx10 =>
 (at? n0.1 b1).bind λx16 =>
 (bT x10.1 x16.2.2.1).bind λt19 =>
 (a9 t19 p2).bind λt21 =>
 some t21
def gQ:FL:=(61,⟨[.val true np false,.val false lY false,.val false lY false],[.val false mS (some true)],λa=>bU a.1 a.2.1 a.2.2⟩)::gP
theorem kT:Gd gQ:=m7 kS 61 Tryz.f61 [] Tryz.func61
def ax (b0:lS) (port1:Int):Option Bool :=
 (bP b0).bind λt6 =>
 (cond t6
 ((a7 port1 0 (lT ((b0.2.2.1.length:Int)-1))).bind λt13 =>
 some t13)
 (some false)).bind λt14 =>
 some t14
def gR:FL:=(122,⟨[.val true mb false,.val false lY false],[.val false mS (some true)],λa=>ax a.1 a.2⟩)::gQ
theorem kU:Gd gR:=m7 kT 122 Tryz.f122 [] Tryz.func122
def bV (f0:mO):Option Bool :=
 (a7 f0.1 0 9999).bind λt5 =>
 (cond t5
 ((a7 f0.2.1 1 9999).bind λt9 =>
 some t9)
 (some false)).bind λt10 =>
 (cond t10
 ((a7 f0.2.2.1 0 99).bind λt14 =>
 some t14)
 (some false)).bind λt15 =>
 (cond t15 (some (decide ((f0.2.2.2.length:Int)<=20))) (some false)).bind λt21 =>
 some t21
def gS:FL:=(123,⟨[.val true mZ false],[.val false mS (some true)],λa=>bV a⟩)::gR
theorem kV:Gd gS:=m7 kU 123 Tryz.f123 [] Tryz.func123
def bm (v0:mV) (port1:Int) (tag2:Int):Option (Int×Bool) :=
 (a7 port1 0 (lT ((v0.2.length:Int)-1))).bind λt15 =>
 cond (!t15)
 (some (0,false))
 (cond (tag2==0)
 ((at? v0.2 port1).bind λx23 =>
 (aa v0 x23).bind λt27 =>
 (cond (decide (t27<0))
 (some true)
 ((at? v0.1 t27).bind λx34 =>
 (a9 x34.2.1 port1).bind λt38 =>
 some (!t38))).bind λt40 =>
 cond t40 (some (0,false)) (some (x23,true)))
 ((aa v0 tag2).bind λt27_1 =>
 (cond (decide (t27_1<0))
 (some true)
 ((at? v0.1 t27_1).bind λx34_1 =>
 (a9 x34_1.2.1 port1).bind λt38_1 =>
 some (!t38_1))).bind λt40_1 =>
 cond t40_1 (some (0,false)) (some (tag2,true))))
def gT:FL:=(124,⟨[.val true og false,.val false lY false,.val false lY false],[.val false lY (some true),.val false mS (some true)],λa=>bm a.1 a.2.1 a.2.2⟩)::gS
theorem kW:Gd gT:=m7 kV 124 Tryz.f124 [] Tryz.func124
def ay (n0:Int):Option Int :=
 let t2:=min2 (lT (n0+1)) 1000000
 some t2
def gU:FL:=(125,⟨[.val false lY false],[.val false lY (some true)],λa=>ay a⟩)::gT
theorem kX:Gd gU:=m7 kW 125 Tryz.f125 [] Tryz.func125
def aL (l0:List m0) (tag1:Int) (mac2:Int) (t11:Int):Option (Int⊕(Unit⊕Int)) :=
 cond (decide (t11<(l0.length:Int)))
 ((at? l0 t11).bind λx14 =>
 (cond (x14.1==tag1) (some (x14.2.1==mac2)) (some false)).bind λt25 =>
 cond t25 (some (.inr (.inr t11))) (some (.inl (lT (t11+1)))))
 (some (.inr (.inl ())))
def bn (l0:List m0) (tag1:Int) (mac2:Int):Option Int :=
 (loop (λz=>aL l0 tag1 mac2 z) 0).bind (Sum.elim (λd =>
 some (-1)) (λr=>some r))
def gV:FL:=(172,⟨[.val false (.one (.sl mz)) false,.val false lY false,.val false lY false],[.val false lY (some true)],λa=>bn a.1 a.2.1 a.2.2⟩)::gU
theorem kY:Gd gV:=m7 kX 172 Tryz.f172 [(0,⟨⟨(11,false,[dI])::us 21 4 [],[]⟩,
 ⟨[],[]⟩,some ⟨[(6,false,[dI])],[]⟩⟩)] Tryz.func172
def af (l0:List m0) (e1:m0) (k8:Int):Option (Int⊕Int) :=
 (cond (decide (k8<(l0.length:Int)))
 ((at? l0 k8).bind λx35 =>
 (b7 x35 e1.1 e1.2.1).bind λt41 =>
 some (!t41))
 (some false)).bind λt43 =>
 cond t43 (some (.inl (lT (k8+1)))) (some (.inr k8))
def aM (l0:List m0) (e1:m0):Option ((List m0)×Bool) :=
 (av l0).bind λt10 =>
 (bn l0 e1.1 e1.2.1).bind λt16 =>
 cond (decide (t16>=0))
 ((ix t10.length t16).bind λj22 =>
 (t10[j22]?).bind λx =>
 some (t10.set j22 e1,true))
 (cond (decide ((l0.length:Int)>=12))
 (some (t10,false))
 ((loop (λz=>af l0 e1 z) 0).bind λd =>
 (cut l0 0 d).bind λt48 =>
 (av t48).bind λt49 =>
 (nn t49 [e1]).bind λzs52 =>
 (cut l0 d (l0.length:Int)).bind λt55 =>
 (nn zs52 t55).bind λzs56 =>
 some (zs56,true)))
def gW:FL:=(174,⟨[.val false (.one (.sl mz)) false,.val true mz false],[.val false (.one (.sl mz)) (some true),.val false mS (some true)],λa=>aM a.1 a.2⟩)::gV
theorem kZ:Gd gW:=m7 kY 174 Tryz.f174 [(0,⟨⟨(8,false,[dI])::us 33 10 [],[]⟩,
 ⟨[(8,false,[dI])],[]⟩,none⟩)] Tryz.func174
def bo (l0:List m0) (tag1:Int) (mac2:Int) (port3:Int):Option (List m0) :=
 (bn l0 tag1 mac2).bind λt20 =>
 (bO l0).bind λt22 =>
 (cond (!t22)
 (some true)
 ((aJ (tag1,mac2,port3,0,false)).bind λt26 =>
 some (!t26))).bind λt28 =>
 (cond t28
 (some true)
 ((cond (decide (t20>=0))
 ((at? l0 t20).bind λx35 =>
 some x35.2.2.2.2)
 (some false)).bind λt38 =>
 some t38)).bind λt39 =>
 cond t39
 ((av l0).bind λt41 =>
 some t41)
 ((aM l0 (tag1,mac2,port3,0,false)).bind λt45 =>
 some t45.1)
def gX:FL:=(126,⟨[.val false (.one (.sl mz)) false,.val false lY false,.val false lY false,.val false lY false],[.val false (.one (.sl mz)) (some true)],λa=>bo a.1 a.2.1 a.2.2.1 a.2.2.2⟩)::gW
theorem l6:Gd gX:=m7 kZ 126 Tryz.f126 [] Tryz.func126
def bp (l0:List m0) (tag1:Int) (mac2:Int):Option Int :=
 (bn l0 tag1 mac2).bind λt11 =>
 cond (decide (t11<0))
 (some (-1))
 ((at? l0 t11).bind λx16 =>
 some x16.2.2.1)
def gY:FL:=(127,⟨[.val false (.one (.sl mz)) false,.val false lY false,.val false lY false],[.val false lY (some true)],λa=>bp a.1 a.2.1 a.2.2⟩)::gX
theorem l7:Gd gY:=m7 l6 127 Tryz.f127 [] Tryz.func127
def ao (v0:mV) (id1:Int):Option Int :=
 (aa v0 id1).bind λt8 =>
 cond (decide (t8<0))
 (some 0)
 ((at? v0.1 t8).bind λx14 =>
 some x14.2.1)
def gZ:FL:=(128,⟨[.val true og false,.val false lY false],[.val false lY (some true)],λa=>ao a.1 a.2⟩)::gY
theorem l8:Gd gZ:=m7 l7 128 Tryz.f128 [] Tryz.func128
def cX (b0:List Int):Option (List Int) :=
 (nn [] b0).bind λzs4 =>
 some zs4
def hC:FL:=(175,⟨[.val false ux false],[.val false ux (some true)],λa=>cX a⟩)::gZ
theorem la:Gd hC:=m7 l8 175 Tryz.f175 [] Tryz.func175
def aN (f0:mO) (tag1:Int):Option mO :=
 (cX f0.2.2.2).bind λt7 =>
 some (f0.1,f0.2.1,tag1,t7)
def hN:FL:=(129,⟨[.val true mZ false,.val false lY false],[.val true mZ (some true)],λa=>aN a.1 a.2⟩)::hC
theorem lb:Gd hN:=m7 la 129 Tryz.f129 [] Tryz.func129
def ap (v0:mV) (id1:Int) (port2:Int):Option Int :=
 (aa v0 id1).bind λt10 =>
 (cond (decide (t10<0))
 (some true)
 ((at? v0.1 t10).bind λx17 =>
 (a9 x17.2.2 port2).bind λt21 =>
 some t21)).bind λt22 =>
 cond t22 (some 0) (some id1)
def hP:FL:=(130,⟨[.val true og false,.val false lY false,.val false lY false],[.val false lY (some true)],λa=>ap a.1 a.2.1 a.2.2⟩)::hN
theorem lc:Gd hP:=m7 lb 130 Tryz.f130 [] Tryz.func130
def ah (p0:lS) (i1:Int) (a2:mO) (t31:Int) (t38:Int×Bool) (t74:Int) (t78:Int) (t13:List ne):Option ((Int×List ne)⊕(List ne)) :=
 cond (decide (t78<(p0.2.2.1.length:Int)))
 ((cond (t78 != i1)
 ((ao (p0.2.2.2.2.1,p0.2.2.2.2.2.1) t38.1).bind λt89 =>
 (a9 (ox .i64 t31 t89) t78).bind λt92 =>
 some t92)
 (some false)).bind λt93 =>
 (cond t93
 ((cond (decide (t74<0)) (some true) (some (t74==t78))).bind λt101 =>
 some t101)
 (some false)).bind λt102 =>
 cond t102
 ((ap (p0.2.2.2.2.1,p0.2.2.2.2.2.1) t38.1 t78).bind λt110 =>
 (aN a2 t110).bind λt111 =>
 (nn t13 [(t78,t111.1,t111.2.1,t111.2.2.1,t111.2.2.2)]).bind λzs114 =>
 some (.inl (lT (t78+1),zs114)))
 (some (.inl (lT (t78+1),t13))))
 (some (.inr t13))
def ai (p0:lS) (i1:Int) (a2:mO) (t31:Int) (t38:Int×Bool) (t78_1:Int) (t13_2:List ne):Option ((Int×List ne)⊕(List ne)) :=
 cond (decide (t78_1<(p0.2.2.1.length:Int)))
 ((cond (t78_1 != i1)
 ((ao (p0.2.2.2.2.1,p0.2.2.2.2.2.1) t38.1).bind λt89_1 =>
 (a9 (ox .i64 t31 t89_1) t78_1).bind λt92_1 =>
 some t92_1)
 (some false)).bind λt93_1 =>
 (cond t93_1
 ((cond (decide ((-1)<0)) (some true) (some ((-1)==t78_1))).bind λt101_1 =>
 some t101_1)
 (some false)).bind λt102_1 =>
 cond t102_1
 ((ap (p0.2.2.2.2.1,p0.2.2.2.2.2.1) t38.1 t78_1).bind λt110_1 =>
 (aN a2 t110_1).bind λt111_1 =>
 (nn t13_2 [(t78_1,t111_1.1,t111_1.2.1,t111_1.2.2.1,t111_1.2.2.2)]).bind λzs114_1 =>
 some (.inl (lT (t78_1+1),zs114_1)))
 (some (.inl (lT (t78_1+1),t13_2))))
 (some (.inr t13_2))
def az (p0:lS) (i1:Int) (a2:mO):Option (lS×List ne) :=
 (bQ p0).bind λt16 =>
 (ax p0 i1).bind λt19 =>
 (cond (!t19)
 (some true)
 ((bV a2).bind λt23 =>
 some (!t23))).bind λt25 =>
 cond t25
 (some (t16,[]))
 ((bT p0.1 p0.2.2.1).bind λt31 =>
 (bm (p0.2.2.2.2.1,p0.2.2.2.2.2.1) i1 a2.2.2.1).bind λt38 =>
 (a9 t31 i1).bind λt43 =>
 (cond (!t43) (some true) (some (!t38.2))).bind λt48 =>
 cond t48
 ((ay p0.2.2.2.2.2.2.2.2.2.1).bind λt51 =>
 some ((t16.1,t16.2.1,t16.2.2.1,t16.2.2.2.1,t16.2.2.2.2.1,t16.2.2.2.2.2.1,t16.2.2.2.2.2.2.1,t16.2.2.2.2.2.2.2.1,t16.2.2.2.2.2.2.2.2.1,t51,t16.2.2.2.2.2.2.2.2.2.2),[]))
 ((bo p0.2.2.2.1 t38.1 a2.2.1 i1).bind λt60 =>
 (ay p0.2.2.2.2.2.2.2.2.2.2).bind λt64 =>
 cond (a2.1 != 0)
 ((bp t60 t38.1 a2.1).bind λt74 =>
 (loop (λz=>ah p0 i1 a2 t31 t38 t74 z.1 z.2) (0,[])).bind λd =>
 some ((t16.1,t16.2.1,t16.2.2.1,t60,t16.2.2.2.2.1,t16.2.2.2.2.2.1,t16.2.2.2.2.2.2.1,t16.2.2.2.2.2.2.2.1,t16.2.2.2.2.2.2.2.2.1,t16.2.2.2.2.2.2.2.2.2.1,t64),d))
 ((loop (λz=>ai p0 i1 a2 t31 t38 z.1 z.2) (0,[])).bind λd_1 =>
 some ((t16.1,t16.2.1,t16.2.2.1,t60,t16.2.2.2.2.1,t16.2.2.2.2.2.1,t16.2.2.2.2.2.2.1,t16.2.2.2.2.2.2.2.1,t16.2.2.2.2.2.2.2.2.1,t16.2.2.2.2.2.2.2.2.2.1,t64),d_1))))
def hZ:FL:=(62,⟨[.val true mb false,.val false lY false,.val true mZ false],[.val true mb (some true),.val false (.one (.sl sS)) (some true)],λa=>az a.1 a.2.1 a.2.2⟩)::hP
theorem ld:Gd hZ:=m7 lc 62 Tryz.f62 [(0,⟨⟨(13,false,[.own 1000000000])::(78,false,[dI])::us 85 8 (us 95 7 []),[(1000000000,.root sS true)]⟩,
 ⟨[(13,false,[.own 1000000300])],[(1000000300,.root sS true)]⟩,none⟩)] Tryz.func62
def bq (n0:mi) (b1:Int) (p2:Int) (t14:Int):Option (Int⊕(Unit⊕(Int×Int×Bool))) :=
 cond (decide (t14<(n0.2.1.length:Int)))
 ((at? n0.2.1 t14).bind λx16 =>
 (cond (x16.1==b1) (some (x16.2.1==p2)) (some false)).bind λt27 =>
 cond t27
 (some (.inr (.inr (x16.2.2.1,x16.2.2.2,true))))
 ((cond (x16.2.2.1==b1) (some (x16.2.2.2==p2)) (some false)).bind λt41 =>
 cond t41
 (some (.inr (.inr (x16.1,x16.2.1,true))))
 (some (.inl (lT (t14+1))))))
 (some (.inr (.inl ())))
def aO (n0:mi) (b1:Int) (p2:Int):Option (Int×Int×Bool) :=
 (loop (λz=>bq n0 b1 p2 z) 0).bind (Sum.elim (λd =>
 some ((-1),(-1),false)) (λr=>some r))
def ia:FL:=(63,⟨[.val true np false,.val false lY false,.val false lY false],[.val false lY (some true),.val false lY (some true),.val false mS (some true)],λa=>aO a.1 a.2.1 a.2.2⟩)::hZ
theorem lf:Gd ia:=m7 ld 63 Tryz.f63 [(0,⟨⟨(14,false,[dI])::us 23 4 (us 37 4 []),[]⟩,
 ⟨[],[]⟩,some ⟨[(6,false,[dI]),(7,false,[dI]),(8,false,[dB])],[]⟩⟩)] Tryz.func63
def cY (p0:mi) (l:List lS) (x37:mJ) (t66:lS×List ne) (j76:Nat) (t81:Int) (t11_1:List mJ) (t13_1:List mJ):Option ((Int×List mJ×List mJ)⊕(List mJ×List mJ)) :=
 cond (decide (t81<(t66.2.length:Int)))
 ((ix t66.2.length t81).bind λj83 =>
 (t66.2[j83]?).bind λx84 =>
 (aO (l.set j76 t66.1,p0.2.1,p0.2.2) x37.1 x84.1).bind λt93 =>
 cond (!t93.2.2)
 ((nn t11_1 [(x37.1,x84.1,x84.2.1,x84.2.2.1,x84.2.2.2.1,x84.2.2.2.2)]).bind λzs108 =>
 some (.inl (lT (t81+1),zs108,t13_1)))
 ((ix (l.set j76 t66.1).length t93.1).bind λj114 =>
 ((l.set j76 t66.1)[j114]?).bind λx116 =>
 (at? x116.2.2.1 t93.2.1).bind λx118 =>
 cond x118.1
 ((nn t13_1 [(t93.1,t93.2.1,x84.2.1,x84.2.2.1,x84.2.2.2.1,x84.2.2.2.2)]).bind λzs128 =>
 some (.inl (lT (t81+1),t11_1,zs128)))
 (some (.inl (lT (t81+1),t11_1,t13_1)))))
 (some (.inr (t11_1,t13_1)))
def cZ (p0:mi) (l:List lS) (x37:mJ) (t66_1:lS×List ne) (j76_1:Nat) (t81_1:Int) (t11_3:List mJ) (t13_3:List mJ):Option ((Int×List mJ×List mJ)⊕(List mJ×List mJ)) :=
 cond (decide (t81_1<(t66_1.2.length:Int)))
 ((ix t66_1.2.length t81_1).bind λj83_1 =>
 (t66_1.2[j83_1]?).bind λx84_1 =>
 (aO (l.set j76_1 t66_1.1,p0.2.1,p0.2.2) x37.1 x84_1.1).bind λt93_1 =>
 cond (!t93_1.2.2)
 ((nn t11_3 [(x37.1,x84_1.1,x84_1.2.1,x84_1.2.2.1,x84_1.2.2.2.1,x84_1.2.2.2.2)]).bind λzs108_1 =>
 some (.inl (lT (t81_1+1),zs108_1,t13_3)))
 ((ix (l.set j76_1 t66_1.1).length t93_1.1).bind λj114_1 =>
 ((l.set j76_1 t66_1.1)[j114_1]?).bind λx116_1 =>
 (at? x116_1.2.2.1 t93_1.2.1).bind λx118_1 =>
 cond x118_1.1
 ((nn t13_3 [(t93_1.1,t93_1.2.1,x84_1.2.1,x84_1.2.2.1,x84_1.2.2.2.1,x84_1.2.2.2.2)]).bind λzs128_1 =>
 some (.inl (lT (t81_1+1),t11_3,zs128_1)))
 (some (.inl (lT (t81_1+1),t11_3,t13_3)))))
 (some (.inr (t11_3,t13_3)))
def aA (p0:mi) (t14:Int) (t11:List mJ) (t12:List Int) (t13:List mJ) (l:List lS):Option ((Int×List mJ×List Int×List mJ×List lS)⊕(Int×List mJ×List Int×List lS)) :=
 (cond (decide ((t13.length:Int)>0)) (some (decide (t14<60))) (some false)).bind λt34 =>
 cond t34
 ((ix t13.length 0).bind λj36 =>
 (t13[j36]?).bind λx37 =>
 (uG t13.length 1 (t13.length:Int)).bind λp =>
 (bU (l,p0.2.1,p0.2.2) x37.1 x37.2.1).bind λt47 =>
 cond t47
 ((nn t12 [x37.1]).bind λzs52 =>
 (ix l.length x37.1).bind λj60 =>
 (l[j60]?).bind λx61 =>
 (az x61 x37.2.1 x37.2.2).bind λt66 =>
 (ix l.length x37.1).bind λj76 =>
 (l[j76]?).bind λx =>
 (loop (λz=>cY p0 l x37 t66 j76 z.1 z.2.1 z.2.2) (0,t11,(t13.take p.2).drop p.1)).bind λd =>
 some (.inl (lT (t14+1),d.1,zs52,d.2,l.set j76 t66.1)))
 ((ix l.length x37.1).bind λj60_1 =>
 (l[j60_1]?).bind λx61_1 =>
 (az x61_1 x37.2.1 x37.2.2).bind λt66_1 =>
 (ix l.length x37.1).bind λj76_1 =>
 (l[j76_1]?).bind λx_1 =>
 (loop (λz=>cZ p0 l x37 t66_1 j76_1 z.1 z.2.1 z.2.2) (0,t11,(t13.take p.2).drop p.1)).bind λd_1 =>
 some (.inl (lT (t14+1),d_1.1,t12,d_1.2,l.set j76_1 t66_1.1))))
 (some (.inr (t14,t11,t12,l)))
def ep (p0:mi) (i1:Int) (a2:Int) (a3:mO):Option (mi×(List mJ)×(List Int)×Int) :=
 (loop (λz=>aA p0 z.1 z.2.1 z.2.2.1 z.2.2.2.1 z.2.2.2.2) (0,[],[],[(i1,a2,a3.1,a3.2.1,a3.2.2.1,a3.2.2.2)],p0.1)).bind λd_2 =>
 some ((d_2.2.2.2,p0.2.1,p0.2.2),d_2.2.1,d_2.2.2.1,d_2.1)
def ib:FL:=(31,⟨[.ptr np (some true),.val false lY false,.val false lY false,.val true mZ false],[.val false (.one (.sl mU)) none,.val false sR (some true),.val false lY (some true)],λa=>ep a.1 a.2.1 a.2.2.1 a.2.2.2⟩)::ia
theorem lg:Gd ib:=m7 lf 31 Tryz.f31 [(0,⟨⟨[(11,false,[.own 1000000000]),(12,false,[.own 1000000001]),(13,false,[.own 1000000002]),(14,false,[dI]),(32,false,[.undef]),(33,false,[.undef])],[(1000000000,.root mU false),(1000000001,.root lY true),(1000000002,.root mU false),(2,.keep mb true)]⟩,
 ⟨[(11,false,[.own 1000000300]),(12,false,[.own 1000000301]),(14,false,[dI])],[(1000000300,.root mU false),(1000000301,.root lY true),(2,.keep mb true)]⟩,none⟩),
 (2,⟨⟨[(11,false,[.own 1000002000]),(13,false,[.own 1000002001]),(81,false,[dI])],[(1000002000,.root mU false),(1000002001,.root mU false)]⟩,
 ⟨[(11,false,[.own 1000002300]),(13,false,[.own 1000002301])],[(1000002300,.root mU false),(1000002301,.root mU false)]⟩,none⟩)] Tryz.func31
def bW (n0:mi) (b1:Int) (p2:Int) (f3:mO):Option (List Int) :=
 (eo n0 b1 p2).bind λt16 =>
 cond (!t16)
 (some [])
 ((cW n0).bind λt19 =>
 (ep t19 b1 p2 f3).bind λt24 =>
 some t24.2.2.1)
def ic:FL:=(10,⟨[.val true np false,.val false lY false,.val false lY false,.val true mZ false],[.val false sR (some true)],λa=>bW a.1 a.2.1 a.2.2.1 a.2.2.2⟩)::ib
theorem lh:Gd ic:=m7 lg 10 Tryz.f10 [] Tryz.func10
def li (a0:List Int) (b1:List Int) (i5:Int):Option (Int⊕(Unit⊕Bool)) :=
 cond (decide (i5<(a0.length:Int)))
 ((at? a0 i5).bind λx19 =>
 (at? b1 i5).bind λx23 =>
 cond (x19 != x23) (some (.inr (.inr false))) (some (.inl (lT (i5+1)))))
 (some (.inr (.inl ())))
def br (a0:List Int) (b1:List Int):Option Bool :=
 cond ((a0.length:Int) != (b1.length:Int))
 (some false)
 ((loop (λz=>li a0 b1 z) 0).bind (Sum.elim (λd =>
 some true) (λr=>some r)))
def ie:FL:=(11,⟨[.val false sR false,.val false sR false],[.val false mS (some true)],λa=>br a.1 a.2⟩)::ic
theorem lj:Gd ie:=m7 lh 11 Tryz.f11 [(0,⟨⟨[(5,false,[dI])],[]⟩,
 ⟨[],[]⟩,some ⟨[(4,false,[dB])],[]⟩⟩)] Tryz.func11
def bX (a0:qk) (b1:qk):Option Bool :=
 cond (a0.1 != b1.1)
 (some false)
 (cond (a0.2.1 != b1.2.1)
 (some false)
 (cond (a0.2.2.1 != b1.2.2.1)
 (some false)
 (cond (a0.2.2.2.1 != b1.2.2.2.1)
 (some false)
 (cond (a0.2.2.2.2 != b1.2.2.2.2) (some false) (some true)))))
def ig:FL:=(134,⟨[.val true pu false,.val true pu false],[.val false mS (some true)],λa=>bX a.1 a.2⟩)::ie
theorem lk:Gd ig:=m7 lj 134 Tryz.f134 [] Tryz.func134
def bY (a0:Pt) (b1:Pt):Option Bool :=
 cond (!(a0.1==b1.1))
 (some false)
 (cond (a0.2.1 != b1.2.1)
 (some false)
 (cond (!(a0.2.2.1==b1.2.2.1))
 (some false)
 ((bX a0.2.2.2 b1.2.2.2).bind λt24 =>
 cond (!t24) (some false) (some true))))
def ii:FL:=(176,⟨[.val true oM false,.val true oM false],[.val false mS (some true)],λa=>bY a.1 a.2⟩)::ig
theorem ll:Gd ii:=m7 lk 176 Tryz.f176 [] Tryz.func176
def lm (a0:List Pt) (b1:List Pt) (i5:Int):Option (Int⊕(Unit⊕Bool)) :=
 cond (decide (i5<(a0.length:Int)))
 ((at? a0 i5).bind λx19 =>
 (at? b1 i5).bind λx23 =>
 (bY x19 x23).bind λt25 =>
 cond (!t25) (some (.inr (.inr false))) (some (.inl (lT (i5+1)))))
 (some (.inr (.inl ())))
def eq (a0:List Pt) (b1:List Pt):Option Bool :=
 cond ((a0.length:Int) != (b1.length:Int))
 (some false)
 ((loop (λz=>lm a0 b1 z) 0).bind (Sum.elim (λd =>
 some true) (λr=>some r)))
def ij:FL:=(131,⟨[.val false (.one (.sl oM)) false,.val false (.one (.sl oM)) false],[.val false mS (some true)],λa=>eq a.1 a.2⟩)::ii
theorem ln:Gd ij:=m7 ll 131 Tryz.f131 [(0,⟨⟨[(5,false,[dI])],[]⟩,
 ⟨[],[]⟩,some ⟨[(4,false,[dB])],[]⟩⟩)] Tryz.func131
def bZ (a0:m0) (b1:m0):Option Bool :=
 cond (a0.1 != b1.1)
 (some false)
 (cond (a0.2.1 != b1.2.1)
 (some false)
 (cond (a0.2.2.1 != b1.2.2.1)
 (some false)
 (cond (a0.2.2.2.1 != b1.2.2.2.1)
 (some false)
 (cond (!(a0.2.2.2.2==b1.2.2.2.2)) (some false) (some true)))))
def il:FL:=(177,⟨[.val true mz false,.val true mz false],[.val false mS (some true)],λa=>bZ a.1 a.2⟩)::ij
theorem lp:Gd il:=m7 ln 177 Tryz.f177 [] Tryz.func177
def lq (a0:List m0) (b1:List m0) (i5:Int):Option (Int⊕(Unit⊕Bool)) :=
 cond (decide (i5<(a0.length:Int)))
 ((at? a0 i5).bind λx19 =>
 (at? b1 i5).bind λx23 =>
 (bZ x19 x23).bind λt25 =>
 cond (!t25) (some (.inr (.inr false))) (some (.inl (lT (i5+1)))))
 (some (.inr (.inl ())))
def ew (a0:List m0) (b1:List m0):Option Bool :=
 cond ((a0.length:Int) != (b1.length:Int))
 (some false)
 ((loop (λz=>lq a0 b1 z) 0).bind (Sum.elim (λd =>
 some true) (λr=>some r)))
def im:FL:=(132,⟨[.val false (.one (.sl mz)) false,.val false (.one (.sl mz)) false],[.val false mS (some true)],λa=>ew a.1 a.2⟩)::il
theorem lr:Gd im:=m7 lp 132 Tryz.f132 [(0,⟨⟨[(5,false,[dI])],[]⟩,
 ⟨[],[]⟩,some ⟨[(4,false,[dB])],[]⟩⟩)] Tryz.func132
def ca (a0:nC) (b1:nC):Option Bool :=
 cond (a0.1 != b1.1)
 (some false)
 (cond (a0.2.1 != b1.2.1) (some false) (cond (a0.2.2 != b1.2.2) (some false) (some true)))
def ip:FL:=(192,⟨[.val true oe false,.val true oe false],[.val false mS (some true)],λa=>ca a.1 a.2⟩)::im
theorem lu:Gd ip:=m7 lr 192 Tryz.f192 [] Tryz.func192
def lv (a0:List nC) (b1:List nC) (i5:Int):Option (Int⊕(Unit⊕Bool)) :=
 cond (decide (i5<(a0.length:Int)))
 ((at? a0 i5).bind λx19 =>
 (at? b1 i5).bind λx23 =>
 (ca x19 x23).bind λt25 =>
 cond (!t25) (some (.inr (.inr false))) (some (.inl (lT (i5+1)))))
 (some (.inr (.inl ())))
def ez (a0:List nC) (b1:List nC):Option Bool :=
 cond ((a0.length:Int) != (b1.length:Int))
 (some false)
 ((loop (λz=>lv a0 b1 z) 0).bind (Sum.elim (λd =>
 some true) (λr=>some r)))
def iq:FL:=(178,⟨[.val false (.one (.sl oe)) false,.val false (.one (.sl oe)) false],[.val false mS (some true)],λa=>ez a.1 a.2⟩)::ip
theorem lw:Gd iq:=m7 lu 178 Tryz.f178 [(0,⟨⟨[(5,false,[dI])],[]⟩,
 ⟨[],[]⟩,some ⟨[(4,false,[dB])],[]⟩⟩)] Tryz.func178
def d6 (a0:mV) (b1:mV):Option Bool :=
 (ez a0.1 b1.1).bind λt9 =>
 cond (!t9)
 (some false)
 ((br a0.2 b1.2).bind λt15 =>
 cond (!t15) (some false) (some true))
def ir:FL:=(133,⟨[.val true og false,.val true og false],[.val false mS (some true)],λa=>d6 a.1 a.2⟩)::iq
theorem lz:Gd ir:=m7 lw 133 Tryz.f133 [] Tryz.func133
def cb (a0:lS) (b1:lS):Option Bool :=
 cond (a0.1 != b1.1)
 (some false)
 (cond (!(a0.2.1==b1.2.1))
 (some false)
 ((eq a0.2.2.1 b1.2.2.1).bind λt19 =>
 cond (!t19)
 (some false)
 ((ew a0.2.2.2.1 b1.2.2.2.1).bind λt25 =>
 cond (!t25)
 (some false)
 ((d6 (a0.2.2.2.2.1,a0.2.2.2.2.2.1) (b1.2.2.2.2.1,b1.2.2.2.2.2.1)).bind λt31 =>
 cond (!t31)
 (some false)
 (cond (a0.2.2.2.2.2.2.1 != b1.2.2.2.2.2.2.1)
 (some false)
 (cond (a0.2.2.2.2.2.2.2.1 != b1.2.2.2.2.2.2.2.1)
 (some false)
 (cond (a0.2.2.2.2.2.2.2.2.1 != b1.2.2.2.2.2.2.2.2.1)
 (some false)
 (cond (a0.2.2.2.2.2.2.2.2.2.1 != b1.2.2.2.2.2.2.2.2.2.1)
 (some false)
 (cond (a0.2.2.2.2.2.2.2.2.2.2 != b1.2.2.2.2.2.2.2.2.2.2) (some false) (some true))))))))))
def iu:FL:=(64,⟨[.val true mb false,.val true mb false],[.val false mS (some true)],λa=>cb a.1 a.2⟩)::ir
theorem lA:Gd iu:=m7 lz 64 Tryz.f64 [] Tryz.func64
def lB (a0:List lS) (b1:List lS) (i5:Int):Option (Int⊕(Unit⊕Bool)) :=
 cond (decide (i5<(a0.length:Int)))
 ((at? a0 i5).bind λx19 =>
 (at? b1 i5).bind λx23 =>
 (cb x19 x23).bind λt25 =>
 cond (!t25) (some (.inr (.inr false))) (some (.inl (lT (i5+1)))))
 (some (.inr (.inl ())))
def eA (a0:List lS) (b1:List lS):Option Bool :=
 cond ((a0.length:Int) != (b1.length:Int))
 (some false)
 ((loop (λz=>lB a0 b1 z) 0).bind (Sum.elim (λd =>
 some true) (λr=>some r)))
def iv:FL:=(32,⟨[.val false (.one (.sl mb)) false,.val false (.one (.sl mb)) false],[.val false mS (some true)],λa=>eA a.1 a.2⟩)::iu
theorem lC:Gd iv:=m7 lA 32 Tryz.f32 [(0,⟨⟨[(5,false,[dI])],[]⟩,
 ⟨[],[]⟩,some ⟨[(4,false,[dB])],[]⟩⟩)] Tryz.func32
def cc (a0:my) (b1:my):Option Bool :=
 cond (a0.1 != b1.1)
 (some false)
 (cond (a0.2.1 != b1.2.1)
 (some false)
 (cond (a0.2.2.1 != b1.2.2.1)
 (some false)
 (cond (a0.2.2.2 != b1.2.2.2) (some false) (some true))))
def iw:FL:=(65,⟨[.val true nP false,.val true nP false],[.val false mS (some true)],λa=>cc a.1 a.2⟩)::iv
theorem lD:Gd iw:=m7 lC 65 Tryz.f65 [] Tryz.func65
def lE (a0:List my) (b1:List my) (i5:Int):Option (Int⊕(Unit⊕Bool)) :=
 cond (decide (i5<(a0.length:Int)))
 ((at? a0 i5).bind λx19 =>
 (at? b1 i5).bind λx23 =>
 (cc x19 x23).bind λt25 =>
 cond (!t25) (some (.inr (.inr false))) (some (.inl (lT (i5+1)))))
 (some (.inr (.inl ())))
def eB (a0:List my) (b1:List my):Option Bool :=
 cond ((a0.length:Int) != (b1.length:Int))
 (some false)
 ((loop (λz=>lE a0 b1 z) 0).bind (Sum.elim (λd =>
 some true) (λr=>some r)))
def iy:FL:=(33,⟨[.val false (.one (.sl nP)) false,.val false (.one (.sl nP)) false],[.val false mS (some true)],λa=>eB a.1 a.2⟩)::iw
theorem lF:Gd iy:=m7 lD 33 Tryz.f33 [(0,⟨⟨[(5,false,[dI])],[]⟩,
 ⟨[],[]⟩,some ⟨[(4,false,[dB])],[]⟩⟩)] Tryz.func33
def ce (a0:nX) (b1:nX):Option Bool :=
 cond (a0.1 != b1.1)
 (some false)
 (cond (!(a0.2.1==b1.2.1))
 (some false)
 ((bX a0.2.2 b1.2.2).bind λt19 =>
 cond (!t19) (some false) (some true)))
def iz:FL:=(66,⟨[.val true oE false,.val true oE false],[.val false mS (some true)],λa=>ce a.1 a.2⟩)::iy
theorem lG:Gd iz:=m7 lF 66 Tryz.f66 [] Tryz.func66
def lH (a0:List nX) (b1:List nX) (i5:Int):Option (Int⊕(Unit⊕Bool)) :=
 cond (decide (i5<(a0.length:Int)))
 ((at? a0 i5).bind λx19 =>
 (at? b1 i5).bind λx23 =>
 (ce x19 x23).bind λt25 =>
 cond (!t25) (some (.inr (.inr false))) (some (.inl (lT (i5+1)))))
 (some (.inr (.inl ())))
def eC (a0:List nX) (b1:List nX):Option Bool :=
 cond ((a0.length:Int) != (b1.length:Int))
 (some false)
 ((loop (λz=>lH a0 b1 z) 0).bind (Sum.elim (λd =>
 some true) (λr=>some r)))
def iA:FL:=(34,⟨[.val false (.one (.sl oE)) false,.val false (.one (.sl oE)) false],[.val false mS (some true)],λa=>eC a.1 a.2⟩)::iz
theorem lI:Gd iA:=m7 lG 34 Tryz.f34 [(0,⟨⟨[(5,false,[dI])],[]⟩,
 ⟨[],[]⟩,some ⟨[(4,false,[dB])],[]⟩⟩)] Tryz.func34
def d7 (a0:mi) (b1:mi):Option Bool :=
 (eA a0.1 b1.1).bind λt9 =>
 cond (!t9)
 (some false)
 ((eB a0.2.1 b1.2.1).bind λt15 =>
 cond (!t15)
 (some false)
 ((eC a0.2.2 b1.2.2).bind λt21 =>
 cond (!t21) (some false) (some true)))
def iB:FL:=(12,⟨[.val true np false,.val true np false],[.val false mS (some true)],λa=>d7 a.1 a.2⟩)::iA
theorem lJ:Gd iB:=m7 lI 12 Tryz.f12 [] Tryz.func12
def lK (a0:List Int) (b1:List Int) (i5:Int):Option (Int⊕(Unit⊕Bool)) :=
 cond (decide (i5<(a0.length:Int)))
 ((at? a0 i5).bind λx19 =>
 (at? b1 i5).bind λx23 =>
 cond (x19 != x23) (some (.inr (.inr false))) (some (.inl (lT (i5+1)))))
 (some (.inr (.inl ())))
def eD (a0:List Int) (b1:List Int):Option Bool :=
 cond ((a0.length:Int) != (b1.length:Int))
 (some false)
 ((loop (λz=>lK a0 b1 z) 0).bind (Sum.elim (λd =>
 some true) (λr=>some r)))
def iC:FL:=(35,⟨[.val false ux false,.val false ux false],[.val false mS (some true)],λa=>eD a.1 a.2⟩)::iB
theorem lL:Gd iC:=m7 lJ 35 Tryz.f35 [(0,⟨⟨[(5,false,[dI])],[]⟩,
 ⟨[],[]⟩,some ⟨[(4,false,[dB])],[]⟩⟩)] Tryz.func35
def d8 (a0:mO) (b1:mO):Option Bool :=
 cond (a0.1 != b1.1)
 (some false)
 (cond (a0.2.1 != b1.2.1)
 (some false)
 (cond (a0.2.2.1 != b1.2.2.1)
 (some false)
 ((eD a0.2.2.2 b1.2.2.2).bind λt24 =>
 cond (!t24) (some false) (some true))))
def iD:FL:=(13,⟨[.val true mZ false,.val true mZ false],[.val false mS (some true)],λa=>d8 a.1 a.2⟩)::iC
theorem lM:Gd iD:=m7 lL 13 Tryz.f13 [] Tryz.func13
def d9 (k0_1:Int) (out3:List UInt8):Option ((Int×List UInt8)⊕(List UInt8)) :=
 cond (decide (k0_1>0))
 ((zB (pS [IntKind.u8.wrap (lT (48+(k0_1.tmod 10)))]) out3).bind λt15 =>
 some (.inl (lT (k0_1.tdiv 10),t15)))
 (some (.inr out3))
def da (k0:Int):Option (List UInt8) :=
 cond (decide (k0<=0))
 (some [109,48])
 ((loop (λz=>d9 z.1 z.2) (k0,[])).bind λd =>
 (zB [109] d).bind λt19 =>
 some t19)
def iE:FL:=(67,⟨[.val false lY false],[.val false Hm (some true)],λa=>da a⟩)::iD
theorem lN:Gd iE:=m7 lM 67 Tryz.f67 [(0,⟨⟨[(0,false,[dI]),(3,false,[dS])],[]⟩,
 ⟨[(3,false,[dS])],[]⟩,none⟩)] Tryz.func67
def dc (a0:List Int) (k1_1:Int) (i5:Int):Option ((Int×Int)⊕(Int⊕Int)) :=
 cond (decide (i5<(a0.length:Int)))
 ((at? a0 i5).bind λx14 =>
 cond (x14 != k1_1)
 (some (.inr (.inr (-1))))
 (some (.inl (lT (k1_1+1),lT (i5+1)))))
 (some (.inr (.inl k1_1)))
def cf (a0:List Int) (k1:Int):Option Int :=
 (loop (λz=>dc a0 z.1 z.2) (k1,0)).bind (Sum.elim (λd =>
 some d) (λr=>some r))
def a8:FL:=(17,⟨[.val false sR false,.val false lY false],[.val false lY (some true)],λa=>cf a.1 a.2⟩)::iE
theorem aj:Gd a8:=m7 lN 17 Tryz.f17 [(0,⟨⟨[(1,false,[dI]),(5,false,[dI])],[]⟩,
 ⟨[(1,false,[dI])],[]⟩,some ⟨[(4,false,[dI])],[]⟩⟩)] Tryz.func17
def de (k1_1:Int) (i5:Int) (l:List Int):Option ((Int×Int×List Int)⊕(Int×List Int)) :=
 cond (decide (i5<(l.length:Int)))
 ((ix l.length i5).bind λj15 =>
 (l[j15]?).bind λx =>
 let ls:List Int:=l.set j15 k1_1
 some (.inl (lT (k1_1+1),lT (i5+1),ls)))
 (some (.inr (k1_1,l)))
def bt (a0:List Int) (k1:Int):Option ((List Int)×Int) :=
 (loop (λz=>de z.1 z.2.1 z.2.2) (k1,0,a0)).bind λd =>
 some (d.2,d.1)
theorem H6:o7 Tryz.prog ⟨tis,a8,[],true⟩:=aj.trees zh
def tK:pc:=⟨false,sR,λa k=>bt a k⟩
def tL:List (Nat×lV):=[(0,⟨⟨[(1,false,[dI]),(5,false,[dI])],[(1,.tree lY)]⟩,
 ⟨[(1,false,[dI])],[(1,.tree lY)]⟩,none⟩)]
theorem ya:oX ⟨tis,a8,[],true⟩ tL Tryz.f16 (nr Tryz.f16) false sR=λa k=>bt a k:=by kernel_rfl
theorem yb:nG Tryz.prog 16 tK:=by
 have h:=pt (ann:=tL) (agg:=false) (cs:=sR) H6 qL Tryz.func16 (by kernel_rfl) (by kernel_rfl:Tryz.f16.body=some (nr Tryz.f16));rw[ya]at h;exact h
def vc:List (FuncId×pc):=(16,tK)::[]
theorem DU:∀f M,lO vc f=some M->nG Tryz.prog f M:=ow zh yb
theorem Gf:o7 Tryz.prog ⟨tis,a8,vc,true⟩:=aj.trees DU
def df (i1:Int) (t5:Int) (l:List Pt):Option ((Int×Int×List Pt)⊕(Int×List Pt)) :=
 cond (decide (t5<(l.length:Int)))
 ((ix l.length t5).bind λj17 =>
 (l[j17]?).bind λx =>
 let ls:List Pt:=l.set j17 ((i1.tmod 3)==0,x.2.1,x.2.2.1,x.2.2.2.1,x.2.2.2.2.1,x.2.2.2.2.2.1,x.2.2.2.2.2.2.1,x.2.2.2.2.2.2.2)
 (ix ls.length t5).bind λj24 =>
 (ls[j24]?).bind λx_1 =>
 let ls_1:List Pt:=ls.set j24 (x_1.1,lT (i1+1),x_1.2.2.1,x_1.2.2.2.1,x_1.2.2.2.2.1,x_1.2.2.2.2.2.1,x_1.2.2.2.2.2.2.1,x_1.2.2.2.2.2.2.2)
 (ix ls_1.length t5).bind λj33 =>
 (ls_1[j33]?).bind λx_2 =>
 let ls_2:List Pt:=ls_1.set j33 (x_2.1,x_2.2.1,((lT ((lT (i1+1))+1)).tmod 3)==0,x_2.2.2.2.1,x_2.2.2.2.2.1,x_2.2.2.2.2.2.1,x_2.2.2.2.2.2.2.1,x_2.2.2.2.2.2.2.2)
 let i1_1:=lT ((lT ((lT (i1+1))+1))+1)
 (ix ls_2.length t5).bind λj40 =>
 (ls_2[j40]?).bind λx_3 =>
 let ls_3:List Pt:=ls_2.set j40 (x_3.1,x_3.2.1,x_3.2.2.1,i1_1,x_3.2.2.2.2.1,x_3.2.2.2.2.2.1,x_3.2.2.2.2.2.2.1,x_3.2.2.2.2.2.2.2)
 (ix ls_3.length t5).bind λj48 =>
 (ls_3[j48]?).bind λx_4 =>
 let ls_4:List Pt:=ls_3.set j48 (x_4.1,x_4.2.1,x_4.2.2.1,x_4.2.2.2.1,lT (i1_1+1),x_4.2.2.2.2.2.1,x_4.2.2.2.2.2.2.1,x_4.2.2.2.2.2.2.2)
 let i1_2:=lT ((lT (i1_1+1))+1)
 (ix ls_4.length t5).bind λj56 =>
 (ls_4[j56]?).bind λx_5 =>
 let ls_5:List Pt:=ls_4.set j56 (x_5.1,x_5.2.1,x_5.2.2.1,x_5.2.2.2.1,x_5.2.2.2.2.1,i1_2,x_5.2.2.2.2.2.2.1,x_5.2.2.2.2.2.2.2)
 (ix ls_5.length t5).bind λj64 =>
 (ls_5[j64]?).bind λx_6 =>
 let ls_6:List Pt:=ls_5.set j64 (x_6.1,x_6.2.1,x_6.2.2.1,x_6.2.2.2.1,x_6.2.2.2.2.1,x_6.2.2.2.2.2.1,lT (i1_2+1),x_6.2.2.2.2.2.2.2)
 let i1_3:=lT ((lT (i1_2+1))+1)
 (ix ls_6.length t5).bind λj72 =>
 (ls_6[j72]?).bind λx_7 =>
 let ls_7:List Pt:=ls_6.set j72 (x_7.1,x_7.2.1,x_7.2.2.1,x_7.2.2.2.1,x_7.2.2.2.2.1,x_7.2.2.2.2.2.1,x_7.2.2.2.2.2.2.1,i1_3)
 some (.inl (lT (i1_3+1),lT (t5+1),ls_7)))
 (some (.inr (i1,l)))
def cg (a0:List Pt) (k1:Int):Option ((List Pt)×Int) :=
 (loop (λz=>df z.1 z.2.1 z.2.2) (k1,0,a0)).bind λd =>
 some (d.2,d.1)
def uz:pc:=⟨false,(.one (.sl oM)),λa k=>cg a k⟩
def uA:List (Nat×lV):=[(0,⟨⟨[(1,false,[dI]),(5,false,[dI])],[(1,.tree oM)]⟩,
 ⟨[(1,false,[dI])],[(1,.tree oM)]⟩,none⟩)]
theorem yG:oX ⟨tis,a8,vc,true⟩ uA Tryz.f68 (nr Tryz.f68) false (.one (.sl oM))=λa k=>cg a k:=by kernel_rfl
theorem yH:nG Tryz.prog 68 uz:=by
 have h:=pt (ann:=uA) (agg:=false) (cs:=(.one (.sl oM))) Gf qL Tryz.func68 (by kernel_rfl) (by kernel_rfl:Tryz.f68.body=some (nr Tryz.f68));rw[yG]at h;exact h
def vd:List (FuncId×pc):=(68,uz)::vc
theorem DV:∀f M,lO vd f=some M->nG Tryz.prog f M:=ow DU yH
theorem Gg:o7 Tryz.prog ⟨tis,a8,vd,true⟩:=aj.trees DV
def dg (k1_1:Int) (i5:Int) (l:List m0):Option ((Int×Int×List m0)⊕(Int×List m0)) :=
 cond (decide (i5<(l.length:Int)))
 ((ix l.length i5).bind λj15 =>
 (l[j15]?).bind λx =>
 let ls:List m0:=l.set j15 (k1_1,x.2.1,x.2.2.1,x.2.2.2.1,x.2.2.2.2)
 (ix ls.length i5).bind λj22 =>
 (ls[j22]?).bind λx_1 =>
 let ls_1:List m0:=ls.set j22 (x_1.1,lT (k1_1+1),x_1.2.2.1,x_1.2.2.2.1,x_1.2.2.2.2)
 let k1_2:=lT ((lT (k1_1+1))+1)
 (ix ls_1.length i5).bind λj29 =>
 (ls_1[j29]?).bind λx_2 =>
 let ls_2:List m0:=ls_1.set j29 (x_2.1,x_2.2.1,k1_2,x_2.2.2.2.1,x_2.2.2.2.2)
 (ix ls_2.length i5).bind λj36 =>
 (ls_2[j36]?).bind λx_3 =>
 let ls_3:List m0:=ls_2.set j36 (x_3.1,x_3.2.1,x_3.2.2.1,lT (k1_2+1),x_3.2.2.2.2)
 let k1_3:=lT ((lT (k1_2+1))+1)
 (ix ls_3.length i5).bind λj45 =>
 (ls_3[j45]?).bind λx_4 =>
 let ls_4:List m0:=ls_3.set j45 (x_4.1,x_4.2.1,x_4.2.2.1,x_4.2.2.2.1,(k1_3.tmod 3)==0)
 some (.inl (lT (k1_3+1),lT (i5+1),ls_4)))
 (some (.inr (k1_1,l)))
def ch (a0:List m0) (k1:Int):Option ((List m0)×Int) :=
 (loop (λz=>dg z.1 z.2.1 z.2.2) (k1,0,a0)).bind λd =>
 some (d.2,d.1)
def sT:pc:=⟨false,(.one (.sl mz)),λa k=>ch a k⟩
def sU:List (Nat×lV):=[(0,⟨⟨[(1,false,[dI]),(5,false,[dI])],[(1,.tree mz)]⟩,
 ⟨[(1,false,[dI])],[(1,.tree mz)]⟩,none⟩)]
theorem xd:oX ⟨tis,a8,vd,true⟩ sU Tryz.f69 (nr Tryz.f69) false (.one (.sl mz))=λa k=>ch a k:=by kernel_rfl
theorem xe:nG Tryz.prog 69 sT:=by
 have h:=pt (ann:=sU) (agg:=false) (cs:=(.one (.sl mz))) Gg qL Tryz.func69 (by kernel_rfl) (by kernel_rfl:Tryz.f69.body=some (nr Tryz.f69));rw[xd]at h;exact h
def ve:List (FuncId×pc):=(69,sT)::vd
theorem DW:∀f M,lO ve f=some M->nG Tryz.prog f M:=ow DV xe
theorem Gk:o7 Tryz.prog ⟨tis,a8,ve,true⟩:=aj.trees DW
def dh (k1_1:Int) (i5:Int) (l:List nC):Option ((Int×Int×List nC)⊕(Int×List nC)) :=
 cond (decide (i5<(l.length:Int)))
 ((ix l.length i5).bind λj15 =>
 (l[j15]?).bind λx =>
 let ls:List nC:=l.set j15 (k1_1,x.2.1,x.2.2)
 (ix ls.length i5).bind λj22 =>
 (ls[j22]?).bind λx_1 =>
 let ls_1:List nC:=ls.set j22 (x_1.1,lT (k1_1+1),x_1.2.2)
 let k1_2:=lT ((lT (k1_1+1))+1)
 (ix ls_1.length i5).bind λj29 =>
 (ls_1[j29]?).bind λx_2 =>
 let ls_2:List nC:=ls_1.set j29 (x_2.1,x_2.2.1,k1_2)
 some (.inl (lT (k1_2+1),lT (i5+1),ls_2)))
 (some (.inr (k1_1,l)))
def ci (a0:List nC) (k1:Int):Option ((List nC)×Int) :=
 (loop (λz=>dh z.1 z.2.1 z.2.2) (k1,0,a0)).bind λd =>
 some (d.2,d.1)
def sV:pc:=⟨false,(.one (.sl oe)),λa k=>ci a k⟩
def sW:List (Nat×lV):=[(0,⟨⟨[(1,false,[dI]),(5,false,[dI])],[(1,.tree oe)]⟩,
 ⟨[(1,false,[dI])],[(1,.tree oe)]⟩,none⟩)]
theorem xf:oX ⟨tis,a8,ve,true⟩ sW Tryz.f70 (nr Tryz.f70) false (.one (.sl oe))=λa k=>ci a k:=by kernel_rfl
theorem xg:nG Tryz.prog 70 sV:=by
 have h:=pt (ann:=sW) (agg:=false) (cs:=(.one (.sl oe))) Gk qL Tryz.func70 (by kernel_rfl) (by kernel_rfl:Tryz.f70.body=some (nr Tryz.f70));rw[xf]at h;exact h
def vf:List (FuncId×pc):=(70,sV)::ve
theorem DX:∀f M,lO vf f=some M->nG Tryz.prog f M:=ow DW xg
theorem Gl:o7 Tryz.prog ⟨tis,a8,vf,true⟩:=aj.trees DX
def dj (i1:Int) (t5:Int) (l:List lS):Option ((Int×Int×List lS)⊕(Int×List lS)) :=
 cond (decide (t5<(l.length:Int)))
 ((ix l.length t5).bind λj15 =>
 (l[j15]?).bind λx =>
 let ls:List lS:=l.set j15 (i1,x.2.1,x.2.2.1,x.2.2.2.1,x.2.2.2.2.1,x.2.2.2.2.2.1,x.2.2.2.2.2.2.1,x.2.2.2.2.2.2.2.1,x.2.2.2.2.2.2.2.2.1,x.2.2.2.2.2.2.2.2.2.1,x.2.2.2.2.2.2.2.2.2.2)
 (da (lT (i1+1))).bind λt22 =>
 (ix ls.length t5).bind λj23 =>
 (ls[j23]?).bind λx_1 =>
 let ls_1:List lS:=ls.set j23 (x_1.1,t22,x_1.2.2.1,x_1.2.2.2.1,x_1.2.2.2.2.1,x_1.2.2.2.2.2.1,x_1.2.2.2.2.2.2.1,x_1.2.2.2.2.2.2.2.1,x_1.2.2.2.2.2.2.2.2.1,x_1.2.2.2.2.2.2.2.2.2.1,x_1.2.2.2.2.2.2.2.2.2.2)
 (ix ls_1.length t5).bind λj29 =>
 (ls_1[j29]?).bind λx31 =>
 (ls_1[j29]?).bind λx_2 =>
 (cg x_2.2.2.1 (lT ((lT (i1+1))+1))).bind λz =>
 let ls_2:List lS:=ls_1.set j29 (x_2.1,x_2.2.1,z.1,x_2.2.2.2.1,x_2.2.2.2.2.1,x_2.2.2.2.2.2.1,x_2.2.2.2.2.2.2.1,x_2.2.2.2.2.2.2.2.1,x_2.2.2.2.2.2.2.2.2.1,x_2.2.2.2.2.2.2.2.2.2.1,x_2.2.2.2.2.2.2.2.2.2.2)
 (ix ls_2.length t5).bind λj36 =>
 (ls_2[j36]?).bind λx38 =>
 (ls_2[j36]?).bind λx_3 =>
 (ch x_3.2.2.2.1 z.2).bind λz_1 =>
 let ls_3:List lS:=ls_2.set j36 (x_3.1,x_3.2.1,x_3.2.2.1,z_1.1,x_3.2.2.2.2.1,x_3.2.2.2.2.2.1,x_3.2.2.2.2.2.2.1,x_3.2.2.2.2.2.2.2.1,x_3.2.2.2.2.2.2.2.2.1,x_3.2.2.2.2.2.2.2.2.2.1,x_3.2.2.2.2.2.2.2.2.2.2)
 (ix ls_3.length t5).bind λj43 =>
 (ls_3[j43]?).bind λx46 =>
 (ls_3[j43]?).bind λx_4 =>
 (ci x_4.2.2.2.2.1 z_1.2).bind λz_2 =>
 let ls_4:List lS:=ls_3.set j43 (x_4.1,x_4.2.1,x_4.2.2.1,x_4.2.2.2.1,z_2.1,x_4.2.2.2.2.2.1,x_4.2.2.2.2.2.2.1,x_4.2.2.2.2.2.2.2.1,x_4.2.2.2.2.2.2.2.2.1,x_4.2.2.2.2.2.2.2.2.2.1,x_4.2.2.2.2.2.2.2.2.2.2)
 (ix ls_4.length t5).bind λj51 =>
 (ls_4[j51]?).bind λx54 =>
 (ls_4[j51]?).bind λx_5 =>
 (bt x_5.2.2.2.2.2.1 z_2.2).bind λz_3 =>
 let ls_5:List lS:=ls_4.set j51 (x_5.1,x_5.2.1,x_5.2.2.1,x_5.2.2.2.1,x_5.2.2.2.2.1,z_3.1,x_5.2.2.2.2.2.2.1,x_5.2.2.2.2.2.2.2.1,x_5.2.2.2.2.2.2.2.2.1,x_5.2.2.2.2.2.2.2.2.2.1,x_5.2.2.2.2.2.2.2.2.2.2)
 (ix ls_5.length t5).bind λj60 =>
 (ls_5[j60]?).bind λx_6 =>
 let ls_6:List lS:=ls_5.set j60 (x_6.1,x_6.2.1,x_6.2.2.1,x_6.2.2.2.1,x_6.2.2.2.2.1,x_6.2.2.2.2.2.1,z_3.2,x_6.2.2.2.2.2.2.2.1,x_6.2.2.2.2.2.2.2.2.1,x_6.2.2.2.2.2.2.2.2.2.1,x_6.2.2.2.2.2.2.2.2.2.2)
 (ix ls_6.length t5).bind λj67 =>
 (ls_6[j67]?).bind λx_7 =>
 let ls_7:List lS:=ls_6.set j67 (x_7.1,x_7.2.1,x_7.2.2.1,x_7.2.2.2.1,x_7.2.2.2.2.1,x_7.2.2.2.2.2.1,x_7.2.2.2.2.2.2.1,lT (z_3.2+1),x_7.2.2.2.2.2.2.2.2.1,x_7.2.2.2.2.2.2.2.2.2.1,x_7.2.2.2.2.2.2.2.2.2.2)
 let i1_1:=lT ((lT (z_3.2+1))+1)
 (ix ls_7.length t5).bind λj74 =>
 (ls_7[j74]?).bind λx_8 =>
 let ls_8:List lS:=ls_7.set j74 (x_8.1,x_8.2.1,x_8.2.2.1,x_8.2.2.2.1,x_8.2.2.2.2.1,x_8.2.2.2.2.2.1,x_8.2.2.2.2.2.2.1,x_8.2.2.2.2.2.2.2.1,i1_1,x_8.2.2.2.2.2.2.2.2.2.1,x_8.2.2.2.2.2.2.2.2.2.2)
 (ix ls_8.length t5).bind λj81 =>
 (ls_8[j81]?).bind λx_9 =>
 let ls_9:List lS:=ls_8.set j81 (x_9.1,x_9.2.1,x_9.2.2.1,x_9.2.2.2.1,x_9.2.2.2.2.1,x_9.2.2.2.2.2.1,x_9.2.2.2.2.2.2.1,x_9.2.2.2.2.2.2.2.1,x_9.2.2.2.2.2.2.2.2.1,lT (i1_1+1),x_9.2.2.2.2.2.2.2.2.2.2)
 let i1_2:=lT ((lT (i1_1+1))+1)
 (ix ls_9.length t5).bind λj88 =>
 (ls_9[j88]?).bind λx_10 =>
 let ls_10:List lS:=ls_9.set j88 (x_10.1,x_10.2.1,x_10.2.2.1,x_10.2.2.2.1,x_10.2.2.2.2.1,x_10.2.2.2.2.2.1,x_10.2.2.2.2.2.2.1,x_10.2.2.2.2.2.2.2.1,x_10.2.2.2.2.2.2.2.2.1,x_10.2.2.2.2.2.2.2.2.2.1,i1_2)
 some (.inl (lT (i1_2+1),lT (t5+1),ls_10)))
 (some (.inr (i1,l)))
def cj (a0:List lS) (k1:Int):Option ((List lS)×Int) :=
 (loop (λz=>dj z.1 z.2.1 z.2.2) (k1,0,a0)).bind λd =>
 some (d.2,d.1)
def rW:pc:=⟨false,(.one (.sl mb)),λa k=>cj a k⟩
def rX:List (Nat×lV):=[(0,⟨⟨[(1,false,[dI]),(5,false,[dI])],[(1,.tree mb)]⟩,
 ⟨[(1,false,[dI])],[(1,.tree mb)]⟩,none⟩)]
theorem we:oX ⟨tis,a8,vf,true⟩ rX Tryz.f36 (nr Tryz.f36) false (.one (.sl mb))=λa k=>cj a k:=by kernel_rfl
theorem wg:nG Tryz.prog 36 rW:=by
 have h:=pt (ann:=rX) (agg:=false) (cs:=(.one (.sl mb))) Gl qL Tryz.func36 (by kernel_rfl) (by kernel_rfl:Tryz.f36.body=some (nr Tryz.f36));rw[we]at h;exact h
def vg:List (FuncId×pc):=(36,rW)::vf
theorem DY:∀f M,lO vg f=some M->nG Tryz.prog f M:=ow DX wg
theorem Gm:o7 Tryz.prog ⟨tis,a8,vg,true⟩:=aj.trees DY
def dk (k1_1:Int) (i5:Int) (l:List my):Option ((Int×Int×List my)⊕(Int×List my)) :=
 cond (decide (i5<(l.length:Int)))
 ((ix l.length i5).bind λj15 =>
 (l[j15]?).bind λx =>
 let ls:List my:=l.set j15 (k1_1,x.2.1,x.2.2.1,x.2.2.2)
 (ix ls.length i5).bind λj22 =>
 (ls[j22]?).bind λx_1 =>
 let ls_1:List my:=ls.set j22 (x_1.1,lT (k1_1+1),x_1.2.2.1,x_1.2.2.2)
 let k1_2:=lT ((lT (k1_1+1))+1)
 (ix ls_1.length i5).bind λj29 =>
 (ls_1[j29]?).bind λx_2 =>
 let ls_2:List my:=ls_1.set j29 (x_2.1,x_2.2.1,k1_2,x_2.2.2.2)
 (ix ls_2.length i5).bind λj36 =>
 (ls_2[j36]?).bind λx_3 =>
 let ls_3:List my:=ls_2.set j36 (x_3.1,x_3.2.1,x_3.2.2.1,lT (k1_2+1))
 let k1_3:=lT ((lT (k1_2+1))+1)
 some (.inl (k1_3,lT (i5+1),ls_3)))
 (some (.inr (k1_1,l)))
def ck (a0:List my) (k1:Int):Option ((List my)×Int) :=
 (loop (λz=>dk z.1 z.2.1 z.2.2) (k1,0,a0)).bind λd =>
 some (d.2,d.1)
def sX:pc:=⟨false,(.one (.sl nP)),λa k=>ck a k⟩
def sY:List (Nat×lV):=[(0,⟨⟨[(1,false,[dI]),(5,false,[dI])],[(1,.tree nP)]⟩,
 ⟨[(1,false,[dI])],[(1,.tree nP)]⟩,none⟩)]
theorem xh:oX ⟨tis,a8,vg,true⟩ sY Tryz.f37 (nr Tryz.f37) false (.one (.sl nP))=λa k=>ck a k:=by kernel_rfl
theorem xi:nG Tryz.prog 37 sX:=by
 have h:=pt (ann:=sY) (agg:=false) (cs:=(.one (.sl nP))) Gm qL Tryz.func37 (by kernel_rfl) (by kernel_rfl:Tryz.f37.body=some (nr Tryz.f37));rw[xh]at h;exact h
def vh:List (FuncId×pc):=(37,sX)::vg
theorem DZ:∀f M,lO vh f=some M->nG Tryz.prog f M:=ow DY xi
theorem Gn:o7 Tryz.prog ⟨tis,a8,vh,true⟩:=aj.trees DZ
def dl (i1:Int) (t5:Int) (l:List nX):Option ((Int×Int×List nX)⊕(Int×List nX)) :=
 cond (decide (t5<(l.length:Int)))
 ((ix l.length t5).bind λj15 =>
 (l[j15]?).bind λx =>
 let ls:List nX:=l.set j15 (i1,x.2.1,x.2.2.1,x.2.2.2.1,x.2.2.2.2.1,x.2.2.2.2.2.1,x.2.2.2.2.2.2)
 (ix ls.length t5).bind λj24 =>
 (ls[j24]?).bind λx_1 =>
 let ls_1:List nX:=ls.set j24 (x_1.1,((lT (i1+1)).tmod 3)==0,x_1.2.2.1,x_1.2.2.2.1,x_1.2.2.2.2.1,x_1.2.2.2.2.2.1,x_1.2.2.2.2.2.2)
 (ix ls_1.length t5).bind λj31 =>
 (ls_1[j31]?).bind λx_2 =>
 let ls_2:List nX:=ls_1.set j31 (x_2.1,x_2.2.1,lT ((lT (i1+1))+1),x_2.2.2.2.1,x_2.2.2.2.2.1,x_2.2.2.2.2.2.1,x_2.2.2.2.2.2.2)
 let i1_1:=lT ((lT ((lT (i1+1))+1))+1)
 (ix ls_2.length t5).bind λj39 =>
 (ls_2[j39]?).bind λx_3 =>
 let ls_3:List nX:=ls_2.set j39 (x_3.1,x_3.2.1,x_3.2.2.1,i1_1,x_3.2.2.2.2.1,x_3.2.2.2.2.2.1,x_3.2.2.2.2.2.2)
 (ix ls_3.length t5).bind λj47 =>
 (ls_3[j47]?).bind λx_4 =>
 let ls_4:List nX:=ls_3.set j47 (x_4.1,x_4.2.1,x_4.2.2.1,x_4.2.2.2.1,lT (i1_1+1),x_4.2.2.2.2.2.1,x_4.2.2.2.2.2.2)
 let i1_2:=lT ((lT (i1_1+1))+1)
 (ix ls_4.length t5).bind λj55 =>
 (ls_4[j55]?).bind λx_5 =>
 let ls_5:List nX:=ls_4.set j55 (x_5.1,x_5.2.1,x_5.2.2.1,x_5.2.2.2.1,x_5.2.2.2.2.1,i1_2,x_5.2.2.2.2.2.2)
 (ix ls_5.length t5).bind λj63 =>
 (ls_5[j63]?).bind λx_6 =>
 let ls_6:List nX:=ls_5.set j63 (x_6.1,x_6.2.1,x_6.2.2.1,x_6.2.2.2.1,x_6.2.2.2.2.1,x_6.2.2.2.2.2.1,lT (i1_2+1))
 let i1_3:=lT ((lT (i1_2+1))+1)
 some (.inl (i1_3,lT (t5+1),ls_6)))
 (some (.inr (i1,l)))
def cm (a0:List nX) (k1:Int):Option ((List nX)×Int) :=
 (loop (λz=>dl z.1 z.2.1 z.2.2) (k1,0,a0)).bind λd =>
 some (d.2,d.1)
def tM:pc:=⟨false,(.one (.sl oE)),λa k=>cm a k⟩
def tN:List (Nat×lV):=[(0,⟨⟨[(1,false,[dI]),(5,false,[dI])],[(1,.tree oE)]⟩,
 ⟨[(1,false,[dI])],[(1,.tree oE)]⟩,none⟩)]
theorem yd:oX ⟨tis,a8,vh,true⟩ tN Tryz.f38 (nr Tryz.f38) false (.one (.sl oE))=λa k=>cm a k:=by kernel_rfl
theorem ye:nG Tryz.prog 38 tM:=by
 have h:=pt (ann:=tN) (agg:=false) (cs:=(.one (.sl oE))) Gn qL Tryz.func38 (by kernel_rfl) (by kernel_rfl:Tryz.f38.body=some (nr Tryz.f38));rw[yd]at h;exact h
def vi:List (FuncId×pc):=(38,tM)::vh
theorem E0:∀f M,lO vi f=some M->nG Tryz.prog f M:=ow DZ ye
theorem Gp:o7 Tryz.prog ⟨tis,a8,vi,true⟩:=aj.trees E0
def bu (a0:mi) (k1:Int):Option (mi×Int) :=
 (cj a0.1 k1).bind λz =>
 (ck a0.2.1 z.2).bind λz_1 =>
 (cm a0.2.2 z_1.2).bind λz_2 =>
 some ((z.1,z_1.1,z_2.1),z_2.2)
def uB:pc:=⟨true,np,λa k=>bu a k⟩
theorem yI:oX ⟨tis,a8,vi,true⟩ [] Tryz.f14 (nr Tryz.f14) true np=λa k=>bu a k:=by kernel_rfl
theorem yJ:nG Tryz.prog 14 uB:=by
 have h:=pt (ann:=[]) (agg:=true) (cs:=np) Gp qL Tryz.func14 (by kernel_rfl) (by kernel_rfl:Tryz.f14.body=some (nr Tryz.f14));rw[yI]at h;exact h
def vj:List (FuncId×pc):=(14,uB)::vi
theorem E1:∀f M,lO vj f=some M->nG Tryz.prog f M:=ow E0 yJ
theorem Gq:o7 Tryz.prog ⟨tis,a8,vj,true⟩:=aj.trees E1
def dn (k1_1:Int) (i5:Int) (l:List Int):Option ((Int×Int×List Int)⊕(Int×List Int)) :=
 cond (decide (i5<(l.length:Int)))
 ((ix l.length i5).bind λj16 =>
 (l[j16]?).bind λx =>
 let ls:List Int:=l.set j16 (IntKind.u8.wrap (k1_1))
 some (.inl (lT (k1_1+1),lT (i5+1),ls)))
 (some (.inr (k1_1,l)))
def cn (a0:List Int) (k1:Int):Option ((List Int)×Int) :=
 (loop (λz=>dn z.1 z.2.1 z.2.2) (k1,0,a0)).bind λd =>
 some (d.2,d.1)
def sZ:pc:=⟨false,ux,λa k=>cn a k⟩
def t0:List (Nat×lV):=[(0,⟨⟨[(1,false,[dI]),(5,false,[dI])],[(1,.tree (.one (.int .u8)))]⟩,
 ⟨[(1,false,[dI])],[(1,.tree (.one (.int .u8)))]⟩,none⟩)]
theorem xj:oX ⟨tis,a8,vj,true⟩ t0 Tryz.f39 (nr Tryz.f39) false ux=λa k=>cn a k:=by kernel_rfl
theorem xk:nG Tryz.prog 39 sZ:=by
 have h:=pt (ann:=t0) (agg:=false) (cs:=ux) Gq qL Tryz.func39 (by kernel_rfl) (by kernel_rfl:Tryz.f39.body=some (nr Tryz.f39));rw[xj]at h;exact h
def vk:List (FuncId×pc):=(39,sZ)::vj
theorem E2:∀f M,lO vk f=some M->nG Tryz.prog f M:=ow E1 xk
theorem Gr:o7 Tryz.prog ⟨tis,a8,vk,true⟩:=aj.trees E2
def co (a0:mO) (k1:Int):Option (mO×Int) :=
 (cn a0.2.2.2 k1).bind λz =>
 some ((a0.1,a0.2.1,a0.2.2.1,z.1),z.2)
def ta:pc:=⟨true,mZ,λa k=>co a k⟩
theorem xl:oX ⟨tis,a8,vk,true⟩ [] Tryz.f15 (nr Tryz.f15) true mZ=λa k=>co a k:=by kernel_rfl
theorem xm:nG Tryz.prog 15 ta:=by
 have h:=pt (ann:=[]) (agg:=true) (cs:=mZ) Gr qL Tryz.func15 (by kernel_rfl) (by kernel_rfl:Tryz.f15.body=some (nr Tryz.f15));rw[xl]at h;exact h
def xn:List (FuncId×pc):=(15,ta)::vk
theorem Gt:∀f M,lO xn f=some M->nG Tryz.prog f M:=ow E2 xm
theorem Gu:o7 Tryz.prog ⟨tis,a8,xn,true⟩:=aj.trees Gt
def pp (p0:mi) (i1:Int) (a2:Int) (a3:mO):Option Bool :=
 (dz p0 1048576).bind λt20 =>
 cond (decide (t20<0))
 (some true)
 ((dC a3 t20).bind λt25 =>
 cond (decide (t25<0))
 (some true)
 ((aH p0).bind λt29 =>
 (aI a3).bind λt33 =>
 (cM t29 i1 a2 t33).bind λt34 =>
 (aH p0).bind λt36 =>
 (aI a3).bind λt38 =>
 (bW t36 i1 a2 t38).bind λt43 =>
 (br t43 t34).bind λt46 =>
 cond (!t46)
 (some false)
 ((aH p0).bind λt50 =>
 (d7 t36 t50).bind λt51 =>
 cond (!t51)
 (some false)
 ((aI a3).bind λt55 =>
 (d8 t38 t55).bind λt56 =>
 cond (!t56)
 (some false)
 ((bu t36 1).bind λz =>
 (co t38 z.2).bind λz_1 =>
 (cond (decide (z_1.2<0))
 (some true)
 ((br t43 t34).bind λt69 =>
 some (!t69))).bind λt71 =>
 cond t71
 (some false)
 ((bt t43 1).bind λz_2 =>
 (cf z_2.1 1).bind λt77 =>
 cond (decide (t77<0))
 (some false)
 (cond (t77 != z_2.2)
 (some false)
 ((aH p0).bind λt84 =>
 (aI a3).bind λt88 =>
 (bW t84 i1 a2 t88).bind λt89 =>
 (br t89 t34).bind λt92 =>
 cond (!t92)
 (some false)
 ((cf z_2.1 1).bind λt96 =>
 cond (decide (t96<0)) (some false) (cond (t96 != z_2.2) (some false) (some true)))))))))))
def vl:Fn:=⟨[.val true np false,.val false lY false,.val false lY false,.val true mZ false],[.val false mS (some true)],λa=>pp a.1 a.2.1 a.2.2.1 a.2.2.2⟩
theorem vm:wu ⟨tis,a8,xn,true⟩ [] Tryz.f3 (nr Tryz.f3) [.val true np false,.val false lY false,.val false lY false,.val true mZ false] [.val false mS (some true)]=λa=>pp a.1 a.2.1 a.2.2.1 a.2.2.2:=by kernel_rfl
theorem m_laws_FnExactVisits:si Tryz.prog 3 vl:=by
 have h:=Ac (ann:=[]) (ps:=[.val true np false,.val false lY false,.val false lY false,.val true mZ false]) (rs:=[.val false mS (some true)]) Gu qL Tryz.func3 (by kernel_rfl) (by kernel_rfl:Tryz.f3.body=some (nr Tryz.f3));rw[vm]at h;exact h
end
end Go.V.W

