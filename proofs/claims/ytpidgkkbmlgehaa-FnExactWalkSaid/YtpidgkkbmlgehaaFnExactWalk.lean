/- The law FnExactWalk: part of the proof that for every input it returns true. No condition. -/
import Derived.Test.YtpidgkkbmlgehaaV4
import Derived.Test.YtpidgkkbmlgehaaProg
import Derived.Test.YtpidgkkbmlgehaaChecked
import Derived.KernelRfl
set_option linter.unusedVariables false
set_option linter.unusedSimpArgs false
namespace Go.V.W
open Go.Proofs
noncomputable section
def us:Nat->Nat->List (Nat×Bool×List iB)->List (Nat×Bool×List iB)|_,0,l=>l|a,n+1,l=>(a,false,[.undef])::us (a+1) n l
@[reducible] def gV:Cs:=.one (.int .i64)
@[reducible] def jn:Cs:=.one .bool
@[reducible] def kH:Cs:=.one (.sl (.one (.int .i64)))
@[reducible] def B8:Cs:=.one .str
@[reducible] def dI:iB:=.dat (.int .i64)
@[reducible] def dB:iB:=.dat .bool
@[reducible] def dS:iB:=.dat .str
@[reducible] def kK:Cs:=.cons (.int .i64) (.cons (.int .i64) (.cons (.int .i64) (.cons (.int .i64) gV)))
@[reducible] def kl:Cs:=.cons .bool (.cons (.int .i64) (.cons .bool (.cons (.int .i64) (.cons (.int .i64) (.cons (.int .i64) (.cons (.int .i64) gV))))))
@[reducible] def ja:Cs:=.cons (.int .i64) (.cons (.int .i64) (.cons (.int .i64) (.cons (.int .i64) jn)))
@[reducible] def jt:Cs:=.cons (.int .i64) (.cons (.int .i64) gV)
@[reducible] def kM:Cs:=.cons (.sl jt) kH
@[reducible] def il:Cs:=.cons (.int .i64) (.cons .str (.cons (.sl kl) (.cons (.sl ja) (.cons (.sl jt) (.cons (.sl gV) (.cons (.int .i64) (.cons (.int .i64) (.cons (.int .i64) (.cons (.int .i64) gV)))))))))
@[reducible] def rV:Cs:=.cons (.int .i64) (.cons (.int .i64) (.cons .str kH))
@[reducible] def i7:Cs:=.cons (.sl gV) (.cons (.int .i64) (.cons (.int .i64) (.cons .str kH)))
abbrev lD:Type:=Int×Int×Int×Int×Int
abbrev Pt:Type:=Bool×Int×Bool×Int×Int×Int×Int×Int
abbrev im:Type:=Int×Int×Int×Int×Bool
abbrev j6:Type:=Int×Int×Int
abbrev jl:Type:=List j6×List Int
abbrev gC:Type:=Int×List UInt8×List Pt×List im×List j6×List Int×Int×Int×Int×Int×Int
abbrev qN:Type:=Int×Int×List UInt8×List Int
abbrev gG:Type:=List Int×Int×Int×List UInt8×List Int
def tis:List (Nat×gN):=[(2,⟨false,.one (.int .i64),[],0⟩),
 (3,⟨false,.one (.int .i64),[],0⟩),
 (4,⟨false,.one .bool,[],0⟩),
 (5,⟨false,.one (.int .u8),[],0⟩),
 (6,⟨false,.one (.int .u8),[],0⟩),
 (9,⟨false,.one .str,[],0⟩),
 (10,⟨false,.one .str,[],0⟩),
 (11,⟨false,.one .str,[],0⟩),
 (12,⟨false,.one (.int .u64),[],0⟩),
 (21,⟨false,.one (.int .i32),[],0⟩),
 (22,⟨false,.one (.sl kl),[],78⟩),
 (23,⟨false,.one (.sl ja),[],82⟩),
 (24,⟨false,.one (.sl jt),[],98⟩),
 (25,⟨false,.one (.sl gV),[],3⟩),
 (26,⟨true,kM,[(24,0),(25,1)],0⟩),
 (27,⟨true,kM,[(24,0),(25,1)],0⟩),
 (28,⟨true,il,[(3,0),(9,1),(22,2),(23,3),(27,4),(3,6),(3,7),(3,8),(3,9),(3,10)],0⟩),
 (29,⟨true,il,[(3,0),(9,1),(22,2),(23,3),(27,4),(3,6),(3,7),(3,8),(3,9),(3,10)],0⟩),
 (31,⟨false,.one (.sl i7),[],56⟩),
 (33,⟨false,.one (.sl kl),[],74⟩),
 (34,⟨false,.one (.sl ja),[],80⟩),
 (35,⟨false,.one (.sl jt),[],94⟩),
 (36,⟨true,kM,[(35,0),(25,1)],0⟩),
 (37,⟨true,kM,[(35,0),(25,1)],0⟩),
 (38,⟨true,il,[(3,0),(9,1),(33,2),(34,3),(37,4),(3,6),(3,7),(3,8),(3,9),(3,10)],0⟩),
 (39,⟨true,il,[(3,0),(9,1),(33,2),(34,3),(37,4),(3,6),(3,7),(3,8),(3,9),(3,10)],0⟩),
 (53,⟨true,rV,[(3,0),(3,1),(9,2),(25,3)],0⟩),
 (54,⟨true,rV,[(3,0),(3,1),(9,2),(25,3)],0⟩),
 (55,⟨true,i7,[(25,0),(54,1)],0⟩),
 (56,⟨true,i7,[(25,0),(54,1)],0⟩),
 (71,⟨true,kK,[(3,0),(3,1),(3,2),(3,3),(3,4)],0⟩),
 (72,⟨true,kK,[(3,0),(3,1),(3,2),(3,3),(3,4)],0⟩),
 (73,⟨true,kl,[(4,0),(3,1),(4,2),(72,3)],0⟩),
 (74,⟨true,kl,[(4,0),(3,1),(4,2),(72,3)],0⟩),
 (76,⟨true,kK,[(3,0),(3,1),(3,2),(3,3),(3,4)],0⟩),
 (77,⟨true,kl,[(4,0),(3,1),(4,2),(76,3)],0⟩),
 (78,⟨true,kl,[(4,0),(3,1),(4,2),(76,3)],0⟩),
 (79,⟨true,ja,[(3,0),(3,1),(3,2),(3,3),(4,4)],0⟩),
 (80,⟨true,ja,[(3,0),(3,1),(3,2),(3,3),(4,4)],0⟩),
 (82,⟨true,ja,[(3,0),(3,1),(3,2),(3,3),(4,4)],0⟩),
 (89,⟨false,.one (.sl (.one (.int .u8))),[],5⟩),
 (93,⟨true,jt,[(3,0),(3,1),(3,2)],0⟩),
 (94,⟨true,jt,[(3,0),(3,1),(3,2)],0⟩),
 (98,⟨true,jt,[(3,0),(3,1),(3,2)],0⟩),
 (112,⟨false,.one (.int .u64),[],0⟩),
 (126,⟨false,.one (.int .u32),[],0⟩),
 (127,⟨false,.one (.int .u8),[],0⟩),
 (128,⟨false,.one (.int .u8),[],0⟩),
 (131,⟨false,.one (.int .i32),[],0⟩),
 (132,⟨false,.one (.int .i32),[],0⟩)]
theorem tisT:j7 Try.prog tis:=j7.of_all (by kernel_rfl)
theorem AN:uE Try.prog tis:=uE.of_all (by kernel_rfl)
theorem tisD:Deep Try.prog tis:=Deep.of_all (by kernel_rfl)
theorem nK:Try.prog.follows .mixedOrders=true:=by kernel_rfl
def js (fn:Func):Code:=match fn.body with|some c=>c|none=>.skip
theorem ew:jJ Try.prog ⟨tis,[],[],false⟩:=⟨tisT,AN,(λf F h=>by cases h),(λf M h=>by cases h),(λh=>by cases h)⟩
theorem B9 {l : List (FuncId×Fn)} (g : jJ Try.prog ⟨tis, l, [], false⟩) (n : FuncId) (f : Func) (ann : List (Nat×gB)) (F : Fn) (h1 : Try.prog.funcs[n]?=some f) (h2 : (f.name == "runtime.NumGoroutine")=false := by kernel_rfl) (h3 : f.body=some (js f) := by kernel_rfl) (h4 : qY ⟨tis, l, [], false⟩ ann f (js f) F.ps F.rs=F.den := by kernel_rfl) : nG Try.prog n F := by
 have h:=v6 (ann:=ann) (ps:=F.ps) (rs:=F.rs) g nK h1 h2 h3;rw[h4]at h;exact h
abbrev FL:=List (FuncId×Fn)
def Gd (l:FL):Prop:=jJ Try.prog ⟨tis,l,[],false⟩
theorem ib {l : List (FuncId×Fn)} (g : Gd l) (n : FuncId) (f : Func) (ann : List (Nat×gB)) {F : Fn} (h1 : Try.prog.funcs[n]?=some f) (h2 : (f.name == "runtime.NumGoroutine")=false := by kernel_rfl) (h3 : f.body=some (js f) := by kernel_rfl) (h4 : qY ⟨tis, l, [], false⟩ ann f (js f) F.ps F.rs=F.den := by kernel_rfl) : Gd ((n, F)::l) := jJ.cons g (B9 g n f ann F h1 h2 h3 h4)
def bS (a0:List Pt) (left1:Int):Option Int :=
 let left1_1:=gI (left1-(a0.length:Int))
 cond (decide (left1_1<0)) (some (-1)) (some left1_1)
def cC:FL:=(16,⟨[.val false (.one (.sl kl)) false,.val false gV false],[.val false gV (some true)],λa=>bS a.1 a.2⟩)::[]
theorem ez:Gd cC:=ib ew 16 Try.f16 [] Try.func16
def bT (a0:List im) (left1:Int):Option Int :=
 let left1_1:=gI (left1-(a0.length:Int))
 cond (decide (left1_1<0)) (some (-1)) (some left1_1)
def cD:FL:=(17,⟨[.val false (.one (.sl ja)) false,.val false gV false],[.val false gV (some true)],λa=>bT a.1 a.2⟩)::cC
theorem eA:Gd cD:=ib ez 17 Try.f17 [] Try.func17
def bU (a0:List j6) (left1:Int):Option Int :=
 let left1_1:=gI (left1-(a0.length:Int))
 cond (decide (left1_1<0)) (some (-1)) (some left1_1)
def cE:FL:=(35,⟨[.val false (.one (.sl jt)) false,.val false gV false],[.val false gV (some true)],λa=>bU a.1 a.2⟩)::cD
theorem eB:Gd cE:=ib eA 35 Try.f35 [] Try.func35
def bV (a0:List Int) (left1:Int):Option Int :=
 let left1_1:=gI (left1-(a0.length:Int))
 cond (decide (left1_1<0)) (some (-1)) (some left1_1)
def cG:FL:=(36,⟨[.val false kH false,.val false gV false],[.val false gV (some true)],λa=>bV a.1 a.2⟩)::cE
theorem eC:Gd cG:=ib eB 36 Try.f36 [] Try.func36
def bW (a0:jl) (left1:Int):Option Int :=
 (bU a0.1 left1).bind λt8 =>
 cond (decide (t8<0))
 (some (-1))
 ((bV a0.2 t8).bind λt14 =>
 cond (decide (t14<0)) (some (-1)) (some t14))
def cH:FL:=(18,⟨[.val true kM false,.val false gV false],[.val false gV (some true)],λa=>bW a.1 a.2⟩)::cG
theorem eD:Gd cH:=ib eC 18 Try.f18 [] Try.func18
def bX (a0:gC) (left1:Int):Option Int :=
 let left1_1:=gI (left1-(a0.2.1.length:Int))
 cond (decide (left1_1<0))
 (some (-1))
 ((bS a0.2.2.1 left1_1).bind λt15 =>
 cond (decide (t15<0))
 (some (-1))
 ((bT a0.2.2.2.1 t15).bind λt21 =>
 cond (decide (t21<0))
 (some (-1))
 ((bW (a0.2.2.2.2.1,a0.2.2.2.2.2.1) t21).bind λt27 =>
 cond (decide (t27<0)) (some (-1)) (some t27))))
def cI:FL:=(4,⟨[.val true il false,.val false gV false],[.val false gV (some true)],λa=>bX a.1 a.2⟩)::cH
theorem eE:Gd cI:=ib eD 4 Try.f4 [] Try.func4
def a6 (x0:Int) (least1:Int) (most2:Int):Option Bool :=
 (cond (decide (x0>=least1)) (some (decide (x0<=most2))) (some false)).bind λt14 =>
 some t14
def cJ:FL:=(19,⟨[.val false gV false,.val false gV false,.val false gV false],[.val false jn (some true)],λa=>a6 a.1 a.2.1 a.2.2⟩)::cI
theorem eF:Gd cJ:=ib eE 19 Try.f19 [] Try.func19
def aM (v0:lD):Option Bool :=
 (a6 v0.1 1 99).bind λt5 =>
 (cond t5
 ((a6 v0.2.1 0 100000).bind λt9 =>
 some t9)
 (some false)).bind λt10 =>
 (cond t10
 ((a6 v0.2.2.1 0 10).bind λt14 =>
 some t14)
 (some false)).bind λt15 =>
 (cond t15
 ((a6 v0.2.2.2.1 1 99).bind λt19 =>
 some t19)
 (some false)).bind λt20 =>
 (cond t20
 ((a6 v0.2.2.2.2 0 7).bind λt24 =>
 some t24)
 (some false)).bind λt25 =>
 some t25
def cK:FL:=(75,⟨[.val true kK false],[.val false jn (some true)],λa=>aM a⟩)::cJ
theorem eG:Gd cK:=ib eF 75 Try.f75 [] Try.func75
def aN (p0:Pt):Option Bool :=
 (a6 p0.2.1 1 1000).bind λt5 =>
 (cond (!t5)
 (some true)
 ((cond (!p0.1) (some p0.2.2.1) (some false)).bind λt14 =>
 some t14)).bind λt15 =>
 cond t15
 (some false)
 (cond (!p0.2.2.1)
 (let t2:=p0.2.2.2.1==0&&(p0.2.2.2.2.1==0&&(p0.2.2.2.2.2.1==0&&(p0.2.2.2.2.2.2.1==0&&(p0.2.2.2.2.2.2.2==0))))
 some t2)
 ((aM p0.2.2.2).bind λt25 =>
 some t25))
def cL:FL:=(63,⟨[.val true kl false],[.val false jn (some true)],λa=>aN a⟩)::cK
theorem eH:Gd cL:=ib eG 63 Try.f63 [] Try.func63
def bj (e0:im):Option Bool :=
 (a6 e0.1 1 99).bind λt5 =>
 (cond t5
 ((a6 e0.2.1 1 9999).bind λt9 =>
 some t9)
 (some false)).bind λt10 =>
 (cond t10
 ((a6 e0.2.2.1 0 7).bind λt14 =>
 some t14)
 (some false)).bind λt15 =>
 (cond t15
 ((a6 e0.2.2.2.1 0 4).bind λt19 =>
 some t19)
 (some false)).bind λt20 =>
 (cond t20
 ((cond (!e0.2.2.2.2) (some true) (some (e0.2.2.2.1==0))).bind λt29 =>
 some t29)
 (some false)).bind λt30 =>
 some t30
def cM:FL:=(76,⟨[.val true ja false],[.val false jn (some true)],λa=>bj a⟩)::cL
theorem eI:Gd cM:=ib eH 76 Try.f76 [] Try.func76
def aO (e0:im) (tag1:Int) (mac2:Int):Option Bool :=
 cond (e0.1 != tag1) (some (decide (e0.1<tag1))) (some (decide (e0.2.1<mac2)))
def cN:FL:=(77,⟨[.val true ja false,.val false gV false,.val false gV false],[.val false jn (some true)],λa=>aO a.1 a.2.1 a.2.2⟩)::cM
theorem eJ:Gd cN:=ib eI 77 Try.f77 [] Try.func77
def bY (l0:List im) (i3:Int):Option (Int⊕(Unit⊕Bool)) :=
 cond (decide (i3<(l0.length:Int)))
 ((at? l0 i3).bind λx12 =>
 (bj x12).bind λt14 =>
 (cond (!t14)
 (some true)
 ((cond (decide (i3>0))
 ((at? l0 (gI (i3-1))).bind λx23 =>
 (at? l0 i3).bind λx27 =>
 (at? l0 i3).bind λx32 =>
 (aO x23 x27.1 x32.2.1).bind λt35 =>
 some (!t35))
 (some false)).bind λt37 =>
 some t37)).bind λt38 =>
 cond t38 (some (.inr (.inr false))) (some (.inl (gI (i3+1)))))
 (some (.inr (.inl ())))
def bm (l0:List im):Option Bool :=
 (loop (λz=>bY l0 z) 0).bind (Sum.elim (λd =>
 let t2:=decide ((l0.length:Int)<=12)
 some t2) (λr=>some r))
def cO:FL:=(64,⟨[.val false (.one (.sl ja)) false],[.val false jn (some true)],λa=>bm a⟩)::cN
theorem eK:Gd cO:=ib eJ 64 Try.f64 [(0,⟨⟨(3,false,[dI])::us 17 21 [],[]⟩,
 ⟨[],[]⟩,some ⟨[(2,false,[dB])],[]⟩⟩)] Try.func64
def eL (v0:jl) (id1:Int) (i5:Int):Option (Int⊕(Unit⊕Int)) :=
 cond (decide (i5<(v0.1.length:Int)))
 ((at? v0.1 i5).bind λx16 =>
 cond (x16.1==id1) (some (.inr (.inr i5))) (some (.inl (gI (i5+1)))))
 (some (.inr (.inl ())))
def cP (v0:jl) (id1:Int):Option Int :=
 (loop (λz=>eL v0 id1 z) 0).bind (Sum.elim (λd =>
 some (-1)) (λr=>some r))
def cQ:FL:=(78,⟨[.val true kM false,.val false gV false],[.val false gV (some true)],λa=>cP a.1 a.2⟩)::cO
theorem eM:Gd cQ:=ib eK 78 Try.f78 [(0,⟨⟨[(5,false,[dI])],[]⟩,
 ⟨[],[]⟩,some ⟨[(4,false,[dI])],[]⟩⟩)] Try.func78
def bZ (p0:jl) (t27:Int) (t6:Int):Option (Int⊕(Unit⊕Bool)) :=
 cond (decide (t6<(p0.1.length:Int)))
 ((at? p0.1 t6).bind λx39 =>
 (a6 x39.1 1 99).bind λt43 =>
 (cond (!t43)
 (some true)
 ((a6 x39.2.1 0 (gI (t27-1))).bind λt49 =>
 some (!t49))).bind λt51 =>
 (cond t51
 (some true)
 ((a6 x39.2.2 0 (gI (t27-1))).bind λt56 =>
 some (!t56))).bind λt58 =>
 (cond t58 (some true) (some ((pw .i64 x39.2.2 x39.2.1) != x39.2.2))).bind λt68 =>
 (cond t68
 (some true)
 ((cond (decide (t6>0))
 ((at? p0.1 (gI (t6-1))).bind λx77 =>
 some (decide (x77.1>=x39.1)))
 (some false)).bind λt83 =>
 some t83)).bind λt84 =>
 cond t84 (some (.inr (.inr false))) (some (.inl (gI (t6+1)))))
 (some (.inr (.inl ())))
def cR (p0:jl) (t8:Int):Option (Int⊕(Unit⊕Bool)) :=
 cond (decide (t8<(p0.2.length:Int)))
 ((at? p0.2 t8).bind λx96 =>
 (cP p0 x96).bind λt98 =>
 cond (decide (t98<0)) (some (.inr (.inr false))) (some (.inl (gI (t8+1)))))
 (some (.inr (.inl ())))
def bn (p0:jl) (i1:Int):Option Bool :=
 (a6 i1 1 6).bind λt10 =>
 (cond (!t10) (some true) (some ((p0.2.length:Int) != i1))).bind λt18 =>
 (cond t18 (some true) (some (decide ((p0.1.length:Int)>6)))).bind λt24 =>
 cond t24
 (some false)
 ((shl .i64 1 (IntKind.u64.wrap (i1))).bind λt27 =>
 (loop (λz=>bZ p0 t27 z) 0).bind (Sum.elim (λd =>
 (loop (λz=>cR p0 z) 0).bind (Sum.elim (λd_1 =>
 some true) (λr=>some r))) (λr_1=>some r_1)))
def cS:FL:=(65,⟨[.val true kM false,.val false gV false],[.val false jn (some true)],λa=>bn a.1 a.2⟩)::cQ
theorem eN:Gd cS:=ib eM 65 Try.f65 [(0,⟨⟨(6,false,[dI])::us 46 5 (us 53 5 (us 60 8 (us 70 14 []))),[]⟩,
 ⟨[],[]⟩,some ⟨[(4,false,[dB])],[]⟩⟩),
 (2,⟨⟨[(8,false,[dI])],[]⟩,
 ⟨[],[]⟩,some ⟨[(4,false,[dB])],[]⟩⟩)] Try.func65
def bo (b0:gC):Option Bool :=
 (a6 b0.2.2.2.2.2.2.1 0 1000000).bind λt5 =>
 (cond t5
 ((a6 b0.2.2.2.2.2.2.2.1 0 1000000).bind λt9 =>
 some t9)
 (some false)).bind λt10 =>
 (cond t10
 ((a6 b0.2.2.2.2.2.2.2.2.1 0 1000000).bind λt14 =>
 some t14)
 (some false)).bind λt15 =>
 (cond t15
 ((a6 b0.2.2.2.2.2.2.2.2.2.1 0 1000000).bind λt19 =>
 some t19)
 (some false)).bind λt20 =>
 (cond t20
 ((a6 b0.2.2.2.2.2.2.2.2.2.2 0 1000000).bind λt24 =>
 some t24)
 (some false)).bind λt25 =>
 some t25
def cU:FL:=(66,⟨[.val true il false],[.val false jn (some true)],λa=>bo a⟩)::cS
theorem eO:Gd cU:=ib eN 66 Try.f66 [] Try.func66
def ca (b0:gC) (i3:Int):Option (Int⊕(Unit⊕Bool)) :=
 cond (decide (i3<(b0.2.2.1.length:Int)))
 ((at? b0.2.2.1 i3).bind λx14 =>
 (aN x14).bind λt16 =>
 cond (!t16) (some (.inr (.inr false))) (some (.inl (gI (i3+1)))))
 (some (.inr (.inl ())))
def bp (b0:gC):Option Bool :=
 (loop (λz=>ca b0 z) 0).bind (Sum.elim (λd =>
 (a6 b0.1 1 99).bind λt20 =>
 (cond t20 (some (decide ((b0.2.1.length:Int)<=10))) (some false)).bind λt26 =>
 (cond t26
 ((a6 (b0.2.2.1.length:Int) 1 6).bind λt31 =>
 some t31)
 (some false)).bind λt32 =>
 (cond t32
 ((bm b0.2.2.2.1).bind λt36 =>
 some t36)
 (some false)).bind λt37 =>
 (cond t37
 ((bn (b0.2.2.2.2.1,b0.2.2.2.2.2.1) (b0.2.2.1.length:Int)).bind λt44 =>
 some t44)
 (some false)).bind λt45 =>
 (cond t45
 ((bo b0).bind λt48 =>
 some t48)
 (some false)).bind λt49 =>
 some t49) (λr=>some r))
def cV:FL:=(50,⟨[.val true il false],[.val false jn (some true)],λa=>bp a⟩)::cU
theorem eP:Gd cV:=ib eO 50 Try.f50 [(0,⟨⟨[(3,false,[dI])],[]⟩,
 ⟨[],[]⟩,some ⟨[(2,false,[dB])],[]⟩⟩)] Try.func50
def aA (l0:List Int):Option (List Int) :=
 (lm ([1,3,1]:List Int) l0).bind λzs5 =>
 some zs5
def cW:FL:=(51,⟨[.val false kH false],[.val false kH (some true)],λa=>aA a⟩)::cV
theorem eQ:Gd cW:=ib eP 51 Try.f51 [] Try.func51
def cb (n0:Int):Option qN :=
 some (2,n0,[],[])
def cX:FL:=(67,⟨[.val false gV false],[.val true rV (some true)],λa=>cb a⟩)::cW
theorem eR:Gd cX:=ib eQ 67 Try.f67 [] Try.func67
def a8 (out0:List gG) (name1:List Int) (n2:Int):Option (List gG) :=
 (aA name1).bind λt9 =>
 (cb n2).bind λt11 =>
 (lm out0 [(t9,t11.1,t11.2.1,t11.2.2.1,t11.2.2.2)]).bind λzs14 =>
 some zs14
def cY:FL:=(52,⟨[.val false (.one (.sl i7)) true,.val false kH false,.val false gV false],[.val false (.one (.sl i7)) (some true)],λa=>a8 a.1 a.2.1 a.2.2⟩)::cX
theorem eS:Gd cY:=ib eR 52 Try.f52 [] Try.func52
def bq (a0:lD) (b1:lD):Option Bool :=
 cond (a0.1 != b1.1)
 (some (decide (a0.1<b1.1)))
 (cond (a0.2.1 != b1.2.1)
 (some (decide (a0.2.1<b1.2.1)))
 (cond (a0.2.2.2.1 != b1.2.2.2.1)
 (let t4:=decide (a0.2.2.2.1<b1.2.2.2.1)
 some t4)
 (let t4_1:=decide (a0.2.2.2.2<b1.2.2.2.2)
 some t4_1)))
def cZ:FL:=(80,⟨[.val true kK false,.val true kK false],[.val false jn (some true)],λa=>bq a.1 a.2⟩)::cY
theorem eT:Gd cZ:=ib eS 80 Try.f80 [] Try.func80
def cc (v0:lD) (cost1:Int):Option (lD×Bool) :=
 (aM v0).bind λt8 =>
 (cond (!t8)
 (some true)
 ((a6 cost1 1 1000).bind λt12 =>
 some (!t12))).bind λt14 =>
 cond t14
 (some (v0,false))
 ((aM (v0.1,gI (v0.2.1+cost1),gI (v0.2.2.1+1),v0.2.2.2.1,v0.2.2.2.2)).bind λt27 =>
 cond (!t27)
 (some (v0,false))
 (some ((v0.1,gI (v0.2.1+cost1),gI (v0.2.2.1+1),v0.2.2.2.1,v0.2.2.2.2),true)))
def d5:FL:=(90,⟨[.val true kK false,.val false gV false],[.val true kK (some true),.val false jn (some true)],λa=>cc a.1 a.2⟩)::cZ
theorem eU:Gd d5:=ib eT 90 Try.f90 [] Try.func90
def ce (p0:Int) (i1:List Pt) (t8:Int) (t9:Int) (b0:Int) (b1:Int) (b2:Int) (b3:Int) (b4:Int) (b0_1:Int) (b1_1:Int) (b2_1:Int) (b3_1:Int) (b4_1:Int):Option ((Int×Int×Int×Int×Int×Int×Int×Int×Int×Int×Int×Int)⊕(Int×Int×Int×Int×Int×Int×Int×Int×Int×Int×Int)) :=
 cond (decide (t9<(i1.length:Int)))
 ((at? i1 t9).bind λx24 =>
 (cond (!x24.1)
 (some true)
 ((at? i1 t9).bind λx31 =>
 some (!x31.2.2.1))).bind λt35 =>
 cond t35
 (some (.inl (t8,gI (t9+1),b0,b1,b2,b3,b4,b0_1,b1_1,b2_1,b3_1,b4_1)))
 ((at? i1 t9).bind λx39 =>
 (at? i1 t9).bind λx44 =>
 (cc x39.2.2.2 x44.2.1).bind λt47 =>
 (cond t47.2 (some (decide (t47.1.1<p0))) (some false)).bind λt56 =>
 (cond t56
 ((cond (decide (t8<0))
 (some true)
 ((bq t47.1 (b0_1,b1_1,b2_1,b3_1,b4_1)).bind λt63 =>
 some t63)).bind λt64 =>
 some t64)
 (some false)).bind λt65 =>
 cond t65
 (some (.inl (t9,gI (t9+1),t47.1.1,t47.1.2.1,t47.1.2.2.1,p0,0,t47.1.1,t47.1.2.1,t47.1.2.2.1,t47.1.2.2.2.1,t47.1.2.2.2.2)))
 (some (.inl (t8,gI (t9+1),b0,b1,b2,b3,b4,b0_1,b1_1,b2_1,b3_1,b4_1)))))
 (some (.inr (t8,b0,b1,b2,b3,b4,b0_1,b1_1,b2_1,b3_1,b4_1)))
def aP (p0:Int) (i1:List Pt):Option (lD×Int) :=
 (loop (λz=>ce p0 i1 z.1 z.2.1 z.2.2.1 z.2.2.2.1 z.2.2.2.2.1 z.2.2.2.2.2.1 z.2.2.2.2.2.2.1 z.2.2.2.2.2.2.2.1 z.2.2.2.2.2.2.2.2.1 z.2.2.2.2.2.2.2.2.2.1 z.2.2.2.2.2.2.2.2.2.2.1 z.2.2.2.2.2.2.2.2.2.2.2) ((-1),0,p0,0,0,p0,0,0,0,0,0,0)).bind λd =>
 some ((d.2.1,d.2.2.1,d.2.2.2.1,d.2.2.2.2.1,d.2.2.2.2.2.1),d.1)
def d6:FL:=(79,⟨[.val false gV false,.val false (.one (.sl kl)) false],[.val true kK (some true),.val false gV (some true)],λa=>aP a.1 a.2⟩)::d5
theorem eV:Gd d6:=ib eU 79 Try.f79 [(0,⟨⟨(8,false,[dI])::(9,false,[dI])::us 29 6 (us 52 4 (us 58 7 [])),[(266240,.box [dI,dI,dI,dI,dI]),(526336,.box [dI,dI,dI,dI,dI])]⟩,
 ⟨[(8,false,[dI])],[(266240,.box [dI,dI,dI,dI,dI]),(526336,.box [dI,dI,dI,dI,dI])]⟩,none⟩)] Try.func79
def br (id0:Int) (l1:List Pt) (port2:Int):Option lD :=
 (aP id0 l1).bind λt12 =>
 some (t12.1.1,t12.1.2.1,t12.1.2.2.1,t12.1.2.2.2.1,port2)
def d7:FL:=(81,⟨[.val false gV false,.val false (.one (.sl kl)) false,.val false gV false],[.val true kK (some true)],λa=>br a.1 a.2.1 a.2.2⟩)::d6
theorem eW:Gd d7:=ib eV 81 Try.f81 [] Try.func81
def bt (id0:Int) (l1:List Pt) (port2:Int):Option Int :=
 (a6 port2 0 (gI ((l1.length:Int)-1))).bind λt13 =>
 (cond (!t13)
 (some true)
 ((at? l1 port2).bind λx18 =>
 some (!x18.1))).bind λt22 =>
 cond t22
 (some 4)
 ((aP id0 l1).bind λt26 =>
 cond (t26.2==port2)
 (some 1)
 ((at? l1 port2).bind λx36 =>
 (cond (!x36.2.2.1)
 (some true)
 ((br id0 l1 port2).bind λt44 =>
 (at? l1 port2).bind λx47 =>
 (bq t44 x47.2.2.2).bind λt50 =>
 some t50)).bind λt51 =>
 cond t51 (some 2) (some 3)))
def d8:FL:=(68,⟨[.val false gV false,.val false (.one (.sl kl)) false,.val false gV false],[.val false gV (some true)],λa=>bt a.1 a.2.1 a.2.2⟩)::d7
theorem eX:Gd d8:=ib eW 68 Try.f68 [] Try.func68
def bu (b0:gC) (c1:Int) (p2:Int):Option Int :=
 cond (c1==1)
 ((at? b0.2.2.1 p2).bind λx13 =>
 cond x13.1 (some 1) (some 0))
 (cond (c1==2)
 ((at? b0.2.2.1 p2).bind λx21 =>
 some x21.2.1)
 (cond (c1==3)
 ((bt b0.1 b0.2.2.1 p2).bind λt31 =>
 some t31)
 ((at? b0.2.2.2.2.2.1 p2).bind λx36 =>
 some x36)))
def d9:FL:=(53,⟨[.val true il false,.val false gV false,.val false gV false],[.val false gV (some true)],λa=>bu a.1 a.2.1 a.2.2⟩)::d8
theorem eY:Gd d9:=ib eX 53 Try.f53 [] Try.func53
def cf (r0:j6) (c1:Int):Option Int :=
 cond (c1==1) (some 1) (cond (c1==2) (some r0.2.1) (some r0.2.2))
def da:FL:=(54,⟨[.val true jt false,.val false gV false],[.val false gV (some true)],λa=>cf a.1 a.2⟩)::d9
theorem eZ:Gd da:=ib eY 54 Try.f54 [] Try.func54
def cg (p0:gC) (t4:Int) (t5:Int) (t3_1:List gG):Option ((Int×List gG)⊕(List gG)) :=
 cond (decide (t5<(p0.2.2.1.length:Int)))
 ((bu p0 t4 t5).bind λt59 =>
 (a8 t3_1 [2,t4,gI (t5+1)] t59).bind λt60 =>
 some (.inl (gI (t5+1),t60)))
 (some (.inr t3_1))
def ch (p0:gC) (t4:Int) (t3:List gG):Option ((Int×List gG)⊕(List gG)) :=
 cond (decide (t4<=4))
 ((loop (λz=>cg p0 t4 z.1 z.2) (0,t3)).bind λd =>
 some (.inl (gI (t4+1),d)))
 (some (.inr t3))
def ci (p0:gC) (t6:Int) (t7:Int) (t3_5:List gG):Option ((Int×List gG)⊕(List gG)) :=
 cond (decide (t7<(p0.2.2.2.2.1.length:Int)))
 ((at? p0.2.2.2.2.1 t7).bind λx79 =>
 (at? p0.2.2.2.2.1 t7).bind λx87 =>
 (cf x87 t6).bind λt90 =>
 (a8 t3_5 [3,t6,x79.1] t90).bind λt91 =>
 some (.inl (gI (t7+1),t91)))
 (some (.inr t3_5))
def aQ (p0:gC) (t6:Int) (t3_4:List gG):Option ((Int×List gG)⊕(List gG)) :=
 cond (decide (t6<=3))
 ((loop (λz=>ci p0 t6 z.1 z.2) (0,t3_4)).bind λd_2 =>
 some (.inl (gI (t6+1),d_2)))
 (some (.inr t3_4))
def cj (p0:gC) (t8:Int) (t3_8:List gG):Option ((Int×List gG)⊕(List gG)) :=
 cond (decide (t8<(p0.2.2.2.1.length:Int)))
 ((at? p0.2.2.2.1 t8).bind λx103 =>
 (at? p0.2.2.2.1 t8).bind λx109 =>
 (at? p0.2.2.2.1 t8).bind λx116 =>
 (a8 t3_8 [4,1,x103.1,x109.2.1] (gI (x116.2.2.1+1))).bind λt120 =>
 some (.inl (gI (t8+1),t120)))
 (some (.inr t3_8))
def aR (p0:gC):Option (List gG) :=
 (bp p0).bind λt10 =>
 cond (!t10)
 (some ([]:List gG))
 ((aA ([1,1]:List Int)).bind λt14 =>
 (a8 ([(t14,4,0,p0.2.1,[])]) ([1,2]:List Int) p0.2.2.2.2.2.2.1).bind λt24 =>
 (a8 t24 ([1,3]:List Int) p0.2.2.2.2.2.2.2.1).bind λt29 =>
 (a8 t29 ([1,4]:List Int) p0.2.2.2.2.2.2.2.2.1).bind λt34 =>
 (a8 t34 ([1,5]:List Int) p0.2.2.2.2.2.2.2.2.2.1).bind λt39 =>
 (loop (λz=>ch p0 z.1 z.2) (1,t39)).bind λd_1 =>
 (loop (λz=>aQ p0 z.1 z.2) (1,d_1)).bind λd_3 =>
 (loop (λz=>cj p0 z.1 z.2) (0,d_3)).bind λd_4 =>
 some d_4)
def dc:FL:=(37,⟨[.val true il false],[.val false (.one (.sl i7)) (some true)],λa=>aR a⟩)::da
theorem f0:Gd dc:=ib eZ 37 Try.f37 [(0,⟨⟨[(3,false,[.own 1000000000]),(4,false,[dI])],[(1000000000,.root i7 true)]⟩,
 ⟨[(3,false,[.own 1000000300])],[(1000000300,.root i7 true)]⟩,none⟩),
 (2,⟨⟨[(3,false,[.own 1000002000]),(5,false,[dI])],[(1000002000,.root i7 true)]⟩,
 ⟨[(3,false,[.own 1000002300])],[(1000002300,.root i7 true)]⟩,none⟩),
 (4,⟨⟨[(3,false,[.own 1000004000]),(6,false,[dI])],[(1000004000,.root i7 true)]⟩,
 ⟨[(3,false,[.own 1000004300])],[(1000004300,.root i7 true)]⟩,none⟩),
 (6,⟨⟨[(3,false,[.own 1000006000]),(7,false,[dI])],[(1000006000,.root i7 true)]⟩,
 ⟨[(3,false,[.own 1000006300])],[(1000006300,.root i7 true)]⟩,none⟩),
 (8,⟨⟨[(3,false,[.own 1000008000]),(8,false,[dI])],[(1000008000,.root i7 true)]⟩,
 ⟨[(3,false,[.own 1000008300])],[(1000008300,.root i7 true)]⟩,none⟩)] Try.func37
def fa (a0:List Int) (b1:List Int) (i5:Int):Option (Int⊕(Unit⊕Bool)) :=
 (cond (decide (i5<(a0.length:Int))) (some (decide (i5<(b1.length:Int)))) (some false)).bind λt15 =>
 cond t15
 ((at? a0 i5).bind λx20 =>
 (at? b1 i5).bind λx24 =>
 cond (x20 != x24)
 ((at? a0 i5).bind λx29 =>
 (at? b1 i5).bind λx33 =>
 some (.inr (.inr (decide (x29<x33)))))
 (some (.inl (gI (i5+1)))))
 (some (.inr (.inl ())))
def ck (a0:List Int) (b1:List Int):Option Bool :=
 (loop (λz=>fa a0 b1 z) 0).bind (Sum.elim (λd =>
 let t4:=decide ((a0.length:Int)<(b1.length:Int))
 some t4) (λr=>some r))
def de:FL:=(38,⟨[.val false kH false,.val false kH false],[.val false jn (some true)],λa=>ck a.1 a.2⟩)::dc
theorem fb:Gd de:=ib f0 38 Try.f38 [(0,⟨⟨(5,false,[dI])::us 11 4 [],[]⟩,
 ⟨[],[]⟩,some ⟨[(4,false,[dB])],[]⟩⟩)] Try.func38
def cl (o1:List Int) (t8:List gG) (i6:Int) (b1:Int) (b2:Int) (b3:List UInt8) (b0_1:List Int) (b4:List Int):Option ((Int×Int×Int×List UInt8×List Int×List Int)⊕((Int×Int×List UInt8×List Int×List Int)⊕(List Int×Int×Int×List UInt8×List Int))) :=
 cond (decide (i6<(t8.length:Int)))
 ((ix t8.length i6).bind λj18 =>
 (t8[j18]?).bind λx20 =>
 (ck o1 x20.1).bind λt21 =>
 cond t21
 ((ix t8.length i6).bind λj24 =>
 (t8[j24]?).bind λx25 =>
 some (.inr (.inr x25)))
 (some (.inl (gI (i6+1),b1,b2,b3,b0_1,b4))))
 (some (.inr (.inl (b1,b2,b3,b0_1,b4))))
def bv (b0:gC) (o1:List Int):Option gG :=
 (aR b0).bind λt8 =>
 (loop (λz=>cl o1 t8 z.1 z.2.1 z.2.2.1 z.2.2.2.1 z.2.2.2.2.1 z.2.2.2.2.2) (0,0,0,[],[],[])).bind (Sum.elim (λd =>
 (lm ([]:List Int) o1).bind λzs28 =>
 some (zs28,130,0,[],[])) (λr=>some r))
def df:FL:=(20,⟨[.val true il false,.val false kH false],[.val true i7 none],λa=>bv a.1 a.2⟩)::de
theorem fd:Gd df:=ib fb 20 Try.f20 [(0,⟨⟨[(6,false,[dI])],[(2048,.box [.own 1000000000,dI,dI,dS,.own 1000000001]),(1000000000,.root gV true),(1000000001,.root gV true)]⟩,
 ⟨[],[(2048,.box [.own 1000000300,dI,dI,dS,.own 1000000301]),(1000000300,.root gV true),(1000000301,.root gV true)]⟩,some ⟨[],[(2048,.box [.dat (.sl gV),dI,dI,dS,.dat (.sl gV)])]⟩⟩)] Try.func20
def bw (b0:gC) (n2:Int) (at8:List Int) (out7:List gG):Option ((List Int×List gG)⊕((List gG)⊕(List gG))) :=
 cond (decide ((out7.length:Int)<n2))
 ((bv b0 at8).bind λt22 =>
 cond (t22.2.1==130)
 (some (.inr (.inr out7)))
 ((lm out7 [t22]).bind λzs31 =>
 some (.inl (t22.1,zs31))))
 (some (.inr (.inl out7)))
def aF (b0:gC) (from1:List Int) (n2:Int):Option (List gG) :=
 (a6 n2 0 200).bind λt12 =>
 cond (!t12)
 (some ([]:List gG))
 ((loop (λz=>bw b0 n2 z.1 z.2) (from1,([]:List gG))).bind (Sum.elim (λd =>
 some d) (λr=>some r)))
def dg:FL:=(5,⟨[.val true il false,.val false kH false,.val false gV false],[.val false (.one (.sl i7)) none],λa=>aF a.1 a.2.1 a.2.2⟩)::df
theorem fe:Gd dg:=ib fd 5 Try.f5 [(0,⟨⟨[(7,false,[.own 1000000000]),(8,false,[.dat (.sl gV)])],[(1000000000,.root i7 false)]⟩,
 ⟨[(7,false,[.own 1000000300])],[(1000000300,.root i7 false)]⟩,some ⟨[(6,false,[.own 1000000600])],[(1000000600,.root i7 false)]⟩⟩)] Try.func5
def dh (a0:lD):Option lD :=
 some a0
def dj:FL:=(55,⟨[.val true kK false],[.val true kK (some true)],λa=>dh a⟩)::dg
theorem ff:Gd dj:=ib fe 55 Try.f55 [] Try.func55
def cm (a0:Pt):Option Pt :=
 (dh a0.2.2.2).bind λt15 =>
 some (a0.1,a0.2.1,a0.2.2.1,t15.1,t15.2.1,t15.2.2.1,t15.2.2.2.1,t15.2.2.2.2)
def dk:FL:=(39,⟨[.val true kl false],[.val true kl (some true)],λa=>cm a⟩)::dj
theorem fg:Gd dk:=ib ff 39 Try.f39 [] Try.func39
def fh (a0:List Pt) (i4:Int) (l:List Pt):Option ((Int×List Pt)⊕(List Pt)) :=
 cond (decide (i4<(a0.length:Int)))
 ((at? a0 i4).bind λx18 =>
 (cm x18).bind λt20 =>
 (ix l.length i4).bind λj21 =>
 (l[j21]?).bind λx =>
 some (.inl (gI (i4+1),l.set j21 t20)))
 (some (.inr l))
def cn (a0:List Pt):Option (List Pt) :=
 (mZ (a0.length:Int)).bind λn =>
 (loop (λz=>fh a0 z.1 z.2) (0,List.replicate n ((false,0,false,0,0,0,0,0):Pt))).bind λd =>
 some d
def dl:FL:=(21,⟨[.val false (.one (.sl kl)) false],[.val false (.one (.sl kl)) (some true)],λa=>cn a⟩)::dk
theorem fi:Gd dl:=ib fg 21 Try.f21 [(0,⟨⟨[(4,false,[dI])],[(265216,.keep kl true)]⟩,
 ⟨[],[(265216,.keep kl true)]⟩,none⟩)] Try.func21
def co (a0:im):Option im :=
 some a0
def dn:FL:=(40,⟨[.val true ja false],[.val true ja (some true)],λa=>co a⟩)::dl
theorem fj:Gd dn:=ib fi 40 Try.f40 [] Try.func40
def fk (a0:List im) (i4:Int) (l:List im):Option ((Int×List im)⊕(List im)) :=
 cond (decide (i4<(a0.length:Int)))
 ((at? a0 i4).bind λx18 =>
 (co x18).bind λt20 =>
 (ix l.length i4).bind λj21 =>
 (l[j21]?).bind λx =>
 some (.inl (gI (i4+1),l.set j21 t20)))
 (some (.inr l))
def cp (a0:List im):Option (List im) :=
 (mZ (a0.length:Int)).bind λn =>
 (loop (λz=>fk a0 z.1 z.2) (0,List.replicate n ((0,0,0,0,false):im))).bind λd =>
 some d
def dp:FL:=(22,⟨[.val false (.one (.sl ja)) false],[.val false (.one (.sl ja)) (some true)],λa=>cp a⟩)::dn
theorem fm:Gd dp:=ib fj 22 Try.f22 [(0,⟨⟨[(4,false,[dI])],[(265216,.keep ja true)]⟩,
 ⟨[],[(265216,.keep ja true)]⟩,none⟩)] Try.func22
def fo (a0:List Int) (i4:Int) (l:List Int):Option ((Int×List Int)⊕(List Int)) :=
 cond (decide (i4<(a0.length:Int)))
 ((at? a0 i4).bind λx18 =>
 (ix l.length i4).bind λj20 =>
 (l[j20]?).bind λx =>
 some (.inl (gI (i4+1),l.set j20 x18)))
 (some (.inr l))
def aB (a0:List Int):Option (List Int) :=
 (mZ (a0.length:Int)).bind λn =>
 (loop (λz=>fo a0 z.1 z.2) (0,List.replicate n (0:Int))).bind λd =>
 some d
def dq:FL:=(7,⟨[.val false kH false],[.val false kH (some true)],λa=>aB a⟩)::dp
theorem fp:Gd dq:=ib fm 7 Try.f7 [(0,⟨⟨[(4,false,[dI])],[(265216,.keep gV true)]⟩,
 ⟨[],[(265216,.keep gV true)]⟩,none⟩)] Try.func7
def cq (a0:j6):Option j6 :=
 some a0
def dt:FL:=(56,⟨[.val true jt false],[.val true jt (some true)],λa=>cq a⟩)::dq
theorem fq:Gd dt:=ib fp 56 Try.f56 [] Try.func56
def fr (a0:List j6) (i4:Int) (l:List j6):Option ((Int×List j6)⊕(List j6)) :=
 cond (decide (i4<(a0.length:Int)))
 ((at? a0 i4).bind λx18 =>
 (cq x18).bind λt20 =>
 (ix l.length i4).bind λj21 =>
 (l[j21]?).bind λx =>
 some (.inl (gI (i4+1),l.set j21 t20)))
 (some (.inr l))
def cr (a0:List j6):Option (List j6) :=
 (mZ (a0.length:Int)).bind λn =>
 (loop (λz=>fr a0 z.1 z.2) (0,List.replicate n ((0,0,0):j6))).bind λd =>
 some d
def du:FL:=(41,⟨[.val false (.one (.sl jt)) false],[.val false (.one (.sl jt)) (some true)],λa=>cr a⟩)::dt
theorem ft:Gd du:=ib fq 41 Try.f41 [(0,⟨⟨[(4,false,[dI])],[(265216,.keep jt true)]⟩,
 ⟨[],[(265216,.keep jt true)]⟩,none⟩)] Try.func41
def bx (a0:jl):Option jl :=
 (cr a0.1).bind λt6 =>
 (aB a0.2).bind λt10 =>
 some (t6,t10)
def dv:FL:=(23,⟨[.val true kM false],[.val true kM (some true)],λa=>bx a⟩)::du
theorem fu:Gd dv:=ib ft 23 Try.f23 [] Try.func23
def aC (a0:gC):Option gC :=
 (cn a0.2.2.1).bind λt12 =>
 (cp a0.2.2.2.1).bind λt16 =>
 (bx (a0.2.2.2.2.1,a0.2.2.2.2.2.1)).bind λt20 =>
 some (a0.1,a0.2.1,t12,t16,t20.1,t20.2,a0.2.2.2.2.2.2.1,a0.2.2.2.2.2.2.2.1,a0.2.2.2.2.2.2.2.2.1,a0.2.2.2.2.2.2.2.2.2.1,a0.2.2.2.2.2.2.2.2.2.2)
def dw:FL:=(6,⟨[.val true il false],[.val true il (some true)],λa=>aC a⟩)::dv
theorem fv:Gd dw:=ib fu 6 Try.f6 [] Try.func6
def a7 (n0:Int) (low1:Int) (high2:Int):Option Bool :=
 (cond (decide (n0>=low1)) (some (decide (n0<=high2))) (some false)).bind λt14 =>
 some t14
def dx:FL:=(24,⟨[.val false gV false,.val false gV false,.val false gV false],[.val false jn (some true)],λa=>a7 a.1 a.2.1 a.2.2⟩)::dw
theorem fw:Gd dx:=ib fv 24 Try.f24 [] Try.func24
def aD (v0:lD):Option Bool :=
 (a7 v0.1 1 99).bind λt5 =>
 (cond t5
 ((a7 v0.2.1 0 100000).bind λt9 =>
 some t9)
 (some false)).bind λt10 =>
 (cond t10
 ((a7 v0.2.2.1 0 10).bind λt14 =>
 some t14)
 (some false)).bind λt15 =>
 (cond t15
 ((a7 v0.2.2.2.1 1 99).bind λt19 =>
 some t19)
 (some false)).bind λt20 =>
 (cond t20
 ((a7 v0.2.2.2.2 0 7).bind λt24 =>
 some t24)
 (some false)).bind λt25 =>
 some t25
def dy:FL:=(82,⟨[.val true kK false],[.val false jn (some true)],λa=>aD a⟩)::dx
theorem fx:Gd dy:=ib fw 82 Try.f82 [] Try.func82
def aS (p0:Pt):Option Bool :=
 (a7 p0.2.1 1 1000).bind λt5 =>
 (cond (!t5)
 (some true)
 ((cond p0.2.2.1 (some (!p0.1)) (some false)).bind λt14 =>
 some t14)).bind λt15 =>
 cond t15
 (some false)
 (cond p0.2.2.1
 ((aD p0.2.2.2).bind λt20 =>
 some t20)
 (let t2:=p0.2.2.2.1==0&&(p0.2.2.2.2.1==0&&(p0.2.2.2.2.2.1==0&&(p0.2.2.2.2.2.2.1==0&&(p0.2.2.2.2.2.2.2==0))))
 some t2))
def dz:FL:=(69,⟨[.val true kl false],[.val false jn (some true)],λa=>aS a⟩)::dy
theorem fy:Gd dz:=ib fx 69 Try.f69 [] Try.func69
def aG (e0:im):Option Bool :=
 (a7 e0.1 1 99).bind λt5 =>
 (cond t5
 ((a7 e0.2.1 1 9999).bind λt9 =>
 some t9)
 (some false)).bind λt10 =>
 (cond t10
 ((a7 e0.2.2.1 0 7).bind λt14 =>
 some t14)
 (some false)).bind λt15 =>
 (cond t15
 ((a7 e0.2.2.2.1 0 4).bind λt19 =>
 some t19)
 (some false)).bind λt20 =>
 (cond t20
 ((cond (!e0.2.2.2.2) (some true) (some (e0.2.2.2.1==0))).bind λt29 =>
 some t29)
 (some false)).bind λt30 =>
 some t30
def dA:FL:=(83,⟨[.val true ja false],[.val false jn (some true)],λa=>aG a⟩)::dz
theorem fA:Gd dA:=ib fy 83 Try.f83 [] Try.func83
def aU (e0:im) (tag1:Int) (mac2:Int):Option Bool :=
 (cond (decide (e0.1>tag1))
 (some true)
 ((cond (e0.1==tag1) (some (decide (e0.2.1>mac2))) (some false)).bind λt21 =>
 some t21)).bind λt22 =>
 some t22
def dC:FL:=(84,⟨[.val true ja false,.val false gV false,.val false gV false],[.val false jn (some true)],λa=>aU a.1 a.2.1 a.2.2⟩)::dA
theorem fB:Gd dC:=ib fA 84 Try.f84 [] Try.func84
def ct (l0:List im) (t7:Int):Option (Int⊕(Unit⊕Bool)) :=
 cond (decide (t7<(l0.length:Int)))
 ((at? l0 t7).bind λx10 =>
 (aG x10).bind λt13 =>
 (cond (!t13)
 (some true)
 ((cond (decide (t7>0))
 ((at? l0 (gI (t7-1))).bind λx23 =>
 (at? l0 (gI (t7-1))).bind λx29 =>
 (aU x10 x23.1 x29.2.1).bind λt32 =>
 some (!t32))
 (some false)).bind λt34 =>
 some t34)).bind λt35 =>
 cond t35 (some (.inr (.inr false))) (some (.inl (gI (t7+1)))))
 (some (.inr (.inl ())))
def bz (l0:List im):Option Bool :=
 (loop (λz=>ct l0 z) 0).bind (Sum.elim (λd =>
 let t2:=decide ((l0.length:Int)<=12)
 some t2) (λr=>some r))
def dD:FL:=(70,⟨[.val false (.one (.sl ja)) false],[.val false jn (some true)],λa=>bz a⟩)::dC
theorem fC:Gd dD:=ib fB 70 Try.f70 [(0,⟨⟨(7,false,[dI])::us 16 19 [],[]⟩,
 ⟨[],[]⟩,some ⟨[(2,false,[dB])],[]⟩⟩)] Try.func70
def bA (ports0:Int):Option Int :=
 (shl .i64 1 ports0).bind λt4 =>
 some (gI (t4-1))
def dE:FL:=(85,⟨[.val false gV false],[.val false gV (some true)],λa=>bA a⟩)::dD
theorem fD:Gd dE:=ib fC 85 Try.f85 [] Try.func85
def aE (v0:jl) (id1:Int) (t10:Int):Option (Int⊕(Unit⊕Int)) :=
 cond (decide (t10<(v0.1.length:Int)))
 ((at? v0.1 t10).bind λx13 =>
 cond (x13.1==id1) (some (.inr (.inr t10))) (some (.inl (gI (t10+1)))))
 (some (.inr (.inl ())))
def ao (v0:jl) (id1:Int):Option Int :=
 (loop (λz=>aE v0 id1 z) 0).bind (Sum.elim (λd =>
 some (-1)) (λr=>some r))
def dG:FL:=(86,⟨[.val true kM false,.val false gV false],[.val false gV (some true)],λa=>ao a.1 a.2⟩)::dE
theorem fE:Gd dG:=ib fD 86 Try.f86 [(0,⟨⟨[(10,false,[dI])],[]⟩,
 ⟨[],[]⟩,some ⟨[(4,false,[dI])],[]⟩⟩)] Try.func86
def cu (p0:jl) (i1:Int) (t28:Int):Option (Int⊕(Unit⊕Bool)) :=
 cond (decide (t28<(p0.1.length:Int)))
 ((at? p0.1 t28).bind λx31 =>
 (a7 x31.1 1 99).bind λt35 =>
 (cond (!t35)
 (some true)
 ((cond (decide (t28>0))
 ((at? p0.1 (gI (t28-1))).bind λx45 =>
 some (decide (x45.1>=x31.1)))
 (some false)).bind λt51 =>
 some t51)).bind λt52 =>
 (cond t52
 (some true)
 ((bA i1).bind λt57 =>
 (a7 x31.2.1 0 t57).bind λt58 =>
 some (!t58))).bind λt60 =>
 (cond t60 (some true) (some ((qj .i64 x31.2.2 x31.2.1) != 0))).bind λt68 =>
 cond t68 (some (.inr (.inr false))) (some (.inl (gI (t28+1)))))
 (some (.inr (.inl ())))
def bB (p0:jl) (t73:Int):Option (Int⊕(Unit⊕Bool)) :=
 cond (decide (t73<(p0.2.length:Int)))
 ((at? p0.2 t73).bind λx75 =>
 (ao p0 x75).bind λt79 =>
 cond (decide (t79<0)) (some (.inr (.inr false))) (some (.inl (gI (t73+1)))))
 (some (.inr (.inl ())))
def bC (p0:jl) (i1:Int):Option Bool :=
 (a7 i1 1 6).bind λt10 =>
 (cond (!t10) (some true) (some ((p0.2.length:Int) != i1))).bind λt18 =>
 (cond t18 (some true) (some (decide ((p0.1.length:Int)>6)))).bind λt24 =>
 cond t24
 (some false)
 ((loop (λz=>cu p0 i1 z) 0).bind (Sum.elim (λd =>
 (loop (λz=>bB p0 z) 0).bind (Sum.elim (λd_1 =>
 some true) (λr=>some r))) (λr_1=>some r_1)))
def dH:FL:=(71,⟨[.val true kM false,.val false gV false],[.val false jn (some true)],λa=>bC a.1 a.2⟩)::dG
theorem fF:Gd dH:=ib fE 71 Try.f71 [(0,⟨⟨(28,false,[dI])::us 38 14 (us 54 6 (us 62 6 [])),[]⟩,
 ⟨[],[]⟩,some ⟨[(4,false,[dB])],[]⟩⟩),
 (2,⟨⟨[(73,false,[dI])],[]⟩,
 ⟨[],[]⟩,some ⟨[(4,false,[dB])],[]⟩⟩)] Try.func71
def ap (n0:Int):Option Bool :=
 (a7 n0 0 1000000).bind λt4 =>
 some t4
def dJ:FL:=(72,⟨[.val false gV false],[.val false jn (some true)],λa=>ap a⟩)::dH
theorem fG:Gd dJ:=ib fF 72 Try.f72 [] Try.func72
def cw (p0:gC) (t8:Int):Option (Int⊕(Unit⊕Bool)) :=
 cond (decide (t8<(p0.2.2.1.length:Int)))
 ((at? p0.2.2.1 t8).bind λx10 =>
 (aS x10).bind λt13 =>
 cond (!t13) (some (.inr (.inr false))) (some (.inl (gI (t8+1)))))
 (some (.inr (.inl ())))
def bD (p0:gC):Option Bool :=
 (loop (λz=>cw p0 z) 0).bind (Sum.elim (λd =>
 (a7 p0.1 1 99).bind λt18 =>
 (cond (!t18) (some true) (some (decide ((p0.2.1.length:Int)>10)))).bind λt25 =>
 (cond t25
 (some true)
 ((a7 (p0.2.2.1.length:Int) 1 6).bind λt30 =>
 some (!t30))).bind λt32 =>
 (cond t32
 (some true)
 ((bz p0.2.2.2.1).bind λt36 =>
 some (!t36))).bind λt38 =>
 (cond t38
 (some true)
 ((bC (p0.2.2.2.2.1,p0.2.2.2.2.2.1) (p0.2.2.1.length:Int)).bind λt45 =>
 some (!t45))).bind λt47 =>
 cond t47
 (some false)
 ((ap p0.2.2.2.2.2.2.1).bind λt50 =>
 (cond t50
 ((ap p0.2.2.2.2.2.2.2.1).bind λt54 =>
 some t54)
 (some false)).bind λt55 =>
 (cond t55
 ((ap p0.2.2.2.2.2.2.2.2.1).bind λt59 =>
 some t59)
 (some false)).bind λt60 =>
 (cond t60
 ((ap p0.2.2.2.2.2.2.2.2.2.1).bind λt64 =>
 some t64)
 (some false)).bind λt65 =>
 (cond t65
 ((ap p0.2.2.2.2.2.2.2.2.2.2).bind λt69 =>
 some t69)
 (some false)).bind λt70 =>
 some t70)) (λr=>some r))
def dK:FL:=(57,⟨[.val true il false],[.val false jn (some true)],λa=>bD a⟩)::dJ
theorem fH:Gd dK:=ib fG 57 Try.f57 [(0,⟨⟨[(8,false,[dI])],[]⟩,
 ⟨[],[]⟩,some ⟨[(2,false,[dB])],[]⟩⟩)] Try.func57
def ab (v0:qN) (name1:List Int):Option gG :=
 (lm ([1,3,1]:List Int) name1).bind λzs7 =>
 some (zs7,v0.1,v0.2.1,v0.2.2.1,v0.2.2.2)
def dL:FL:=(58,⟨[.val true rV true,.val false kH false],[.val true i7 (some true)],λa=>ab a.1 a.2⟩)::dK
theorem fJ:Gd dL:=ib fH 58 Try.f58 [] Try.func58
def ac (n0:Int):Option qN :=
 some (2,n0,[],[])
def dM:FL:=(59,⟨[.val false gV false],[.val true rV (some true)],λa=>ac a⟩)::dL
theorem fK:Gd dM:=ib fJ 59 Try.f59 [] Try.func59
def aV (is0:Bool):Option Int :=
 cond is0 (some 1) (some 0)
def dN:FL:=(73,⟨[.val false jn false],[.val false gV (some true)],λa=>aV a⟩)::dM
theorem fL:Gd dN:=ib fK 73 Try.f73 [] Try.func73
def aH (a0:lD) (b1:lD):Option Bool :=
 cond (a0.1 != b1.1)
 (some (decide (a0.1<b1.1)))
 (cond (a0.2.1 != b1.2.1)
 (some (decide (a0.2.1<b1.2.1)))
 (cond (a0.2.2.2.1 != b1.2.2.2.1)
 (let t4:=decide (a0.2.2.2.1<b1.2.2.2.1)
 some t4)
 (let t4_1:=decide (a0.2.2.2.2<b1.2.2.2.2)
 some t4_1)))
def dO:FL:=(88,⟨[.val true kK false,.val true kK false],[.val false jn (some true)],λa=>aH a.1 a.2⟩)::dN
theorem fM:Gd dO:=ib fL 88 Try.f88 [] Try.func88
def aW (v0:lD) (cost1:Int):Option (lD×Bool) :=
 (aD v0).bind λt8 =>
 (cond (!t8)
 (some true)
 ((a7 cost1 1 1000).bind λt12 =>
 some (!t12))).bind λt14 =>
 cond t14
 (some (v0,false))
 ((aD (v0.1,gI (v0.2.1+cost1),gI (v0.2.2.1+1),v0.2.2.2.1,v0.2.2.2.2)).bind λt27 =>
 cond (!t27)
 (some (v0,false))
 (some ((v0.1,gI (v0.2.1+cost1),gI (v0.2.2.1+1),v0.2.2.2.1,v0.2.2.2.2),true)))
def dP:FL:=(91,⟨[.val true kK false,.val false gV false],[.val true kK (some true),.val false jn (some true)],λa=>aW a.1 a.2⟩)::dO
theorem fN:Gd dP:=ib fM 91 Try.f91 [] Try.func91
def aI (p0:Int) (i1:List Pt) (t7:Int) (t18:Int) (b0:Int) (b1:Int) (b2:Int) (b3:Int) (b4:Int) (b0_1:Int) (b1_1:Int) (b2_1:Int) (b3_1:Int) (b4_1:Int):Option ((Int×Int×Int×Int×Int×Int×Int×Int×Int×Int×Int×Int)⊕(Int×Int×Int×Int×Int×Int×Int×Int×Int×Int×Int)) :=
 cond (decide (t18<(i1.length:Int)))
 ((at? i1 t18).bind λx21 =>
 (cond (!x21.1) (some true) (some (!x21.2.2.1))).bind λt30 =>
 cond t30
 (some (.inl (t7,gI (t18+1),b0,b1,b2,b3,b4,b0_1,b1_1,b2_1,b3_1,b4_1)))
 ((aW x21.2.2.2 x21.2.1).bind λt36 =>
 (cond t36.2 (some (decide (t36.1.1<p0))) (some false)).bind λt45 =>
 (cond t45
 ((cond (decide (t7<0))
 (some true)
 ((aH t36.1 (b0_1,b1_1,b2_1,b3_1,b4_1)).bind λt52 =>
 some t52)).bind λt53 =>
 some t53)
 (some false)).bind λt54 =>
 cond t54
 (some (.inl (t18,gI (t18+1),t36.1.1,t36.1.2.1,t36.1.2.2.1,p0,0,t36.1.1,t36.1.2.1,t36.1.2.2.1,t36.1.2.2.2.1,t36.1.2.2.2.2)))
 (some (.inl (t7,gI (t18+1),b0,b1,b2,b3,b4,b0_1,b1_1,b2_1,b3_1,b4_1)))))
 (some (.inr (t7,b0,b1,b2,b3,b4,b0_1,b1_1,b2_1,b3_1,b4_1)))
def aq (p0:Int) (i1:List Pt):Option (lD×Int) :=
 (loop (λz=>aI p0 i1 z.1 z.2.1 z.2.2.1 z.2.2.2.1 z.2.2.2.2.1 z.2.2.2.2.2.1 z.2.2.2.2.2.2.1 z.2.2.2.2.2.2.2.1 z.2.2.2.2.2.2.2.2.1 z.2.2.2.2.2.2.2.2.2.1 z.2.2.2.2.2.2.2.2.2.2.1 z.2.2.2.2.2.2.2.2.2.2.2) ((-1),0,p0,0,0,p0,0,0,0,0,0,0)).bind λd =>
 some ((d.2.1,d.2.2.1,d.2.2.2.1,d.2.2.2.2.1,d.2.2.2.2.2.1),d.1)
def dQ:FL:=(87,⟨[.val false gV false,.val false (.one (.sl kl)) false],[.val true kK (some true),.val false gV (some true)],λa=>aq a.1 a.2⟩)::dP
theorem fO:Gd dQ:=ib fN 87 Try.f87 [(0,⟨⟨(7,false,[dI])::(18,false,[dI])::us 27 3 (us 41 4 (us 47 7 [])),[(266240,.box [dI,dI,dI,dI,dI]),(525312,.box [dI,dI,dI,dI,dI])]⟩,
 ⟨[(7,false,[dI])],[(266240,.box [dI,dI,dI,dI,dI]),(525312,.box [dI,dI,dI,dI,dI])]⟩,none⟩)] Try.func87
def aX (id0:Int) (l1:List Pt) (port2:Int):Option lD :=
 (aq id0 l1).bind λt12 =>
 some (t12.1.1,t12.1.2.1,t12.1.2.2.1,t12.1.2.2.2.1,port2)
def dR:FL:=(89,⟨[.val false gV false,.val false (.one (.sl kl)) false,.val false gV false],[.val true kK (some true)],λa=>aX a.1 a.2.1 a.2.2⟩)::dQ
theorem fP:Gd dR:=ib fO 89 Try.f89 [] Try.func89
def ar (id0:Int) (l1:List Pt) (port2:Int):Option Int :=
 (a7 port2 0 (gI ((l1.length:Int)-1))).bind λt13 =>
 (cond (!t13)
 (some true)
 ((at? l1 port2).bind λx18 =>
 some (!x18.1))).bind λt22 =>
 cond t22
 (some 4)
 ((aq id0 l1).bind λt26 =>
 cond (t26.2==port2)
 (some 1)
 ((at? l1 port2).bind λx36 =>
 (cond (!x36.2.2.1)
 (some true)
 ((aX id0 l1 port2).bind λt44 =>
 (at? l1 port2).bind λx47 =>
 (aH t44 x47.2.2.2).bind λt50 =>
 some t50)).bind λt51 =>
 cond t51 (some 2) (some 3)))
def dU:FL:=(74,⟨[.val false gV false,.val false (.one (.sl kl)) false,.val false gV false],[.val false gV (some true)],λa=>ar a.1 a.2.1 a.2.2⟩)::dR
theorem fQ:Gd dU:=ib fP 74 Try.f74 [] Try.func74
def au (b0:gC) (c1:Int) (p2:Int):Option Int :=
 cond (c1==1)
 ((at? b0.2.2.1 p2).bind λx13 =>
 (aV x13.1).bind λt16 =>
 some t16)
 (cond (c1==2)
 ((at? b0.2.2.1 p2).bind λx22 =>
 some x22.2.1)
 (cond (c1==3)
 ((ar b0.1 b0.2.2.1 p2).bind λt32 =>
 some t32)
 ((at? b0.2.2.2.2.2.1 p2).bind λx37 =>
 some x37)))
def dV:FL:=(60,⟨[.val true il false,.val false gV false,.val false gV false],[.val false gV (some true)],λa=>au a.1 a.2.1 a.2.2⟩)::dU
theorem fR:Gd dV:=ib fQ 60 Try.f60 [] Try.func60
def dW (p0:gC) (t32:Int) (t3:List gG):Option ((Int×List gG)⊕(List gG)) :=
 cond (decide (t32<([p0.2.2.2.2.2.2.1,p0.2.2.2.2.2.2.2.1,p0.2.2.2.2.2.2.2.2.1,p0.2.2.2.2.2.2.2.2.2.1].length:Int)))
 ((ix [p0.2.2.2.2.2.2.1,p0.2.2.2.2.2.2.2.1,p0.2.2.2.2.2.2.2.2.1,p0.2.2.2.2.2.2.2.2.2.1].length t32).bind λj35 =>
 ([p0.2.2.2.2.2.2.1,p0.2.2.2.2.2.2.2.1,p0.2.2.2.2.2.2.2.2.1,p0.2.2.2.2.2.2.2.2.2.1][j35]?).bind λx36 =>
 (ac x36).bind λt39 =>
 (ab t39 [1,gI (t32+2)]).bind λt43 =>
 (lm t3 [t43]).bind λzs45 =>
 some (.inl (gI (t32+1),zs45)))
 (some (.inr t3))
def af (p0:gC) (t6:Int) (t54:Int) (t3_3:List gG):Option ((Int×List gG)⊕(List gG)) :=
 cond (decide (t54<(p0.2.2.1.length:Int)))
 ((au p0 t6 t54).bind λt61 =>
 (ac t61).bind λt62 =>
 (ab t62 [2,t6,gI (t54+1)]).bind λt67 =>
 (lm t3_3 [t67]).bind λzs69 =>
 some (.inl (gI (t54+1),zs69)))
 (some (.inr t3_3))
def av (p0:gC) (t6:Int) (t3_2:List gG):Option ((Int×List gG)⊕(List gG)) :=
 cond (decide (t6<=4))
 ((loop (λz=>af p0 t6 z.1 z.2) (0,t3_2)).bind λd_1 =>
 some (.inl (gI (t6+1),d_1)))
 (some (.inr t3_2))
def ah (p0:gC) (t8:Int) (t79:Int) (t3_7:List gG):Option ((Int×List gG)⊕(List gG)) :=
 cond (decide (t79<(p0.2.2.2.2.1.length:Int)))
 ((at? p0.2.2.2.2.1 t79).bind λx81 =>
 (ix [1,x81.2.1,x81.2.2].length (gI (t8-1))).bind λj91 =>
 ([1,x81.2.1,x81.2.2][j91]?).bind λx92 =>
 (ac x92).bind λt93 =>
 (ab t93 [3,t8,x81.1]).bind λt98 =>
 (lm t3_7 [t98]).bind λzs100 =>
 some (.inl (gI (t79+1),zs100)))
 (some (.inr t3_7))
def aw (p0:gC) (t8:Int) (t3_6:List gG):Option ((Int×List gG)⊕(List gG)) :=
 cond (decide (t8<=3))
 ((loop (λz=>ah p0 t8 z.1 z.2) (0,t3_6)).bind λd_3 =>
 some (.inl (gI (t8+1),d_3)))
 (some (.inr t3_6))
def ae (p0:gC) (t105:Int) (t3_10:List gG):Option ((Int×List gG)⊕(List gG)) :=
 cond (decide (t105<(p0.2.2.2.1.length:Int)))
 ((at? p0.2.2.2.1 t105).bind λx107 =>
 (ac (gI (x107.2.2.1+1))).bind λt113 =>
 (ab t113 [4,1,x107.1,x107.2.1]).bind λt119 =>
 (lm t3_10 [t119]).bind λzs121 =>
 some (.inl (gI (t105+1),zs121)))
 (some (.inr t3_10))
def ax (p0:gC):Option (List gG) :=
 (bD p0).bind λt14 =>
 cond (!t14)
 (some [])
 ((ab (4,0,p0.2.1,[]) ([1,1]:List Int)).bind λt20 =>
 (loop (λz=>dW p0 z.1 z.2) (0,[t20])).bind λd =>
 (loop (λz=>av p0 z.1 z.2) (1,d)).bind λd_2 =>
 (loop (λz=>aw p0 z.1 z.2) (1,d_2)).bind λd_4 =>
 (loop (λz=>ae p0 z.1 z.2) (0,d_4)).bind λd_5 =>
 some d_5)
def dX:FL:=(42,⟨[.val true il false],[.val false (.one (.sl i7)) (some true)],λa=>ax a⟩)::dV
theorem fS:Gd dX:=ib fR 42 Try.f42 [(0,⟨⟨[(3,false,[.own 1000000000]),(32,false,[dI])],[(1000000000,.root i7 true)]⟩,
 ⟨[(3,false,[.own 1000000300])],[(1000000300,.root i7 true)]⟩,none⟩),
 (2,⟨⟨[(3,false,[.own 1000002000]),(6,false,[dI])],[(1000002000,.root i7 true)]⟩,
 ⟨[(3,false,[.own 1000002300])],[(1000002300,.root i7 true)]⟩,none⟩),
 (4,⟨⟨[(3,false,[.own 1000004000]),(54,false,[dI])],[(1000004000,.root i7 true)]⟩,
 ⟨[(3,false,[.own 1000004300])],[(1000004300,.root i7 true)]⟩,none⟩),
 (6,⟨⟨[(3,false,[.own 1000006000]),(8,false,[dI])],[(1000006000,.root i7 true)]⟩,
 ⟨[(3,false,[.own 1000006300])],[(1000006300,.root i7 true)]⟩,none⟩),
 (8,⟨⟨[(3,false,[.own 1000008000]),(79,false,[dI])],[(1000008000,.root i7 true)]⟩,
 ⟨[(3,false,[.own 1000008300])],[(1000008300,.root i7 true)]⟩,none⟩),
 (10,⟨⟨[(3,false,[.own 1000010000]),(105,false,[dI])],[(1000010000,.root i7 true)]⟩,
 ⟨[(3,false,[.own 1000010300])],[(1000010300,.root i7 true)]⟩,none⟩)] Try.func42
def aJ (a0:List Int) (b1:List Int) (i5:Int):Option (Int⊕(Unit⊕Bool)) :=
 (cond (decide (i5<(a0.length:Int))) (some (decide (i5<(b1.length:Int)))) (some false)).bind λt15 =>
 cond t15
 ((at? a0 i5).bind λx20 =>
 (at? b1 i5).bind λx24 =>
 cond (x20 != x24)
 ((at? a0 i5).bind λx29 =>
 (at? b1 i5).bind λx33 =>
 some (.inr (.inr (decide (x29<x33)))))
 (some (.inl (gI (i5+1)))))
 (some (.inr (.inl ())))
def aY (a0:List Int) (b1:List Int):Option Bool :=
 (loop (λz=>aJ a0 b1 z) 0).bind (Sum.elim (λd =>
 let t4:=decide ((a0.length:Int)<(b1.length:Int))
 some t4) (λr=>some r))
def dY:FL:=(43,⟨[.val false kH false,.val false kH false],[.val false jn (some true)],λa=>aY a.1 a.2⟩)::dX
theorem fT:Gd dY:=ib fS 43 Try.f43 [(0,⟨⟨(5,false,[dI])::us 11 4 [],[]⟩,
 ⟨[],[]⟩,some ⟨[(4,false,[dB])],[]⟩⟩)] Try.func43
def aK (l0:List Int):Option (List Int) :=
 (lm [] l0).bind λzs4 =>
 some zs4
def dZ:FL:=(44,⟨[.val false kH false],[.val false kH (some true)],λa=>aK a⟩)::dY
theorem fU:Gd dZ:=ib fT 44 Try.f44 [] Try.func44
def ai (o1:List Int) (t8:List gG) (t10:Int) (b1:Int) (b2:Int) (b3:List UInt8) (b0_1:List Int) (b4:List Int):Option ((Int×Int×Int×List UInt8×List Int×List Int)⊕((Int×Int×List UInt8×List Int×List Int)⊕(List Int×Int×Int×List UInt8×List Int))) :=
 cond (decide (t10<(t8.length:Int)))
 ((ix t8.length t10).bind λj12 =>
 (t8[j12]?).bind λx13 =>
 (aY o1 x13.1).bind λt17 =>
 cond t17
 (some (.inr (.inr x13)))
 (some (.inl (gI (t10+1),b1,b2,b3,b0_1,b4))))
 (some (.inr (.inl (b1,b2,b3,b0_1,b4))))
def aj (b0:gC) (o1:List Int):Option gG :=
 (ax b0).bind λt8 =>
 (loop (λz=>ai o1 t8 z.1 z.2.1 z.2.2.1 z.2.2.2.1 z.2.2.2.2.1 z.2.2.2.2.2) (0,0,0,[],[],[])).bind (Sum.elim (λd =>
 (aK o1).bind λt21 =>
 some (t21,130,0,[],[])) (λr=>some r))
def e9:FL:=(25,⟨[.val true il false,.val false kH false],[.cold true i7],λa=>aj a.1 a.2⟩)::dZ
theorem fV:Gd e9:=ib fU 25 Try.f25 [(0,⟨⟨[(10,false,[dI])],[(2048,.box [.own 1000000000,dI,dI,dS,.own 1000000001]),(1000000000,.root gV true),(1000000001,.root gV true)]⟩,
 ⟨[],[(2048,.box [.own 1000000300,dI,dI,dS,.own 1000000301]),(1000000300,.root gV true),(1000000301,.root gV true)]⟩,some ⟨[],[(2048,.box [.kid 264192 0 gV,dI,dI,dS,.kid 264192 4 gV])]⟩⟩),
 (1000000,⟨⟨[],[(264192,.tree i7)]⟩,⟨[],[]⟩,none⟩)] Try.func25
def aa (b0:gC) (n2:Int) (o8:List Int) (out7:List gG):Option ((List Int×List gG)⊕(List gG)) :=
 (a7 n2 0 200).bind λt12 =>
 (cond t12 (some (decide ((out7.length:Int)<n2))) (some false)).bind λt18 =>
 cond t18
 ((aj b0 o8).bind λt21 =>
 cond (t21.2.1==130)
 (some (.inr out7))
 ((lm out7 [t21]).bind λzs29 =>
 some (.inl (t21.1,zs29))))
 (some (.inr out7))
def ak (b0:gC) (from1:List Int) (n2:Int):Option (List gG) :=
 (loop (λz=>aa b0 n2 z.1 z.2) (from1,[])).bind λd =>
 some d
def ea:FL:=(8,⟨[.val true il false,.val false kH false,.val false gV false],[.val false (.one (.sl i7)) (some true)],λa=>ak a.1 a.2.1 a.2.2⟩)::e9
theorem fW:Gd ea:=ib fV 8 Try.f8 [(0,⟨⟨(7,false,[.own 1000000000])::(8,false,[.dat (.sl gV)])::us 14 4 [],[(1000000000,.root i7 true)]⟩,
 ⟨[(7,false,[.own 1000000300])],[(1000000300,.root i7 true)]⟩,none⟩)] Try.func8
def fX (a0:List Int) (b1:List Int) (i5:Int):Option (Int⊕(Unit⊕Bool)) :=
 cond (decide (i5<(a0.length:Int)))
 ((at? a0 i5).bind λx19 =>
 (at? b1 i5).bind λx23 =>
 cond (x19 != x23) (some (.inr (.inr false))) (some (.inl (gI (i5+1)))))
 (some (.inr (.inl ())))
def aL (a0:List Int) (b1:List Int):Option Bool :=
 cond ((a0.length:Int) != (b1.length:Int))
 (some false)
 ((loop (λz=>fX a0 b1 z) 0).bind (Sum.elim (λd =>
 some true) (λr=>some r)))
def eb:FL:=(11,⟨[.val false kH false,.val false kH false],[.val false jn (some true)],λa=>aL a.1 a.2⟩)::ea
theorem fY:Gd eb:=ib fW 11 Try.f11 [(0,⟨⟨[(5,false,[dI])],[]⟩,
 ⟨[],[]⟩,some ⟨[(4,false,[dB])],[]⟩⟩)] Try.func11
def bE (a0:qN) (b1:qN):Option Bool :=
 cond (a0.1 != b1.1)
 (some false)
 (cond (a0.2.1 != b1.2.1)
 (some false)
 (cond (!(a0.2.2.1==b1.2.2.1))
 (some false)
 ((aL a0.2.2.2 b1.2.2.2).bind λt24 =>
 cond (!t24) (some false) (some true))))
def ed:FL:=(45,⟨[.val true rV false,.val true rV false],[.val false jn (some true)],λa=>bE a.1 a.2⟩)::eb
theorem fZ:Gd ed:=ib fY 45 Try.f45 [] Try.func45
def aZ (a0:gG) (b1:gG):Option Bool :=
 (aL a0.1 b1.1).bind λt9 =>
 cond (!t9)
 (some false)
 ((bE a0.2 b1.2).bind λt15 =>
 cond (!t15) (some false) (some true))
def ee:FL:=(26,⟨[.val true i7 false,.val true i7 false],[.val false jn (some true)],λa=>aZ a.1 a.2⟩)::ed
theorem ga:Gd ee:=ib fZ 26 Try.f26 [] Try.func26
def gb (a0:List gG) (b1:List gG) (i5:Int):Option (Int⊕(Unit⊕Bool)) :=
 cond (decide (i5<(a0.length:Int)))
 ((at? a0 i5).bind λx19 =>
 (at? b1 i5).bind λx23 =>
 (aZ x19 x23).bind λt25 =>
 cond (!t25) (some (.inr (.inr false))) (some (.inl (gI (i5+1)))))
 (some (.inr (.inl ())))
def b6 (a0:List gG) (b1:List gG):Option Bool :=
 cond ((a0.length:Int) != (b1.length:Int))
 (some false)
 ((loop (λz=>gb a0 b1 z) 0).bind (Sum.elim (λd =>
 some true) (λr=>some r)))
def ef:FL:=(9,⟨[.val false (.one (.sl i7)) false,.val false (.one (.sl i7)) false],[.val false jn (some true)],λa=>b6 a.1 a.2⟩)::ee
theorem gd:Gd ef:=ib ga 9 Try.f9 [(0,⟨⟨[(5,false,[dI])],[]⟩,
 ⟨[],[]⟩,some ⟨[(4,false,[dB])],[]⟩⟩)] Try.func9
def bG (a0:lD) (b1:lD):Option Bool :=
 cond (a0.1 != b1.1)
 (some false)
 (cond (a0.2.1 != b1.2.1)
 (some false)
 (cond (a0.2.2.1 != b1.2.2.1)
 (some false)
 (cond (a0.2.2.2.1 != b1.2.2.2.1)
 (some false)
 (cond (a0.2.2.2.2 != b1.2.2.2.2) (some false) (some true)))))
def eg:FL:=(61,⟨[.val true kK false,.val true kK false],[.val false jn (some true)],λa=>bG a.1 a.2⟩)::ef
theorem ge:Gd eg:=ib gd 61 Try.f61 [] Try.func61
def b7 (a0:Pt) (b1:Pt):Option Bool :=
 cond (!(a0.1==b1.1))
 (some false)
 (cond (a0.2.1 != b1.2.1)
 (some false)
 (cond (!(a0.2.2.1==b1.2.2.1))
 (some false)
 ((bG a0.2.2.2 b1.2.2.2).bind λt24 =>
 cond (!t24) (some false) (some true))))
def eh:FL:=(46,⟨[.val true kl false,.val true kl false],[.val false jn (some true)],λa=>b7 a.1 a.2⟩)::eg
theorem gg:Gd eh:=ib ge 46 Try.f46 [] Try.func46
def gh (a0:List Pt) (b1:List Pt) (i5:Int):Option (Int⊕(Unit⊕Bool)) :=
 cond (decide (i5<(a0.length:Int)))
 ((at? a0 i5).bind λx19 =>
 (at? b1 i5).bind λx23 =>
 (b7 x19 x23).bind λt25 =>
 cond (!t25) (some (.inr (.inr false))) (some (.inl (gI (i5+1)))))
 (some (.inr (.inl ())))
def cz (a0:List Pt) (b1:List Pt):Option Bool :=
 cond ((a0.length:Int) != (b1.length:Int))
 (some false)
 ((loop (λz=>gh a0 b1 z) 0).bind (Sum.elim (λd =>
 some true) (λr=>some r)))
def ei:FL:=(27,⟨[.val false (.one (.sl kl)) false,.val false (.one (.sl kl)) false],[.val false jn (some true)],λa=>cz a.1 a.2⟩)::eh
theorem gi:Gd ei:=ib gg 27 Try.f27 [(0,⟨⟨[(5,false,[dI])],[]⟩,
 ⟨[],[]⟩,some ⟨[(4,false,[dB])],[]⟩⟩)] Try.func27
def b8 (a0:im) (b1:im):Option Bool :=
 cond (a0.1 != b1.1)
 (some false)
 (cond (a0.2.1 != b1.2.1)
 (some false)
 (cond (a0.2.2.1 != b1.2.2.1)
 (some false)
 (cond (a0.2.2.2.1 != b1.2.2.2.1)
 (some false)
 (cond (!(a0.2.2.2.2==b1.2.2.2.2)) (some false) (some true)))))
def ej:FL:=(47,⟨[.val true ja false,.val true ja false],[.val false jn (some true)],λa=>b8 a.1 a.2⟩)::ei
theorem gj:Gd ej:=ib gi 47 Try.f47 [] Try.func47
def gk (a0:List im) (b1:List im) (i5:Int):Option (Int⊕(Unit⊕Bool)) :=
 cond (decide (i5<(a0.length:Int)))
 ((at? a0 i5).bind λx19 =>
 (at? b1 i5).bind λx23 =>
 (b8 x19 x23).bind λt25 =>
 cond (!t25) (some (.inr (.inr false))) (some (.inl (gI (i5+1)))))
 (some (.inr (.inl ())))
def cA (a0:List im) (b1:List im):Option Bool :=
 cond ((a0.length:Int) != (b1.length:Int))
 (some false)
 ((loop (λz=>gk a0 b1 z) 0).bind (Sum.elim (λd =>
 some true) (λr=>some r)))
def ek:FL:=(28,⟨[.val false (.one (.sl ja)) false,.val false (.one (.sl ja)) false],[.val false jn (some true)],λa=>cA a.1 a.2⟩)::ej
theorem gl:Gd ek:=ib gj 28 Try.f28 [(0,⟨⟨[(5,false,[dI])],[]⟩,
 ⟨[],[]⟩,some ⟨[(4,false,[dB])],[]⟩⟩)] Try.func28
def b9 (a0:j6) (b1:j6):Option Bool :=
 cond (a0.1 != b1.1)
 (some false)
 (cond (a0.2.1 != b1.2.1) (some false) (cond (a0.2.2 != b1.2.2) (some false) (some true)))
def em:FL:=(62,⟨[.val true jt false,.val true jt false],[.val false jn (some true)],λa=>b9 a.1 a.2⟩)::ek
theorem gm:Gd em:=ib gl 62 Try.f62 [] Try.func62
def gn (a0:List j6) (b1:List j6) (i5:Int):Option (Int⊕(Unit⊕Bool)) :=
 cond (decide (i5<(a0.length:Int)))
 ((at? a0 i5).bind λx19 =>
 (at? b1 i5).bind λx23 =>
 (b9 x19 x23).bind λt25 =>
 cond (!t25) (some (.inr (.inr false))) (some (.inl (gI (i5+1)))))
 (some (.inr (.inl ())))
def cB (a0:List j6) (b1:List j6):Option Bool :=
 cond ((a0.length:Int) != (b1.length:Int))
 (some false)
 ((loop (λz=>gn a0 b1 z) 0).bind (Sum.elim (λd =>
 some true) (λr=>some r)))
def eo:FL:=(48,⟨[.val false (.one (.sl jt)) false,.val false (.one (.sl jt)) false],[.val false jn (some true)],λa=>cB a.1 a.2⟩)::em
theorem gp:Gd eo:=ib gm 48 Try.f48 [(0,⟨⟨[(5,false,[dI])],[]⟩,
 ⟨[],[]⟩,some ⟨[(4,false,[dB])],[]⟩⟩)] Try.func48
def bH (a0:jl) (b1:jl):Option Bool :=
 (cB a0.1 b1.1).bind λt9 =>
 cond (!t9)
 (some false)
 ((aL a0.2 b1.2).bind λt15 =>
 cond (!t15) (some false) (some true))
def ep:FL:=(29,⟨[.val true kM false,.val true kM false],[.val false jn (some true)],λa=>bH a.1 a.2⟩)::eo
theorem gq:Gd ep:=ib gp 29 Try.f29 [] Try.func29
def bI (a0:gC) (b1:gC):Option Bool :=
 cond (a0.1 != b1.1)
 (some false)
 (cond (!(a0.2.1==b1.2.1))
 (some false)
 ((cz a0.2.2.1 b1.2.2.1).bind λt19 =>
 cond (!t19)
 (some false)
 ((cA a0.2.2.2.1 b1.2.2.2.1).bind λt25 =>
 cond (!t25)
 (some false)
 ((bH (a0.2.2.2.2.1,a0.2.2.2.2.2.1) (b1.2.2.2.2.1,b1.2.2.2.2.2.1)).bind λt31 =>
 cond (!t31)
 (some false)
 (cond (a0.2.2.2.2.2.2.1 != b1.2.2.2.2.2.2.1)
 (some false)
 (cond (a0.2.2.2.2.2.2.2.1 != b1.2.2.2.2.2.2.2.1)
 (some false)
 (cond (a0.2.2.2.2.2.2.2.2.1 != b1.2.2.2.2.2.2.2.2.1)
 (some false)
 (cond (a0.2.2.2.2.2.2.2.2.2.1 != b1.2.2.2.2.2.2.2.2.2.1)
 (some false)
 (cond (a0.2.2.2.2.2.2.2.2.2.2 != b1.2.2.2.2.2.2.2.2.2.2) (some false) (some true))))))))))
def eq:FL:=(10,⟨[.val true il false,.val true il false],[.val false jn (some true)],λa=>bI a.1 a.2⟩)::ep
theorem gt:Gd eq:=ib gq 10 Try.f10 [] Try.func10
def bJ (k0_1:Int) (out3:List UInt8):Option ((Int×List UInt8)⊕(List UInt8)) :=
 cond (decide (k0_1>0))
 ((ul (lg [IntKind.u8.wrap (gI (48+(k0_1.tmod 10)))]) out3).bind λt15 =>
 some (.inl (gI (k0_1.tdiv 10),t15)))
 (some (.inr out3))
def ba (k0:Int):Option (List UInt8) :=
 cond (decide (k0<=0))
 (some [109,48])
 ((loop (λz=>bJ z.1 z.2) (k0,[])).bind λd =>
 (ul [109] d).bind λt19 =>
 some t19)
def eu:FL:=(33,⟨[.val false gV false],[.val false B8 (some true)],λa=>ba a⟩)::eq
theorem gu:Gd eu:=ib gt 33 Try.f33 [(0,⟨⟨[(0,false,[dI]),(3,false,[dS])],[]⟩,
 ⟨[(3,false,[dS])],[]⟩,none⟩)] Try.func33
def bK (a0:List Int) (k1_1:Int) (i5:Int):Option ((Int×Int)⊕(Int⊕Int)) :=
 cond (decide (i5<(a0.length:Int)))
 ((at? a0 i5).bind λx14 =>
 cond (x14 != k1_1)
 (some (.inr (.inr (-1))))
 (some (.inl (gI (k1_1+1),gI (i5+1)))))
 (some (.inr (.inl k1_1)))
def bb (a0:List Int) (k1:Int):Option Int :=
 (loop (λz=>bK a0 z.1 z.2) (k1,0)).bind (Sum.elim (λd =>
 some d) (λr=>some r))
def ev:FL:=(34,⟨[.val false kH false,.val false gV false],[.val false gV (some true)],λa=>bb a.1 a.2⟩)::eu
theorem gv:Gd ev:=ib gu 34 Try.f34 [(0,⟨⟨[(1,false,[dI]),(5,false,[dI])],[]⟩,
 ⟨[(1,false,[dI])],[]⟩,some ⟨[(4,false,[dI])],[]⟩⟩)] Try.func34
def bL (a0:List gG) (k1_1:Int) (i5:Int):Option ((Int×Int)⊕(Int⊕Int)) :=
 cond (decide (i5<(a0.length:Int)))
 ((at? a0 i5).bind λx14 =>
 (bb x14.1 k1_1).bind λt18 =>
 cond (decide (t18<0))
 (some (.inr (.inr (-1))))
 ((at? a0 i5).bind λx23 =>
 cond (x23.2.1 != t18)
 (some (.inr (.inr (-1))))
 ((at? a0 i5).bind λx33 =>
 cond (x33.2.2.1 != (gI (t18+1)))
 (some (.inr (.inr (-1))))
 (let k1_2:=gI ((gI (t18+1))+1)
 (at? a0 i5).bind λx43 =>
 (ba k1_2).bind λt48 =>
 cond (!(x43.2.2.2.1==t48))
 (some (.inr (.inr (-1))))
 ((at? a0 i5).bind λx54 =>
 (bb x54.2.2.2.2 (gI (k1_2+1))).bind λt59 =>
 cond (decide (t59<0)) (some (.inr (.inr (-1)))) (some (.inl (t59,gI (i5+1)))))))))
 (some (.inr (.inl k1_1)))
def bc (a0:List gG) (k1:Int):Option Int :=
 (loop (λz=>bL a0 z.1 z.2) (k1,0)).bind (Sum.elim (λd =>
 some d) (λr=>some r))
def a9:FL:=(15,⟨[.val false (.one (.sl i7)) false,.val false gV false],[.val false gV (some true)],λa=>bc a.1 a.2⟩)::ev
theorem ay:Gd a9:=ib gv 15 Try.f15 [(0,⟨⟨[(1,false,[dI]),(5,false,[dI])],[]⟩,
 ⟨[(1,false,[dI])],[]⟩,some ⟨[(4,false,[dI])],[]⟩⟩)] Try.func15
def bM (i1:Int) (t5:Int) (l:List Pt):Option ((Int×Int×List Pt)⊕(Int×List Pt)) :=
 cond (decide (t5<(l.length:Int)))
 ((ix l.length t5).bind λj17 =>
 (l[j17]?).bind λx =>
 let ls:List Pt:=l.set j17 ((i1.tmod 3)==0,x.2.1,x.2.2.1,x.2.2.2.1,x.2.2.2.2.1,x.2.2.2.2.2.1,x.2.2.2.2.2.2.1,x.2.2.2.2.2.2.2)
 (ix ls.length t5).bind λj24 =>
 (ls[j24]?).bind λx_1 =>
 let ls_1:List Pt:=ls.set j24 (x_1.1,gI (i1+1),x_1.2.2.1,x_1.2.2.2.1,x_1.2.2.2.2.1,x_1.2.2.2.2.2.1,x_1.2.2.2.2.2.2.1,x_1.2.2.2.2.2.2.2)
 (ix ls_1.length t5).bind λj33 =>
 (ls_1[j33]?).bind λx_2 =>
 let ls_2:List Pt:=ls_1.set j33 (x_2.1,x_2.2.1,((gI ((gI (i1+1))+1)).tmod 3)==0,x_2.2.2.2.1,x_2.2.2.2.2.1,x_2.2.2.2.2.2.1,x_2.2.2.2.2.2.2.1,x_2.2.2.2.2.2.2.2)
 let i1_1:=gI ((gI ((gI (i1+1))+1))+1)
 (ix ls_2.length t5).bind λj40 =>
 (ls_2[j40]?).bind λx_3 =>
 let ls_3:List Pt:=ls_2.set j40 (x_3.1,x_3.2.1,x_3.2.2.1,i1_1,x_3.2.2.2.2.1,x_3.2.2.2.2.2.1,x_3.2.2.2.2.2.2.1,x_3.2.2.2.2.2.2.2)
 (ix ls_3.length t5).bind λj48 =>
 (ls_3[j48]?).bind λx_4 =>
 let ls_4:List Pt:=ls_3.set j48 (x_4.1,x_4.2.1,x_4.2.2.1,x_4.2.2.2.1,gI (i1_1+1),x_4.2.2.2.2.2.1,x_4.2.2.2.2.2.2.1,x_4.2.2.2.2.2.2.2)
 let i1_2:=gI ((gI (i1_1+1))+1)
 (ix ls_4.length t5).bind λj56 =>
 (ls_4[j56]?).bind λx_5 =>
 let ls_5:List Pt:=ls_4.set j56 (x_5.1,x_5.2.1,x_5.2.2.1,x_5.2.2.2.1,x_5.2.2.2.2.1,i1_2,x_5.2.2.2.2.2.2.1,x_5.2.2.2.2.2.2.2)
 (ix ls_5.length t5).bind λj64 =>
 (ls_5[j64]?).bind λx_6 =>
 let ls_6:List Pt:=ls_5.set j64 (x_6.1,x_6.2.1,x_6.2.2.1,x_6.2.2.2.1,x_6.2.2.2.2.1,x_6.2.2.2.2.2.1,gI (i1_2+1),x_6.2.2.2.2.2.2.2)
 let i1_3:=gI ((gI (i1_2+1))+1)
 (ix ls_6.length t5).bind λj72 =>
 (ls_6[j72]?).bind λx_7 =>
 let ls_7:List Pt:=ls_6.set j72 (x_7.1,x_7.2.1,x_7.2.2.1,x_7.2.2.2.1,x_7.2.2.2.2.1,x_7.2.2.2.2.2.1,x_7.2.2.2.2.2.2.1,i1_3)
 some (.inl (gI (i1_3+1),gI (t5+1),ls_7)))
 (some (.inr (i1,l)))
def bd (a0:List Pt) (k1:Int):Option ((List Pt)×Int) :=
 (loop (λz=>bM z.1 z.2.1 z.2.2) (k1,0,a0)).bind λd =>
 some (d.2,d.1)
theorem AO:jJ Try.prog ⟨tis,a9,[],true⟩:=ay.trees tZ
def pr:ln:=⟨false,(.one (.sl kl)),λa k=>bd a k⟩
def pt:List (Nat×gB):=[(0,⟨⟨[(1,false,[dI]),(5,false,[dI])],[(1,.tree kl)]⟩,
 ⟨[(1,false,[dI])],[(1,.tree kl)]⟩,none⟩)]
theorem to:lk ⟨tis,a9,[],true⟩ pt Try.f30 (js Try.f30) false (.one (.sl kl))=λa k=>bd a k:=by kernel_rfl
theorem tq:jE Try.prog 30 pr:=by
 have h:=m8 (ann:=pt) (agg:=false) (cs:=(.one (.sl kl))) AO nK Try.func30 (by kernel_rfl) (by kernel_rfl:Try.f30.body=some (js Try.f30));rw[to]at h;exact h
def pT:List (FuncId×ln):=(30,pr)::[]
theorem yB:∀f M,gx pT f=some M->jE Try.prog f M:=lc tZ tq
theorem A5:jJ Try.prog ⟨tis,a9,pT,true⟩:=ay.trees yB
def bN (k1_1:Int) (i5:Int) (l:List im):Option ((Int×Int×List im)⊕(Int×List im)) :=
 cond (decide (i5<(l.length:Int)))
 ((ix l.length i5).bind λj15 =>
 (l[j15]?).bind λx =>
 let ls:List im:=l.set j15 (k1_1,x.2.1,x.2.2.1,x.2.2.2.1,x.2.2.2.2)
 (ix ls.length i5).bind λj22 =>
 (ls[j22]?).bind λx_1 =>
 let ls_1:List im:=ls.set j22 (x_1.1,gI (k1_1+1),x_1.2.2.1,x_1.2.2.2.1,x_1.2.2.2.2)
 let k1_2:=gI ((gI (k1_1+1))+1)
 (ix ls_1.length i5).bind λj29 =>
 (ls_1[j29]?).bind λx_2 =>
 let ls_2:List im:=ls_1.set j29 (x_2.1,x_2.2.1,k1_2,x_2.2.2.2.1,x_2.2.2.2.2)
 (ix ls_2.length i5).bind λj36 =>
 (ls_2[j36]?).bind λx_3 =>
 let ls_3:List im:=ls_2.set j36 (x_3.1,x_3.2.1,x_3.2.2.1,gI (k1_2+1),x_3.2.2.2.2)
 let k1_3:=gI ((gI (k1_2+1))+1)
 (ix ls_3.length i5).bind λj45 =>
 (ls_3[j45]?).bind λx_4 =>
 let ls_4:List im:=ls_3.set j45 (x_4.1,x_4.2.1,x_4.2.2.1,x_4.2.2.2.1,(k1_3.tmod 3)==0)
 some (.inl (gI (k1_3+1),gI (i5+1),ls_4)))
 (some (.inr (k1_1,l)))
def be (a0:List im) (k1:Int):Option ((List im)×Int) :=
 (loop (λz=>bN z.1 z.2.1 z.2.2) (k1,0,a0)).bind λd =>
 some (d.2,d.1)
def od:ln:=⟨false,(.one (.sl ja)),λa k=>be a k⟩
def oe:List (Nat×gB):=[(0,⟨⟨[(1,false,[dI]),(5,false,[dI])],[(1,.tree ja)]⟩,
 ⟨[(1,false,[dI])],[(1,.tree ja)]⟩,none⟩)]
theorem rW:lk ⟨tis,a9,pT,true⟩ oe Try.f31 (js Try.f31) false (.one (.sl ja))=λa k=>be a k:=by kernel_rfl
theorem rX:jE Try.prog 31 od:=by
 have h:=m8 (ann:=oe) (agg:=false) (cs:=(.one (.sl ja))) A5 nK Try.func31 (by kernel_rfl) (by kernel_rfl:Try.f31.body=some (js Try.f31));rw[rW]at h;exact h
def pU:List (FuncId×ln):=(31,od)::pT
theorem yC:∀f M,gx pU f=some M->jE Try.prog f M:=lc yB rX
theorem A6:jJ Try.prog ⟨tis,a9,pU,true⟩:=ay.trees yC
def bO (k1_1:Int) (i5:Int) (l:List Int):Option ((Int×Int×List Int)⊕(Int×List Int)) :=
 cond (decide (i5<(l.length:Int)))
 ((ix l.length i5).bind λj15 =>
 (l[j15]?).bind λx =>
 let ls:List Int:=l.set j15 k1_1
 some (.inl (gI (k1_1+1),gI (i5+1),ls)))
 (some (.inr (k1_1,l)))
def az (a0:List Int) (k1:Int):Option ((List Int)×Int) :=
 (loop (λz=>bO z.1 z.2.1 z.2.2) (k1,0,a0)).bind λd =>
 some (d.2,d.1)
def oH:ln:=⟨false,kH,λa k=>az a k⟩
def oI:List (Nat×gB):=[(0,⟨⟨[(1,false,[dI]),(5,false,[dI])],[(1,.tree gV)]⟩,
 ⟨[(1,false,[dI])],[(1,.tree gV)]⟩,none⟩)]
theorem sP:lk ⟨tis,a9,pU,true⟩ oI Try.f13 (js Try.f13) false kH=λa k=>az a k:=by kernel_rfl
theorem sQ:jE Try.prog 13 oH:=by
 have h:=m8 (ann:=oI) (agg:=false) (cs:=kH) A6 nK Try.func13 (by kernel_rfl) (by kernel_rfl:Try.f13.body=some (js Try.f13));rw[sP]at h;exact h
def pV:List (FuncId×ln):=(13,oH)::pU
theorem yD:∀f M,gx pV f=some M->jE Try.prog f M:=lc yC sQ
theorem A7:jJ Try.prog ⟨tis,a9,pV,true⟩:=ay.trees yD
def bP (k1_1:Int) (i5:Int) (l:List j6):Option ((Int×Int×List j6)⊕(Int×List j6)) :=
 cond (decide (i5<(l.length:Int)))
 ((ix l.length i5).bind λj15 =>
 (l[j15]?).bind λx =>
 let ls:List j6:=l.set j15 (k1_1,x.2.1,x.2.2)
 (ix ls.length i5).bind λj22 =>
 (ls[j22]?).bind λx_1 =>
 let ls_1:List j6:=ls.set j22 (x_1.1,gI (k1_1+1),x_1.2.2)
 let k1_2:=gI ((gI (k1_1+1))+1)
 (ix ls_1.length i5).bind λj29 =>
 (ls_1[j29]?).bind λx_2 =>
 let ls_2:List j6:=ls_1.set j29 (x_2.1,x_2.2.1,k1_2)
 some (.inl (gI (k1_2+1),gI (i5+1),ls_2)))
 (some (.inr (k1_1,l)))
def bf (a0:List j6) (k1:Int):Option ((List j6)×Int) :=
 (loop (λz=>bP z.1 z.2.1 z.2.2) (k1,0,a0)).bind λd =>
 some (d.2,d.1)
def og:ln:=⟨false,(.one (.sl jt)),λa k=>bf a k⟩
def oh:List (Nat×gB):=[(0,⟨⟨[(1,false,[dI]),(5,false,[dI])],[(1,.tree jt)]⟩,
 ⟨[(1,false,[dI])],[(1,.tree jt)]⟩,none⟩)]
theorem rY:lk ⟨tis,a9,pV,true⟩ oh Try.f49 (js Try.f49) false (.one (.sl jt))=λa k=>bf a k:=by kernel_rfl
theorem rZ:jE Try.prog 49 og:=by
 have h:=m8 (ann:=oh) (agg:=false) (cs:=(.one (.sl jt))) A7 nK Try.func49 (by kernel_rfl) (by kernel_rfl:Try.f49.body=some (js Try.f49));rw[rY]at h;exact h
def pW:List (FuncId×ln):=(49,og)::pV
theorem yE:∀f M,gx pW f=some M->jE Try.prog f M:=lc yD rZ
theorem A8:jJ Try.prog ⟨tis,a9,pW,true⟩:=ay.trees yE
def bQ (a0:jl) (k1:Int):Option (jl×Int) :=
 (bf a0.1 k1).bind λz =>
 (az a0.2 z.2).bind λz_1 =>
 some ((z.1,z_1.1),z_1.2)
def oJ:ln:=⟨true,kM,λa k=>bQ a k⟩
theorem sR:lk ⟨tis,a9,pW,true⟩ [] Try.f32 (js Try.f32) true kM=λa k=>bQ a k:=by kernel_rfl
theorem sS:jE Try.prog 32 oJ:=by
 have h:=m8 (ann:=[]) (agg:=true) (cs:=kM) A8 nK Try.func32 (by kernel_rfl) (by kernel_rfl:Try.f32.body=some (js Try.f32));rw[sR]at h;exact h
def pX:List (FuncId×ln):=(32,oJ)::pW
theorem yF:∀f M,gx pX f=some M->jE Try.prog f M:=lc yE sS
theorem A9:jJ Try.prog ⟨tis,a9,pX,true⟩:=ay.trees yF
def bg (a0:gC) (k1:Int):Option (gC×Int) :=
 (bd a0.2.2.1 k1).bind λz =>
 (be a0.2.2.2.1 z.2).bind λz_1 =>
 (bQ (a0.2.2.2.2.1,a0.2.2.2.2.2.1) z_1.2).bind λz_2 =>
 some ((a0.1,a0.2.1,z.1,z_1.1,z_2.1.1,z_2.1.2,a0.2.2.2.2.2.2.1,a0.2.2.2.2.2.2.2.1,a0.2.2.2.2.2.2.2.2.1,a0.2.2.2.2.2.2.2.2.2.1,a0.2.2.2.2.2.2.2.2.2.2),z_2.2)
def nq:ln:=⟨true,il,λa k=>bg a k⟩
theorem rh:lk ⟨tis,a9,pX,true⟩ [] Try.f12 (js Try.f12) true il=λa k=>bg a k:=by kernel_rfl
theorem ri:jE Try.prog 12 nq:=by
 have h:=m8 (ann:=[]) (agg:=true) (cs:=il) A9 nK Try.func12 (by kernel_rfl) (by kernel_rfl:Try.f12.body=some (js Try.f12));rw[rh]at h;exact h
def pY:List (FuncId×ln):=(12,nq)::pX
theorem yG:∀f M,gx pY f=some M->jE Try.prog f M:=lc yF ri
theorem Aa:jJ Try.prog ⟨tis,a9,pY,true⟩:=ay.trees yG
def bR (k1_1:Int) (i5:Int) (l:List gG):Option ((Int×Int×List gG)⊕(Int×List gG)) :=
 cond (decide (i5<(l.length:Int)))
 ((ix l.length i5).bind λj14 =>
 (l[j14]?).bind λx16 =>
 (l[j14]?).bind λx =>
 (az x.1 k1_1).bind λz =>
 let ls:List gG:=l.set j14 (z.1,x.2.1,x.2.2.1,x.2.2.2.1,x.2.2.2.2)
 (ix ls.length i5).bind λj22 =>
 (ls[j22]?).bind λx_1 =>
 let ls_1:List gG:=ls.set j22 (x_1.1,z.2,x_1.2.2.1,x_1.2.2.2.1,x_1.2.2.2.2)
 (ix ls_1.length i5).bind λj30 =>
 (ls_1[j30]?).bind λx_2 =>
 let ls_2:List gG:=ls_1.set j30 (x_2.1,x_2.2.1,gI (z.2+1),x_2.2.2.2.1,x_2.2.2.2.2)
 let k1_2:=gI ((gI (z.2+1))+1)
 (ba k1_2).bind λt38 =>
 (ix ls_2.length i5).bind λj39 =>
 (ls_2[j39]?).bind λx_3 =>
 let ls_3:List gG:=ls_2.set j39 (x_3.1,x_3.2.1,x_3.2.2.1,t38,x_3.2.2.2.2)
 (ix ls_3.length i5).bind λj46 =>
 (ls_3[j46]?).bind λx49 =>
 (ls_3[j46]?).bind λx_4 =>
 (az x_4.2.2.2.2 (gI (k1_2+1))).bind λz_1 =>
 let ls_4:List gG:=ls_3.set j46 (x_4.1,x_4.2.1,x_4.2.2.1,x_4.2.2.2.1,z_1.1)
 some (.inl (z_1.2,gI (i5+1),ls_4)))
 (some (.inr (k1_1,l)))
def bh (a0:List gG) (k1:Int):Option ((List gG)×Int) :=
 (loop (λz=>bR z.1 z.2.1 z.2.2) (k1,0,a0)).bind λd =>
 some (d.2,d.1)
def oi:ln:=⟨false,(.one (.sl i7)),λa k=>bh a k⟩
def oj:List (Nat×gB):=[(0,⟨⟨[(1,false,[dI]),(5,false,[dI])],[(1,.tree i7)]⟩,
 ⟨[(1,false,[dI])],[(1,.tree i7)]⟩,none⟩)]
theorem s0:lk ⟨tis,a9,pY,true⟩ oj Try.f14 (js Try.f14) false (.one (.sl i7))=λa k=>bh a k:=by kernel_rfl
theorem s3:jE Try.prog 14 oi:=by
 have h:=m8 (ann:=oj) (agg:=false) (cs:=(.one (.sl i7))) Aa nK Try.func14 (by kernel_rfl) (by kernel_rfl:Try.f14.body=some (js Try.f14));rw[s0]at h;exact h
def s4:List (FuncId×ln):=(14,oi)::pY
theorem Ab:∀f M,gx s4 f=some M->jE Try.prog f M:=lc yG s3
theorem Ac:jJ Try.prog ⟨tis,a9,s4,true⟩:=ay.trees Ab
def ld (p0:gC) (i1:List Int) (a2:Int):Option Bool :=
 cond (decide ((i1.length:Int)>1048576))
 (some true)
 ((bX p0 1048576).bind λt21 =>
 cond (decide (t21<0))
 (some true)
 ((aC p0).bind λt25 =>
 (aB i1).bind λt27 =>
 (aF t25 t27 a2).bind λt29 =>
 (aC p0).bind λt31 =>
 (aB i1).bind λt33 =>
 (ak t31 t33 a2).bind λt37 =>
 (b6 t37 t29).bind λt40 =>
 cond (!t40)
 (some false)
 ((aC p0).bind λt44 =>
 (bI t31 t44).bind λt45 =>
 cond (!t45)
 (some false)
 ((aB i1).bind λt49 =>
 (aL t33 t49).bind λt50 =>
 cond (!t50)
 (some false)
 ((bg t31 1).bind λz =>
 (az t33 z.2).bind λz_1 =>
 (cond (decide (z_1.2<0))
 (some true)
 ((b6 t37 t29).bind λt63 =>
 some (!t63))).bind λt65 =>
 cond t65
 (some false)
 ((bh t37 1).bind λz_2 =>
 (bc z_2.1 1).bind λt71 =>
 cond (decide (t71<0))
 (some false)
 (cond (t71 != z_2.2)
 (some false)
 ((aC p0).bind λt78 =>
 (aB i1).bind λt80 =>
 (ak t78 t80 a2).bind λt82 =>
 (b6 t82 t29).bind λt85 =>
 cond (!t85)
 (some false)
 ((bc z_2.1 1).bind λt89 =>
 cond (decide (t89<0)) (some false) (cond (t89 != z_2.2) (some false) (some true)))))))))))
def qO:Fn:=⟨[.val true il false,.val false kH false,.val false gV false],[.val false jn (some true)],λa=>ld a.1 a.2.1 a.2.2⟩
theorem qP:qY ⟨tis,a9,s4,true⟩ [] Try.f3 (js Try.f3) [.val true il false,.val false kH false,.val false gV false] [.val false jn (some true)]=λa=>ld a.1 a.2.1 a.2.2:=by kernel_rfl
theorem m_laws_FnExactWalk:nG Try.prog 3 qO:=by
 have h:=v6 (ann:=[]) (ps:=[.val true il false,.val false kH false,.val false gV false]) (rs:=[.val false jn (some true)]) Ac nK Try.func3 (by kernel_rfl) (by kernel_rfl:Try.f3.body=some (js Try.f3));rw[qP]at h;exact h
end
end Go.V.W

