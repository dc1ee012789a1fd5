/- The law FnExactBridgeOnly: part of the proof that for every input it returns true. No condition. -/
import Derived.Test.YtpidgkkbmlgehaaGreatV4
import Derived.Test.YtpidgkkbmlgehaaGreatProg
import Derived.Test.YtpidgkkbmlgehaaGreatChecked
import Derived.KernelRfl
set_option linter.unusedVariables false
set_option linter.unusedSimpArgs false
namespace Go.V.W
open Go.Proofs
noncomputable section
def us:Nat->Nat->List (Nat×Bool×List qb)->List (Nat×Bool×List qb)|_,0,l=>l|a,n+1,l=>(a,false,[.undef])::us (a+1) n l
@[reducible] def p4:Cs:=.one (.int .i64)
@[reducible] def pN:Cs:=.one .bool
@[reducible] def rQ:Cs:=.one (.sl (.one (.int .u8)))
@[reducible] def rC:Cs:=.one (.sl (.one (.int .i64)))
@[reducible] def Jx:Cs:=.one .str
@[reducible] def dI:qb:=.dat (.int .i64)
@[reducible] def dB:qb:=.dat .bool
@[reducible] def dS:qb:=.dat .str
@[reducible] def s7:Cs:=.cons (.int .i64) (.cons (.int .i64) (.cons (.int .i64) (.cons (.int .i64) p4)))
@[reducible] def qy:Cs:=.cons .bool (.cons (.int .i64) (.cons .bool (.cons (.int .i64) (.cons (.int .i64) (.cons (.int .i64) (.cons (.int .i64) p4))))))
@[reducible] def pd:Cs:=.cons (.int .i64) (.cons (.int .i64) (.cons (.int .i64) (.cons (.int .i64) pN)))
@[reducible] def pV:Cs:=.cons (.int .i64) (.cons (.int .i64) p4)
@[reducible] def qv:Cs:=.cons (.sl pV) rC
@[reducible] def p9:Cs:=.cons (.int .i64) (.cons .str (.cons (.sl qy) (.cons (.sl pd) (.cons (.sl pV) (.cons (.sl p4) (.cons (.int .i64) (.cons (.int .i64) (.cons (.int .i64) (.cons (.int .i64) p4)))))))))
@[reducible] def ri:Cs:=.cons (.int .i64) (.cons (.int .i64) (.cons (.int .i64) rQ))
@[reducible] def qF:Cs:=.cons (.int .i64) (.cons (.int .i64) (.cons .bool (.cons (.sl (.one (.int .u8))) (.cons (.int .i64) (.cons (.int .i64) (.cons (.int .i64) (.cons (.sl (.one (.int .u8))) (.cons (.int .i64) (.cons (.int .i64) (.cons (.int .i64) (.cons (.int .i64) p4)))))))))))
@[reducible] def wk:Cs:=.cons (.int .i64) (.cons (.int .i64) (.cons (.int .i64) (.cons (.int .i64) rQ)))
@[reducible] def uN:Cs:=.cons (.int .i64) (.cons (.int .i64) (.cons .str rC))
@[reducible] def pE:Cs:=.cons (.sl p4) (.cons (.int .i64) (.cons (.int .i64) (.cons .str rC)))
@[reducible] def u5:Cs:=.cons (.int .i64) (.cons (.int .i64) (.cons (.int .i64) (.cons (.int .i64) (.one (.sl pE)))))
@[reducible] def ye:Cs:=.cons (.int .i64) (.cons (.sl (.one (.int .u8))) (.cons (.int .i64) (.cons (.int .i64) (.cons (.int .i64) (.cons (.int .i64) (.cons (.int .i64) (.cons (.sl pE) (.cons (.int .i64) (.cons .str (.cons (.sl qy) (.cons (.sl pd) (.cons (.sl pV) (.cons (.sl p4) (.cons (.int .i64) (.cons (.int .i64) (.cons (.int .i64) (.cons (.int .i64) (.cons (.int .i64) (.cons (.int .i64) p4)))))))))))))))))))
@[reducible] def sO:Cs:=.cons (.int .i64) (.cons .str (.cons (.sl qy) (.cons (.sl pd) (.cons (.sl pV) (.cons (.sl p4) (.cons (.int .i64) (.cons (.int .i64) (.cons (.int .i64) (.cons (.int .i64) (.cons (.int .i64) (.cons .str (.cons (.sl ye) (.cons (.int .i64) p4)))))))))))))
@[reducible] def wl:Cs:=.cons (.sl (.one (.int .u8))) (.cons (.int .i64) pN)
@[reducible] def zi:Cs:=.cons (.int .i64) (.cons (.int .i64) (.cons (.int .i64) (.cons (.int .i64) (.cons (.int .i64) (.one (.sl pE))))))
abbrev sw:Type:=Int×Int×Int×Int×Int
abbrev Pt:Type:=Bool×Int×Bool×Int×Int×Int×Int×Int
abbrev oV:Type:=Int×Int×Int×Int×Bool
abbrev pm:Type:=Int×Int×Int
abbrev pO:Type:=List pm×List Int
abbrev oU:Type:=Int×List UInt8×List Pt×List oV×List pm×List Int×Int×Int×Int×Int×Int
abbrev qq:Type:=Int×Int×Int×List Int
abbrev Act:Type:=Int×Int×Bool×List Int×Int×Int×Int×List Int×Int×Int×Int×Int×Int
abbrev qp:Type:=Int×Int×Int×Int×List Int
abbrev ub:Type:=Int×Int×List UInt8×List Int
abbrev pc:Type:=List Int×Int×Int×List UInt8×List Int
abbrev ra:Type:=Int×Int×Int×Int×List pc
abbrev tH:Type:=Int×List Int×Int×Int×Int×Int×Int×List pc×Int×List UInt8×List Pt×List oV×List pm×List Int×Int×Int×Int×Int×Int×Int×Int
abbrev qe:Type:=Int×List UInt8×List Pt×List oV×List pm×List Int×Int×Int×Int×Int×Int×List UInt8×List tH×Int×Int
abbrev zj:Type:=List Int×Int×Bool
abbrev GH:Type:=Int×Int×Int×Int×Int×List pc
def tis:List (Nat×pk):=[(2,⟨false,.one (.int .i64),[],0⟩),
 (3,⟨false,.one (.int .i64),[],0⟩),
 (4,⟨false,.one .bool,[],0⟩),
 (5,⟨false,.one (.int .u8),[],0⟩),
 (6,⟨false,.one (.int .u8),[],0⟩),
 (9,⟨false,.one .str,[],0⟩),
 (10,⟨false,.one .str,[],0⟩),
 (11,⟨false,.one .str,[],0⟩),
 (12,⟨false,.one (.int .u64),[],0⟩),
 (21,⟨false,.one (.int .i32),[],0⟩),
 (22,⟨false,.one (.sl (.one (.int .u8))),[],5⟩),
 (24,⟨false,.one (.sl qy),[],131⟩),
 (25,⟨false,.one (.sl pd),[],133⟩),
 (26,⟨false,.one (.sl pV),[],219⟩),
 (27,⟨false,.one (.sl p4),[],3⟩),
 (28,⟨true,qv,[(26,0),(27,1)],0⟩),
 (29,⟨true,qv,[(26,0),(27,1)],0⟩),
 (30,⟨true,p9,[(3,0),(9,1),(24,2),(25,3),(29,4),(3,6),(3,7),(3,8),(3,9),(3,10)],0⟩),
 (31,⟨true,p9,[(3,0),(9,1),(24,2),(25,3),(29,4),(3,6),(3,7),(3,8),(3,9),(3,10)],0⟩),
 (32,⟨false,.one (.sl pE),[],46⟩),
 (33,⟨true,u5,[(3,0),(3,1),(3,2),(3,3),(32,4)],0⟩),
 (34,⟨true,u5,[(3,0),(3,1),(3,2),(3,3),(32,4)],0⟩),
 (43,⟨true,uN,[(3,0),(3,1),(9,2),(27,3)],0⟩),
 (44,⟨true,uN,[(3,0),(3,1),(9,2),(27,3)],0⟩),
 (45,⟨true,pE,[(27,0),(44,1)],0⟩),
 (46,⟨true,pE,[(27,0),(44,1)],0⟩),
 (51,⟨false,.one (.sl qy),[],241⟩),
 (52,⟨false,.one (.sl pd),[],243⟩),
 (53,⟨false,.one (.sl pV),[],308⟩),
 (54,⟨true,qv,[(53,0),(27,1)],0⟩),
 (55,⟨true,qv,[(53,0),(27,1)],0⟩),
 (56,⟨true,p9,[(3,0),(9,1),(51,2),(52,3),(55,4),(3,6),(3,7),(3,8),(3,9),(3,10)],0⟩),
 (57,⟨true,p9,[(3,0),(9,1),(51,2),(52,3),(55,4),(3,6),(3,7),(3,8),(3,9),(3,10)],0⟩),
 (58,⟨false,.one (.sl qF),[],152⟩),
 (63,⟨false,.one (.sl qF),[],101⟩),
 (69,⟨false,.one (.sl ye),[],174⟩),
 (70,⟨true,sO,[(31,0),(9,11),(69,12),(3,13),(3,14)],0⟩),
 (71,⟨true,sO,[(31,0),(9,11),(69,12),(3,13),(3,14)],0⟩),
 (75,⟨false,.one (.sl zi),[],81⟩),
 (80,⟨true,zi,[(3,0),(34,1)],0⟩),
 (81,⟨true,zi,[(3,0),(34,1)],0⟩),
 (92,⟨false,.one (.sl wk),[],190⟩),
 (96,⟨true,ri,[(3,0),(3,1),(3,2),(22,3)],0⟩),
 (97,⟨true,ri,[(3,0),(3,1),(3,2),(22,3)],0⟩),
 (98,⟨true,s7,[(3,0),(3,1),(3,2),(3,3),(3,4)],0⟩),
 (99,⟨true,s7,[(3,0),(3,1),(3,2),(3,3),(3,4)],0⟩),
 (100,⟨true,qF,[(3,0),(3,1),(4,2),(22,3),(97,4),(99,8)],0⟩),
 (101,⟨true,qF,[(3,0),(3,1),(4,2),(22,3),(97,4),(99,8)],0⟩),
 (108,⟨false,.one (.sl pE),[],284⟩),
 (109,⟨true,u5,[(3,0),(3,1),(3,2),(3,3),(108,4)],0⟩),
 (110,⟨true,u5,[(3,0),(3,1),(3,2),(3,3),(108,4)],0⟩),
 (130,⟨true,qy,[(4,0),(3,1),(4,2),(99,3)],0⟩),
 (131,⟨true,qy,[(4,0),(3,1),(4,2),(99,3)],0⟩),
 (132,⟨true,pd,[(3,0),(3,1),(3,2),(3,3),(4,4)],0⟩),
 (133,⟨true,pd,[(3,0),(3,1),(3,2),(3,3),(4,4)],0⟩),
 (149,⟨true,ri,[(3,0),(3,1),(3,2),(22,3)],0⟩),
 (150,⟨true,s7,[(3,0),(3,1),(3,2),(3,3),(3,4)],0⟩),
 (151,⟨true,qF,[(3,0),(3,1),(4,2),(22,3),(149,4),(150,8)],0⟩),
 (152,⟨true,qF,[(3,0),(3,1),(4,2),(22,3),(149,4),(150,8)],0⟩),
 (173,⟨true,ye,[(3,0),(22,1),(3,2),(34,3),(31,8),(3,19),(3,20)],0⟩),
 (174,⟨true,ye,[(3,0),(22,1),(3,2),(34,3),(31,8),(3,19),(3,20)],0⟩),
 (185,⟨false,.one (.sl Jx),[],9⟩),
 (189,⟨true,wk,[(3,0),(97,1)],0⟩),
 (190,⟨true,wk,[(3,0),(97,1)],0⟩),
 (201,⟨true,.cons (.sl (.one (.int .u8))) (.cons (.int .i64) p4),[(22,0),(3,1),(3,2)],0⟩),
 (202,⟨true,.cons (.sl (.one (.int .u8))) (.cons (.int .i64) p4),[(22,0),(3,1),(3,2)],0⟩),
 (214,⟨false,.one (.sl rC),[],27⟩),
 (218,⟨true,pV,[(3,0),(3,1),(3,2)],0⟩),
 (219,⟨true,pV,[(3,0),(3,1),(3,2)],0⟩),
 (240,⟨true,qy,[(4,0),(3,1),(4,2),(150,3)],0⟩),
 (241,⟨true,qy,[(4,0),(3,1),(4,2),(150,3)],0⟩),
 (243,⟨true,pd,[(3,0),(3,1),(3,2),(3,3),(4,4)],0⟩),
 (260,⟨true,wl,[(22,0),(3,1),(4,2)],0⟩),
 (261,⟨true,wl,[(22,0),(3,1),(4,2)],0⟩),
 (270,⟨false,.one (.int .u64),[],0⟩),
 (282,⟨true,uN,[(3,0),(3,1),(9,2),(27,3)],0⟩),
 (283,⟨true,pE,[(27,0),(282,1)],0⟩),
 (284,⟨true,pE,[(27,0),(282,1)],0⟩),
 (308,⟨true,pV,[(3,0),(3,1),(3,2)],0⟩),
 (313,⟨true,wl,[(22,0),(3,1),(4,2)],0⟩),
 (314,⟨true,wl,[(22,0),(3,1),(4,2)],0⟩),
 (343,⟨false,.one (.int .i8),[],0⟩),
 (351,⟨false,.one (.int .u32),[],0⟩),
 (352,⟨false,.one (.int .u8),[],0⟩),
 (353,⟨false,.one (.int .u8),[],0⟩),
 (356,⟨false,.one (.int .i32),[],0⟩),
 (357,⟨false,.one (.int .i32),[],0⟩)]
theorem tisT:qG Tryz.prog tis:=qG.of_all (by kernel_rfl)
theorem JK:Ci Tryz.prog tis:=Ci.of_all (by kernel_rfl)
theorem tisD:Deep Tryz.prog tis:=Deep.of_all (by kernel_rfl)
theorem va:Tryz.prog.follows .mixedOrders=true:=by kernel_rfl
def qN (fn:Func):Code:=match fn.body with|some c=>c|none=>.skip
theorem m4:rp Tryz.prog ⟨tis,[],[],false⟩:=⟨tisT,JK,(λf F h=>by cases h),(λf M h=>by cases h),(λh=>by cases h)⟩
theorem K5 {l : List (FuncId×Fn)} (g : rp Tryz.prog ⟨tis, l, [], false⟩) (n : FuncId) (f : Func) (ann : List (Nat×p3)) (F : Fn) (h1 : Tryz.prog.funcs[n]?=some f) (h2 : (f.name == "runtime.NumGoroutine")=false := by kernel_rfl) (h3 : f.body=some (qN f) := by kernel_rfl) (h4 : za ⟨tis, l, [], false⟩ ann f (qN f) F.ps F.rs=F.den := by kernel_rfl) : vC Tryz.prog n F := by
 have h:=CC (ann:=ann) (ps:=F.ps) (rs:=F.rs) g va h1 h2 h3;rw[h4]at h;exact h
abbrev FL:=List (FuncId×Fn)
def Gd (l:FL):Prop:=rp Tryz.prog ⟨tis,l,[],false⟩
theorem p7 {l : List (FuncId×Fn)} (g : Gd l) (n : FuncId) (f : Func) (ann : List (Nat×p3)) {F : Fn} (h1 : Tryz.prog.funcs[n]?=some f) (h2 : (f.name == "runtime.NumGoroutine")=false := by kernel_rfl) (h3 : f.body=some (qN f) := by kernel_rfl) (h4 : za ⟨tis, l, [], false⟩ ann f (qN f) F.ps F.rs=F.den := by kernel_rfl) : Gd ((n, F)::l) := rp.cons g (K5 g n f ann F h1 h2 h3 h4)
def e9 (a0:List Pt) (left1:Int):Option Int :=
 let left1_1:=oT (left1-(a0.length:Int))
 cond (decide (left1_1<0)) (some (-1)) (some left1_1)
def gA:FL:=(105,⟨[.val false (.one (.sl qy)) false,.val false p4 false],[.val false p4 (some true)],λa=>e9 a.1 a.2⟩)::[]
theorem m5:Gd gA:=p7 m4 105 Tryz.f105 [] Tryz.func105
def ea (a0:List oV) (left1:Int):Option Int :=
 let left1_1:=oT (left1-(a0.length:Int))
 cond (decide (left1_1<0)) (some (-1)) (some left1_1)
def gB:FL:=(106,⟨[.val false (.one (.sl pd)) false,.val false p4 false],[.val false p4 (some true)],λa=>ea a.1 a.2⟩)::gA
theorem m6:Gd gB:=p7 m5 106 Tryz.f106 [] Tryz.func106
def eb (a0:List pm) (left1:Int):Option Int :=
 let left1_1:=oT (left1-(a0.length:Int))
 cond (decide (left1_1<0)) (some (-1)) (some left1_1)
def gC:FL:=(202,⟨[.val false (.one (.sl pV)) false,.val false p4 false],[.val false p4 (some true)],λa=>eb a.1 a.2⟩)::gB
theorem m7:Gd gC:=p7 m6 202 Tryz.f202 [] Tryz.func202
def ed (a0:List Int) (left1:Int):Option Int :=
 let left1_1:=oT (left1-(a0.length:Int))
 cond (decide (left1_1<0)) (some (-1)) (some left1_1)
def gD:FL:=(203,⟨[.val false rC false,.val false p4 false],[.val false p4 (some true)],λa=>ed a.1 a.2⟩)::gC
theorem m8:Gd gD:=p7 m7 203 Tryz.f203 [] Tryz.func203
def ee (a0:pO) (left1:Int):Option Int :=
 (eb a0.1 left1).bind λt8 =>
 cond (decide (t8<0))
 (some (-1))
 ((ed a0.2 t8).bind λt14 =>
 cond (decide (t14<0)) (some (-1)) (some t14))
def gE:FL:=(107,⟨[.val true qv false,.val false p4 false],[.val false p4 (some true)],λa=>ee a.1 a.2⟩)::gD
theorem m9:Gd gE:=p7 m8 107 Tryz.f107 [] Tryz.func107
def dY (a0:oU) (left1:Int):Option Int :=
 let left1_1:=oT (left1-(a0.2.1.length:Int))
 cond (decide (left1_1<0))
 (some (-1))
 ((e9 a0.2.2.1 left1_1).bind λt15 =>
 cond (decide (t15<0))
 (some (-1))
 ((ea a0.2.2.2.1 t15).bind λt21 =>
 cond (decide (t21<0))
 (some (-1))
 ((ee (a0.2.2.2.2.1,a0.2.2.2.2.2.1) t21).bind λt27 =>
 cond (decide (t27<0)) (some (-1)) (some t27))))
def gF:FL:=(26,⟨[.val true p9 false,.val false p4 false],[.val false p4 (some true)],λa=>dY a.1 a.2⟩)::gE
theorem ma:Gd gF:=p7 m9 26 Tryz.f26 [] Tryz.func26
def da (a0:List Int) (left1:Int):Option Int :=
 let left1_1:=oT (left1-(a0.length:Int))
 cond (decide (left1_1<0)) (some (-1)) (some left1_1)
def gG:FL:=(204,⟨[.val false rQ false,.val false p4 false],[.val false p4 (some true)],λa=>da a.1 a.2⟩)::gF
theorem mb:Gd gG:=p7 ma 204 Tryz.f204 [] Tryz.func204
def ef (a0:qq) (left1:Int):Option Int :=
 (da a0.2.2.2 left1).bind λt8 =>
 cond (decide (t8<0)) (some (-1)) (some t8)
def gH:FL:=(205,⟨[.val true ri false,.val false p4 false],[.val false p4 (some true)],λa=>ef a.1 a.2⟩)::gG
theorem mc:Gd gH:=p7 mb 205 Tryz.f205 [] Tryz.func205
def dc (a0:Act) (left1:Int):Option Int :=
 (da a0.2.2.2.1 left1).bind λt8 =>
 cond (decide (t8<0))
 (some (-1))
 ((ef (a0.2.2.2.2.1,a0.2.2.2.2.2.1,a0.2.2.2.2.2.2.1,a0.2.2.2.2.2.2.2.1) t8).bind λt14 =>
 cond (decide (t14<0)) (some (-1)) (some t14))
def gI:FL:=(108,⟨[.val true qF false,.val false p4 false],[.val false p4 (some true)],λa=>dc a.1 a.2⟩)::gH
theorem md:Gd gI:=p7 mc 108 Tryz.f108 [] Tryz.func108
def gJ (a0:List Act) (left1_2:Int) (i5:Int):Option ((Int×Int)⊕(Int⊕Int)) :=
 cond (decide (i5<(a0.length:Int)))
 ((at? a0 i5).bind λx20 =>
 (dc x20 left1_2).bind λt23 =>
 cond (decide (t23<0)) (some (.inr (.inr (-1)))) (some (.inl (t23,oT (i5+1)))))
 (some (.inr (.inl left1_2)))
def dZ (a0:List Act) (left1:Int):Option Int :=
 let left1_1:=oT (left1-(a0.length:Int))
 cond (decide (left1_1<0))
 (some (-1))
 ((loop (λz=>gJ a0 z.1 z.2) (left1_1,0)).bind (Sum.elim (λd =>
 some d) (λr=>some r)))
def gK:FL:=(27,⟨[.val false (.one (.sl qF)) false,.val false p4 false],[.val false p4 (some true)],λa=>dZ a.1 a.2⟩)::gI
theorem me:Gd gK:=p7 md 27 Tryz.f27 [(0,⟨⟨[(1,false,[dI]),(5,false,[dI])],[]⟩,
 ⟨[(1,false,[dI])],[]⟩,some ⟨[(4,false,[dI])],[]⟩⟩)] Tryz.func27
def ci (l0:List oV):Option (List oV) :=
 (pL ([]:List oV) l0).bind λzs5 =>
 some zs5
def gL:FL:=(175,⟨[.val false (.one (.sl pd)) false],[.val false (.one (.sl pd)) (some true)],λa=>ci a⟩)::gK
theorem mf:Gd gL:=p7 me 175 Tryz.f175 [] Tryz.func175
def de (v0:pO):Option pO :=
 (pL ([]:List pm) v0.1).bind λzs6 =>
 (pL ([]:List Int) v0.2).bind λzs10 =>
 some (zs6,zs10)
def gM:FL:=(176,⟨[.val true qv false],[.val true qv (some true)],λa=>de a⟩)::gL
theorem mg:Gd gM:=p7 mf 176 Tryz.f176 [] Tryz.func176
def aF (b0:oU):Option oU :=
 (pL ([]:List Pt) b0.2.2.1).bind λzs8 =>
 (ci b0.2.2.2.1).bind λt12 =>
 (de (b0.2.2.2.2.1,b0.2.2.2.2.2.1)).bind λt16 =>
 some (b0.1,b0.2.1,zs8,t12,t16.1,t16.2,b0.2.2.2.2.2.2.1,b0.2.2.2.2.2.2.2.1,b0.2.2.2.2.2.2.2.2.1,b0.2.2.2.2.2.2.2.2.2.1,b0.2.2.2.2.2.2.2.2.2.2)
def gN:FL:=(83,⟨[.val true p9 false],[.val true p9 (some true)],λa=>aF a⟩)::gM
theorem mh:Gd gN:=p7 mg 83 Tryz.f83 [] Tryz.func83
def aG (n0:Int):Option Int :=
 cond (decide (n0>=1000000)) (some n0) (some (oT (n0+1)))
def gO:FL:=(143,⟨[.val false p4 false],[.val false p4 (some true)],λa=>aG a⟩)::gN
theorem mi:Gd gO:=p7 mh 143 Tryz.f143 [] Tryz.func143
def a7 (x0:Int) (least1:Int) (most2:Int):Option Bool :=
 (cond (decide (x0>=least1)) (some (decide (x0<=most2))) (some false)).bind λt14 =>
 some t14
def gP:FL:=(103,⟨[.val false p4 false,.val false p4 false,.val false p4 false],[.val false pN (some true)],λa=>a7 a.1 a.2.1 a.2.2⟩)::gO
theorem mj:Gd gP:=p7 mi 103 Tryz.f103 [] Tryz.func103
def cj (e0:oV):Option Bool :=
 (a7 e0.1 1 99).bind λt5 =>
 (cond t5
 ((a7 e0.2.1 1 9999).bind λt9 =>
 some t9)
 (some false)).bind λt10 =>
 (cond t10
 ((a7 e0.2.2.1 0 7).bind λt14 =>
 some t14)
 (some false)).bind λt15 =>
 (cond t15
 ((a7 e0.2.2.2.1 0 4).bind λt19 =>
 some t19)
 (some false)).bind λt20 =>
 (cond t20
 ((cond (!e0.2.2.2.2) (some true) (some (e0.2.2.2.1==0))).bind λt29 =>
 some t29)
 (some false)).bind λt30 =>
 some t30
def gQ:FL:=(248,⟨[.val true pd false],[.val false pN (some true)],λa=>cj a⟩)::gP
theorem ml:Gd gQ:=p7 mj 248 Tryz.f248 [] Tryz.func248
def aQ (e0:oV) (tag1:Int) (mac2:Int):Option Bool :=
 cond (e0.1 != tag1) (some (decide (e0.1<tag1))) (some (decide (e0.2.1<mac2)))
def gR:FL:=(249,⟨[.val true pd false,.val false p4 false,.val false p4 false],[.val false pN (some true)],λa=>aQ a.1 a.2.1 a.2.2⟩)::gQ
theorem mn:Gd gR:=p7 ml 249 Tryz.f249 [] Tryz.func249
def eg (l0:List oV) (i3:Int):Option (Int⊕(Unit⊕Bool)) :=
 cond (decide (i3<(l0.length:Int)))
 ((at? l0 i3).bind λx12 =>
 (cj x12).bind λt14 =>
 (cond (!t14)
 (some true)
 ((cond (decide (i3>0))
 ((at? l0 (oT (i3-1))).bind λx23 =>
 (at? l0 i3).bind λx27 =>
 (at? l0 i3).bind λx32 =>
 (aQ x23 x27.1 x32.2.1).bind λt35 =>
 some (!t35))
 (some false)).bind λt37 =>
 some t37)).bind λt38 =>
 cond t38 (some (.inr (.inr false))) (some (.inl (oT (i3+1)))))
 (some (.inr (.inl ())))
def ck (l0:List oV):Option Bool :=
 (loop (λz=>eg l0 z) 0).bind (Sum.elim (λd =>
 let t2:=decide ((l0.length:Int)<=12)
 some t2) (λr=>some r))
def gS:FL:=(148,⟨[.val false (.one (.sl pd)) false],[.val false pN (some true)],λa=>ck a⟩)::gR
theorem mo:Gd gS:=p7 mn 148 Tryz.f148 [(0,⟨⟨(3,false,[dI])::us 17 21 [],[]⟩,
 ⟨[],[]⟩,some ⟨[(2,false,[dB])],[]⟩⟩)] Tryz.func148
def bc (l0:List oV) (tag1:Int) (mac2:Int) (i7:Int):Option (Int⊕(Unit⊕Int)) :=
 cond (decide (i7<(l0.length:Int)))
 ((at? l0 i7).bind λx16 =>
 (cond (x16.1==tag1)
 ((at? l0 i7).bind λx24 =>
 some (x24.2.1==mac2))
 (some false)).bind λt29 =>
 cond t29 (some (.inr (.inr i7))) (some (.inl (oT (i7+1)))))
 (some (.inr (.inl ())))
def cm (l0:List oV) (tag1:Int) (mac2:Int):Option Int :=
 (loop (λz=>bc l0 tag1 mac2 z) 0).bind (Sum.elim (λd =>
 some (-1)) (λr=>some r))
def gT:FL:=(270,⟨[.val false (.one (.sl pd)) false,.val false p4 false,.val false p4 false],[.val false p4 (some true)],λa=>cm a.1 a.2.1 a.2.2⟩)::gS
theorem mp:Gd gT:=p7 mo 270 Tryz.f270 [(0,⟨⟨(7,false,[dI])::us 22 7 [],[]⟩,
 ⟨[],[]⟩,some ⟨[(6,false,[dI])],[]⟩⟩)] Tryz.func270
def bd (p0:List oV) (i1:oV) (t6:Bool) (t7:Int) (t5:List oV):Option ((Bool×Int×List oV)⊕(Bool×List oV)) :=
 cond (decide (t7<(p0.length:Int)))
 ((cond (!t6)
 ((at? p0 t7).bind λx20 =>
 (aQ x20 i1.1 i1.2.1).bind λt26 =>
 some (!t26))
 (some false)).bind λt28 =>
 cond t28
 ((pL t5 [i1]).bind λzs32 =>
 (at? p0 t7).bind λx35 =>
 (cond (x35.1 != i1.1)
 (some true)
 ((at? p0 t7).bind λx44 =>
 some (x44.2.1 != i1.2.1))).bind λt50 =>
 cond t50
 ((at? p0 t7).bind λx54 =>
 (pL zs32 [x54]).bind λzs57 =>
 some (.inl (true,oT (t7+1),zs57)))
 (some (.inl (true,oT (t7+1),zs32))))
 ((at? p0 t7).bind λx35_1 =>
 (cond (x35_1.1 != i1.1)
 (some true)
 ((at? p0 t7).bind λx44_1 =>
 some (x44_1.2.1 != i1.2.1))).bind λt50_1 =>
 cond t50_1
 ((at? p0 t7).bind λx54_1 =>
 (pL t5 [x54_1]).bind λzs57_1 =>
 some (.inl (t6,oT (t7+1),zs57_1)))
 (some (.inl (t6,oT (t7+1),t5)))))
 (some (.inr (t6,t5)))
def df (p0:List oV) (i1:oV):Option (List oV) :=
 (loop (λz=>bd p0 i1 z.1 z.2.1 z.2.2) (false,0,([]:List oV))).bind λd =>
 cond (!d.1)
 ((pL d.2 [i1]).bind λzs63 =>
 some zs63)
 (some d.2)
def gU:FL:=(271,⟨[.val false (.one (.sl pd)) false,.val true pd false],[.val false (.one (.sl pd)) (some true)],λa=>df a.1 a.2⟩)::gT
theorem mq:Gd gU:=p7 mp 271 Tryz.f271 [(0,⟨⟨(5,false,[.own 1000000000])::(6,false,[dB])::(7,false,[dI])::us 18 10 (us 42 8 []),[(1000000000,.root pd true)]⟩,
 ⟨[(5,false,[.own 1000000300]),(6,false,[dB])],[(1000000300,.root pd true)]⟩,none⟩)] Tryz.func271
def dg (l0:List oV) (tag1:Int) (mac2:Int) (port3:Int):Option (List oV) :=
 (cm l0 tag1 mac2).bind λt18 =>
 (ck l0).bind λt20 =>
 (cond (!t20)
 (some true)
 ((cj (tag1,mac2,port3,0,false)).bind λt24 =>
 some (!t24))).bind λt26 =>
 (cond t26
 (some true)
 ((cond (decide (t18>=0))
 ((at? l0 t18).bind λx33 =>
 some x33.2.2.2.2)
 (some false)).bind λt36 =>
 some t36)).bind λt37 =>
 (cond t37
 (some true)
 ((cond (decide (t18<0)) (some (decide ((l0.length:Int)>=12))) (some false)).bind λt45 =>
 some t45)).bind λt46 =>
 cond t46
 ((ci l0).bind λt48 =>
 some t48)
 ((df l0 (tag1,mac2,port3,0,false)).bind λt51 =>
 some t51)
def gV:FL:=(161,⟨[.val false (.one (.sl pd)) false,.val false p4 false,.val false p4 false,.val false p4 false],[.val false (.one (.sl pd)) (some true)],λa=>dg a.1 a.2.1 a.2.2.1 a.2.2.2⟩)::gU
theorem mr:Gd gV:=p7 mq 161 Tryz.f161 [] Tryz.func161
def bC (v0:sw):Option Bool :=
 (a7 v0.1 1 99).bind λt5 =>
 (cond t5
 ((a7 v0.2.1 0 100000).bind λt9 =>
 some t9)
 (some false)).bind λt10 =>
 (cond t10
 ((a7 v0.2.2.1 0 10).bind λt14 =>
 some t14)
 (some false)).bind λt15 =>
 (cond t15
 ((a7 v0.2.2.2.1 1 99).bind λt19 =>
 some t19)
 (some false)).bind λt20 =>
 (cond t20
 ((a7 v0.2.2.2.2 0 7).bind λt24 =>
 some t24)
 (some false)).bind λt25 =>
 some t25
def gW:FL:=(247,⟨[.val true s7 false],[.val false pN (some true)],λa=>bC a⟩)::gV
theorem mt:Gd gW:=p7 mr 247 Tryz.f247 [] Tryz.func247
def cn (p0:Pt):Option Bool :=
 (a7 p0.2.1 1 1000).bind λt5 =>
 (cond (!t5)
 (some true)
 ((cond (!p0.1) (some p0.2.2.1) (some false)).bind λt14 =>
 some t14)).bind λt15 =>
 cond t15
 (some false)
 (cond (!p0.2.2.1)
 (let t2:=p0.2.2.2.1==0&&(p0.2.2.2.2.1==0&&(p0.2.2.2.2.2.1==0&&(p0.2.2.2.2.2.2.1==0&&(p0.2.2.2.2.2.2.2==0))))
 some t2)
 ((bC p0.2.2.2).bind λt25 =>
 some t25))
def gX:FL:=(147,⟨[.val true qy false],[.val false pN (some true)],λa=>cn a⟩)::gW
theorem mu:Gd gX:=p7 mt 147 Tryz.f147 [] Tryz.func147
def mw (v0:pO) (id1:Int) (i5:Int):Option (Int⊕(Unit⊕Int)) :=
 cond (decide (i5<(v0.1.length:Int)))
 ((at? v0.1 i5).bind λx16 =>
 cond (x16.1==id1) (some (.inr (.inr i5))) (some (.inl (oT (i5+1)))))
 (some (.inr (.inl ())))
def be (v0:pO) (id1:Int):Option Int :=
 (loop (λz=>mw v0 id1 z) 0).bind (Sum.elim (λd =>
 some (-1)) (λr=>some r))
def gY:FL:=(250,⟨[.val true qv false,.val false p4 false],[.val false p4 (some true)],λa=>be a.1 a.2⟩)::gX
theorem my:Gd gY:=p7 mu 250 Tryz.f250 [(0,⟨⟨[(5,false,[dI])],[]⟩,
 ⟨[],[]⟩,some ⟨[(4,false,[dI])],[]⟩⟩)] Tryz.func250
def eh (p0:pO) (t27:Int) (t6:Int):Option (Int⊕(Unit⊕Bool)) :=
 cond (decide (t6<(p0.1.length:Int)))
 ((at? p0.1 t6).bind λx39 =>
 (a7 x39.1 1 99).bind λt43 =>
 (cond (!t43)
 (some true)
 ((a7 x39.2.1 0 (oT (t27-1))).bind λt49 =>
 some (!t49))).bind λt51 =>
 (cond t51
 (some true)
 ((a7 x39.2.2 0 (oT (t27-1))).bind λt56 =>
 some (!t56))).bind λt58 =>
 (cond t58 (some true) (some ((rb .i64 x39.2.2 x39.2.1) != x39.2.2))).bind λt68 =>
 (cond t68
 (some true)
 ((cond (decide (t6>0))
 ((at? p0.1 (oT (t6-1))).bind λx77 =>
 some (decide (x77.1>=x39.1)))
 (some false)).bind λt83 =>
 some t83)).bind λt84 =>
 cond t84 (some (.inr (.inr false))) (some (.inl (oT (t6+1)))))
 (some (.inr (.inl ())))
def gZ (p0:pO) (t8:Int):Option (Int⊕(Unit⊕Bool)) :=
 cond (decide (t8<(p0.2.length:Int)))
 ((at? p0.2 t8).bind λx96 =>
 (be p0 x96).bind λt98 =>
 cond (decide (t98<0)) (some (.inr (.inr false))) (some (.inl (oT (t8+1)))))
 (some (.inr (.inl ())))
def dh (p0:pO) (i1:Int):Option Bool :=
 (a7 i1 1 6).bind λt10 =>
 (cond (!t10) (some true) (some ((p0.2.length:Int) != i1))).bind λt18 =>
 (cond t18 (some true) (some (decide ((p0.1.length:Int)>6)))).bind λt24 =>
 cond t24
 (some false)
 ((shl .i64 1 (IntKind.u64.wrap (i1))).bind λt27 =>
 (loop (λz=>eh p0 t27 z) 0).bind (Sum.elim (λd =>
 (loop (λz=>gZ p0 z) 0).bind (Sum.elim (λd_1 =>
 some true) (λr=>some r))) (λr_1=>some r_1)))
def hC:FL:=(149,⟨[.val true qv false,.val false p4 false],[.val false pN (some true)],λa=>dh a.1 a.2⟩)::gY
theorem mz:Gd hC:=p7 my 149 Tryz.f149 [(0,⟨⟨(6,false,[dI])::us 46 5 (us 53 5 (us 60 8 (us 70 14 []))),[]⟩,
 ⟨[],[]⟩,some ⟨[(4,false,[dB])],[]⟩⟩),
 (2,⟨⟨[(8,false,[dI])],[]⟩,
 ⟨[],[]⟩,some ⟨[(4,false,[dB])],[]⟩⟩)] Tryz.func149
def dj (b0:oU):Option Bool :=
 (a7 b0.2.2.2.2.2.2.1 0 1000000).bind λt5 =>
 (cond t5
 ((a7 b0.2.2.2.2.2.2.2.1 0 1000000).bind λt9 =>
 some t9)
 (some false)).bind λt10 =>
 (cond t10
 ((a7 b0.2.2.2.2.2.2.2.2.1 0 1000000).bind λt14 =>
 some t14)
 (some false)).bind λt15 =>
 (cond t15
 ((a7 b0.2.2.2.2.2.2.2.2.2.1 0 1000000).bind λt19 =>
 some t19)
 (some false)).bind λt20 =>
 (cond t20
 ((a7 b0.2.2.2.2.2.2.2.2.2.2 0 1000000).bind λt24 =>
 some t24)
 (some false)).bind λt25 =>
 some t25
def hN:FL:=(150,⟨[.val true p9 false],[.val false pN (some true)],λa=>dj a⟩)::hC
theorem mC:Gd hN:=p7 mz 150 Tryz.f150 [] Tryz.func150
def ei (b0:oU) (i3:Int):Option (Int⊕(Unit⊕Bool)) :=
 cond (decide (i3<(b0.2.2.1.length:Int)))
 ((at? b0.2.2.1 i3).bind λx14 =>
 (cn x14).bind λt16 =>
 cond (!t16) (some (.inr (.inr false))) (some (.inl (oT (i3+1)))))
 (some (.inr (.inl ())))
def co (b0:oU):Option Bool :=
 (loop (λz=>ei b0 z) 0).bind (Sum.elim (λd =>
 (a7 b0.1 1 99).bind λt20 =>
 (cond t20 (some (decide ((b0.2.1.length:Int)<=10))) (some false)).bind λt26 =>
 (cond t26
 ((a7 (b0.2.2.1.length:Int) 1 6).bind λt31 =>
 some t31)
 (some false)).bind λt32 =>
 (cond t32
 ((ck b0.2.2.2.1).bind λt36 =>
 some t36)
 (some false)).bind λt37 =>
 (cond t37
 ((dh (b0.2.2.2.2.1,b0.2.2.2.2.2.1) (b0.2.2.1.length:Int)).bind λt44 =>
 some t44)
 (some false)).bind λt45 =>
 (cond t45
 ((dj b0).bind λt48 =>
 some t48)
 (some false)).bind λt49 =>
 some t49) (λr=>some r))
def hP:FL:=(64,⟨[.val true p9 false],[.val false pN (some true)],λa=>co a⟩)::hN
theorem mD:Gd hP:=p7 mC 64 Tryz.f64 [(0,⟨⟨[(3,false,[dI])],[]⟩,
 ⟨[],[]⟩,some ⟨[(2,false,[dB])],[]⟩⟩)] Tryz.func64
def bD (b0:oU) (port1:Int):Option Bool :=
 (co b0).bind λt6 =>
 (cond t6
 ((a7 port1 0 (oT ((b0.2.2.1.length:Int)-1))).bind λt13 =>
 some t13)
 (some false)).bind λt14 =>
 some t14
def hU:FL:=(253,⟨[.val true p9 false,.val false p4 false],[.val false pN (some true)],λa=>bD a.1 a.2⟩)::hP
theorem mE:Gd hU:=p7 mD 253 Tryz.f253 [] Tryz.func253
def ej (f0:qq):Option Bool :=
 (a7 f0.1 0 9999).bind λt5 =>
 (cond t5
 ((a7 f0.2.1 1 9999).bind λt9 =>
 some t9)
 (some false)).bind λt10 =>
 (cond t10
 ((a7 f0.2.2.1 0 99).bind λt14 =>
 some t14)
 (some false)).bind λt15 =>
 (cond t15 (some (decide ((f0.2.2.2.length:Int)<=20))) (some false)).bind λt21 =>
 some t21
def hZ:FL:=(254,⟨[.val true ri false],[.val false pN (some true)],λa=>ej a⟩)::hU
theorem mF:Gd hZ:=p7 mE 254 Tryz.f254 [] Tryz.func254
def dk (a0:sw) (b1:sw):Option Bool :=
 cond (a0.1 != b1.1)
 (some (decide (a0.1<b1.1)))
 (cond (a0.2.1 != b1.2.1)
 (some (decide (a0.2.1<b1.2.1)))
 (cond (a0.2.2.2.1 != b1.2.2.2.1)
 (let t4:=decide (a0.2.2.2.1<b1.2.2.2.1)
 some t4)
 (let t4_1:=decide (a0.2.2.2.2<b1.2.2.2.2)
 some t4_1)))
def i0:FL:=(357,⟨[.val true s7 false,.val true s7 false],[.val false pN (some true)],λa=>dk a.1 a.2⟩)::hZ
theorem mG:Gd i0:=p7 mF 357 Tryz.f357 [] Tryz.func357
def ek (v0:sw) (cost1:Int):Option (sw×Bool) :=
 (bC v0).bind λt8 =>
 (cond (!t8)
 (some true)
 ((a7 cost1 1 1000).bind λt12 =>
 some (!t12))).bind λt14 =>
 cond t14
 (some (v0,false))
 ((bC (v0.1,oT (v0.2.1+cost1),oT (v0.2.2.1+1),v0.2.2.2.1,v0.2.2.2.2)).bind λt27 =>
 cond (!t27)
 (some (v0,false))
 (some ((v0.1,oT (v0.2.1+cost1),oT (v0.2.2.1+1),v0.2.2.2.1,v0.2.2.2.2),true)))
def i9:FL:=(368,⟨[.val true s7 false,.val false p4 false],[.val true s7 (some true),.val false pN (some true)],λa=>ek a.1 a.2⟩)::i0
theorem mH:Gd i9:=p7 mG 368 Tryz.f368 [] Tryz.func368
def em (p0:Int) (i1:List Pt) (t8:Int) (t9:Int) (b0:Int) (b1:Int) (b2:Int) (b3:Int) (b4:Int) (b0_1:Int) (b1_1:Int) (b2_1:Int) (b3_1:Int) (b4_1:Int):Option ((Int×Int×Int×Int×Int×Int×Int×Int×Int×Int×Int×Int)⊕(Int×Int×Int×Int×Int×Int×Int×Int×Int×Int×Int)) :=
 cond (decide (t9<(i1.length:Int)))
 ((at? i1 t9).bind λx24 =>
 (cond (!x24.1)
 (some true)
 ((at? i1 t9).bind λx31 =>
 some (!x31.2.2.1))).bind λt35 =>
 cond t35
 (some (.inl (t8,oT (t9+1),b0,b1,b2,b3,b4,b0_1,b1_1,b2_1,b3_1,b4_1)))
 ((at? i1 t9).bind λx39 =>
 (at? i1 t9).bind λx44 =>
 (ek x39.2.2.2 x44.2.1).bind λt47 =>
 (cond t47.2 (some (decide (t47.1.1<p0))) (some false)).bind λt56 =>
 (cond t56
 ((cond (decide (t8<0))
 (some true)
 ((dk t47.1 (b0_1,b1_1,b2_1,b3_1,b4_1)).bind λt63 =>
 some t63)).bind λt64 =>
 some t64)
 (some false)).bind λt65 =>
 cond t65
 (some (.inl (t9,oT (t9+1),t47.1.1,t47.1.2.1,t47.1.2.2.1,p0,0,t47.1.1,t47.1.2.1,t47.1.2.2.1,t47.1.2.2.2.1,t47.1.2.2.2.2)))
 (some (.inl (t8,oT (t9+1),b0,b1,b2,b3,b4,b0_1,b1_1,b2_1,b3_1,b4_1)))))
 (some (.inr (t8,b0,b1,b2,b3,b4,b0_1,b1_1,b2_1,b3_1,b4_1)))
def cp (p0:Int) (i1:List Pt):Option (sw×Int) :=
 (loop (λz=>em p0 i1 z.1 z.2.1 z.2.2.1 z.2.2.2.1 z.2.2.2.2.1 z.2.2.2.2.2.1 z.2.2.2.2.2.2.1 z.2.2.2.2.2.2.2.1 z.2.2.2.2.2.2.2.2.1 z.2.2.2.2.2.2.2.2.2.1 z.2.2.2.2.2.2.2.2.2.2.1 z.2.2.2.2.2.2.2.2.2.2.2) ((-1),0,p0,0,0,p0,0,0,0,0,0,0)).bind λd =>
 some ((d.2.1,d.2.2.1,d.2.2.2.1,d.2.2.2.2.1,d.2.2.2.2.2.1),d.1)
def ia:FL:=(356,⟨[.val false p4 false,.val false (.one (.sl qy)) false],[.val true s7 (some true),.val false p4 (some true)],λa=>cp a.1 a.2⟩)::i9
theorem mI:Gd ia:=p7 mH 356 Tryz.f356 [(0,⟨⟨(8,false,[dI])::(9,false,[dI])::us 29 6 (us 52 4 (us 58 7 [])),[(266240,.box [dI,dI,dI,dI,dI]),(526336,.box [dI,dI,dI,dI,dI])]⟩,
 ⟨[(8,false,[dI])],[(266240,.box [dI,dI,dI,dI,dI]),(526336,.box [dI,dI,dI,dI,dI])]⟩,none⟩)] Tryz.func356
def dl (id0:Int) (l1:List Pt) (port2:Int):Option sw :=
 (cp id0 l1).bind λt12 =>
 some (t12.1.1,t12.1.2.1,t12.1.2.2.1,t12.1.2.2.2.1,port2)
def ib:FL:=(358,⟨[.val false p4 false,.val false (.one (.sl qy)) false,.val false p4 false],[.val true s7 (some true)],λa=>dl a.1 a.2.1 a.2.2⟩)::ia
theorem mJ:Gd ib:=p7 mI 358 Tryz.f358 [] Tryz.func358
def dn (id0:Int) (l1:List Pt) (port2:Int):Option Int :=
 (a7 port2 0 (oT ((l1.length:Int)-1))).bind λt13 =>
 (cond (!t13)
 (some true)
 ((at? l1 port2).bind λx18 =>
 some (!x18.1))).bind λt22 =>
 cond t22
 (some 4)
 ((cp id0 l1).bind λt26 =>
 cond (t26.2==port2)
 (some 1)
 ((at? l1 port2).bind λx36 =>
 (cond (!x36.2.2.1)
 (some true)
 ((dl id0 l1 port2).bind λt44 =>
 (at? l1 port2).bind λx47 =>
 (dk t44 x47.2.2.2).bind λt50 =>
 some t50)).bind λt51 =>
 cond t51 (some 2) (some 3)))
def ic:FL:=(325,⟨[.val false p4 false,.val false (.one (.sl qy)) false,.val false p4 false],[.val false p4 (some true)],λa=>dn a.1 a.2.1 a.2.2⟩)::ib
theorem mK:Gd ic:=p7 mJ 325 Tryz.f325 [] Tryz.func325
def cq (id0:Int) (l1:List Pt) (n5:Int) (i6:Int):Option ((Int×Int)⊕Int) :=
 (cond (decide (i6<(l1.length:Int))) (some (decide (i6<6))) (some false)).bind λt14 =>
 cond t14
 ((dn id0 l1 i6).bind λt20 =>
 cond (decide (t20<=2))
 ((shl .i64 1 (IntKind.u64.wrap (i6))).bind λt25 =>
 some (.inl (Aa .i64 n5 t25,oT (i6+1))))
 (some (.inl (n5,oT (i6+1)))))
 (some (.inr n5))
def cr (id0:Int) (l1:List Pt):Option Int :=
 (loop (λz=>cq id0 l1 z.1 z.2) (0,0)).bind λd =>
 some d
def ie:FL:=(255,⟨[.val false p4 false,.val false (.one (.sl qy)) false],[.val false p4 (some true)],λa=>cr a.1 a.2⟩)::ic
theorem mL:Gd ie:=p7 mK 255 Tryz.f255 [(0,⟨⟨[(5,false,[dI]),(6,false,[dI]),(12,false,[.undef]),(13,false,[.undef])],[]⟩,
 ⟨[(5,false,[dI])],[]⟩,none⟩)] Tryz.func255
def ai (n0:Int) (port1:Int):Option Bool :=
 (a7 port1 0 7).bind λt6 =>
 (cond t6
 ((shr .i64 n0 (IntKind.u64.wrap (port1))).bind λt11 =>
 some ((rb .i64 t11 1)==1))
 (some false)).bind λt14 =>
 some t14
def ig:FL:=(257,⟨[.val false p4 false,.val false p4 false],[.val false pN (some true)],λa=>ai a.1 a.2⟩)::ie
theorem mM:Gd ig:=p7 mL 257 Tryz.f257 [] Tryz.func257
def dp (v0:pO) (port1:Int) (tag2:Int):Option (Int×Bool) :=
 (a7 port1 0 (oT ((v0.2.length:Int)-1))).bind λt14 =>
 cond (!t14)
 (some (0,false))
 (cond (tag2==0)
 ((at? v0.2 port1).bind λx21 =>
 (be v0 x21).bind λt25 =>
 (cond (decide (t25<0))
 (some true)
 ((at? v0.1 t25).bind λx32 =>
 (ai x32.2.1 port1).bind λt36 =>
 some (!t36))).bind λt38 =>
 cond t38 (some (0,false)) (some (x21,true)))
 ((be v0 tag2).bind λt25_1 =>
 (cond (decide (t25_1<0))
 (some true)
 ((at? v0.1 t25_1).bind λx32_1 =>
 (ai x32_1.2.1 port1).bind λt36_1 =>
 some (!t36_1))).bind λt38_1 =>
 cond t38_1 (some (0,false)) (some (tag2,true))))
def ii:FL:=(256,⟨[.val true qv false,.val false p4 false,.val false p4 false],[.val false p4 (some true),.val false pN (some true)],λa=>dp a.1 a.2.1 a.2.2⟩)::ig
theorem mN:Gd ii:=p7 mM 256 Tryz.f256 [] Tryz.func256
def eo (v0:pO) (id1:Int):Option Int :=
 (be v0 id1).bind λt8 =>
 cond (decide (t8<0))
 (some 0)
 ((at? v0.1 t8).bind λx14 =>
 some x14.2.1)
def ij:FL:=(258,⟨[.val true qv false,.val false p4 false],[.val false p4 (some true)],λa=>eo a.1 a.2⟩)::ii
theorem mO:Gd ij:=p7 mN 258 Tryz.f258 [] Tryz.func258
def dq (l0:List oV) (tag1:Int) (mac2:Int):Option Int :=
 (cm l0 tag1 mac2).bind λt11 =>
 cond (decide (t11<0))
 (some (-1))
 ((at? l0 t11).bind λx16 =>
 some x16.2.2.1)
def il:FL:=(259,⟨[.val false (.one (.sl pd)) false,.val false p4 false,.val false p4 false],[.val false p4 (some true)],λa=>dq a.1 a.2.1 a.2.2⟩)::ij
theorem mP:Gd il:=p7 mO 259 Tryz.f259 [] Tryz.func259
def ep (f0:qq):Option qq :=
 (pL ([]:List Int) f0.2.2.2).bind λzs8 =>
 some (f0.1,f0.2.1,f0.2.2.1,zs8)
def im:FL:=(359,⟨[.val true ri false],[.val true ri (some true)],λa=>ep a⟩)::il
theorem mQ:Gd im:=p7 mP 359 Tryz.f359 [] Tryz.func359
def dt (f0:qq) (tag1:Int):Option qq :=
 (ep f0).bind λt7 =>
 some (t7.1,t7.2.1,tag1,t7.2.2.2)
def ip:FL:=(326,⟨[.val true ri false,.val false p4 false],[.val true ri (some true)],λa=>dt a.1 a.2⟩)::im
theorem mR:Gd ip:=p7 mQ 326 Tryz.f326 [] Tryz.func326
def du (v0:pO) (id1:Int) (port2:Int):Option Int :=
 (be v0 id1).bind λt10 =>
 (cond (decide (t10<0))
 (some true)
 ((at? v0.1 t10).bind λx17 =>
 (ai x17.2.2 port2).bind λt21 =>
 some t21)).bind λt22 =>
 cond t22 (some 0) (some id1)
def iq:FL:=(327,⟨[.val true qv false,.val false p4 false,.val false p4 false],[.val false p4 (some true)],λa=>du a.1 a.2.1 a.2.2⟩)::ip
theorem mS:Gd iq:=p7 mR 327 Tryz.f327 [] Tryz.func327
def bE (b0:oU) (tag1:Int) (bits2:Int) (f3:qq) (i10:Int) (out9:List qp):Option ((Int×List qp)⊕(List qp)) :=
 cond (decide (i10<(b0.2.2.1.length:Int)))
 ((ai bits2 i10).bind λt21 =>
 cond t21
 ((du (b0.2.2.2.2.1,b0.2.2.2.2.2.1) tag1 i10).bind λt29 =>
 (dt f3 t29).bind λt30 =>
 (pL out9 [(i10,t30.1,t30.2.1,t30.2.2.1,t30.2.2.2)]).bind λzs33 =>
 some (.inl (oT (i10+1),zs33)))
 (some (.inl (oT (i10+1),out9))))
 (some (.inr out9))
def bf (b0:oU) (tag1:Int) (bits2:Int) (f3:qq):Option (List qp) :=
 (loop (λz=>bE b0 tag1 bits2 f3 z.1 z.2) (0,([]:List qp))).bind λd =>
 some d
def ir:FL:=(260,⟨[.val true p9 false,.val false p4 false,.val false p4 false,.val true ri false],[.val false (.one (.sl wk)) (some true)],λa=>bf a.1 a.2.1 a.2.2.1 a.2.2.2⟩)::iq
theorem mT:Gd ir:=p7 mS 260 Tryz.f260 [(0,⟨⟨[(9,false,[.own 1000000000]),(10,false,[dI])],[(1000000000,.root wk true)]⟩,
 ⟨[(9,false,[.own 1000000300])],[(1000000300,.root wk true)]⟩,none⟩)] Tryz.func260
def ct (p0:oU) (i1:Int) (a2:qq):Option (oU×List qp) :=
 (aF p0).bind λt16 =>
 (bD p0 i1).bind λt20 =>
 (cond (!t20)
 (some true)
 ((ej a2).bind λt24 =>
 some (!t24))).bind λt26 =>
 cond t26
 (some (t16,([]:List qp)))
 ((cr p0.1 p0.2.2.1).bind λt33 =>
 (dp (p0.2.2.2.2.1,p0.2.2.2.2.2.1) i1 a2.2.2.1).bind λt40 =>
 (ai t33 i1).bind λt45 =>
 (cond (!t45) (some true) (some (!t40.2))).bind λt50 =>
 cond t50
 ((aG p0.2.2.2.2.2.2.2.2.2.1).bind λt53 =>
 some ((t16.1,t16.2.1,t16.2.2.1,t16.2.2.2.1,t16.2.2.2.2.1,t16.2.2.2.2.2.1,t16.2.2.2.2.2.2.1,t16.2.2.2.2.2.2.2.1,t16.2.2.2.2.2.2.2.2.1,t53,t16.2.2.2.2.2.2.2.2.2.2),([]:List qp)))
 ((dg p0.2.2.2.1 t40.1 a2.2.1 i1).bind λt63 =>
 (aG p0.2.2.2.2.2.2.2.2.2.2).bind λt67 =>
 (eo (p0.2.2.2.2.1,p0.2.2.2.2.2.1) t40.1).bind λt73 =>
 (shl .i64 1 (IntKind.u64.wrap (i1))).bind λt77 =>
 let t13:=uQ .i64 (rb .i64 t33 t73) t77
 cond (a2.1 != 0)
 ((dq t63 t40.1 a2.1).bind λt87 =>
 cond (decide (t87>=0))
 ((shl .i64 1 (IntKind.u64.wrap (t87))).bind λt93 =>
 (bf p0 t40.1 (rb .i64 t13 t93) a2).bind λt100 =>
 some ((t16.1,t16.2.1,t16.2.2.1,t63,t16.2.2.2.2.1,t16.2.2.2.2.2.1,t16.2.2.2.2.2.2.1,t16.2.2.2.2.2.2.2.1,t16.2.2.2.2.2.2.2.2.1,t16.2.2.2.2.2.2.2.2.2.1,t67),t100))
 ((bf p0 t40.1 t13 a2).bind λt100_1 =>
 some ((t16.1,t16.2.1,t16.2.2.1,t63,t16.2.2.2.2.1,t16.2.2.2.2.2.1,t16.2.2.2.2.2.2.1,t16.2.2.2.2.2.2.2.1,t16.2.2.2.2.2.2.2.2.1,t16.2.2.2.2.2.2.2.2.2.1,t67),t100_1)))
 ((bf p0 t40.1 t13 a2).bind λt100_2 =>
 some ((t16.1,t16.2.1,t16.2.2.1,t63,t16.2.2.2.2.1,t16.2.2.2.2.2.1,t16.2.2.2.2.2.2.1,t16.2.2.2.2.2.2.2.1,t16.2.2.2.2.2.2.2.2.1,t16.2.2.2.2.2.2.2.2.2.1,t67),t100_2))))
def iu:FL:=(152,⟨[.val true p9 false,.val false p4 false,.val true ri false],[.val true p9 (some true),.val false (.one (.sl wk)) (some true)],λa=>ct a.1 a.2.1 a.2.2⟩)::ir
theorem mU:Gd iu:=p7 mT 152 Tryz.f152 [] Tryz.func152
def bG (l0:List oV) (port1:Int) (i6:Int) (out5:List oV):Option ((Int×List oV)⊕(List oV)) :=
 cond (decide (i6<(l0.length:Int)))
 ((at? l0 i6).bind λx16 =>
 (cond x16.2.2.2.2
 (some true)
 ((at? l0 i6).bind λx22 =>
 some (x22.2.2.1 != port1))).bind λt27 =>
 cond t27
 ((at? l0 i6).bind λx31 =>
 (pL out5 [x31]).bind λzs34 =>
 some (.inl (oT (i6+1),zs34)))
 (some (.inl (oT (i6+1),out5))))
 (some (.inr out5))
def dv (l0:List oV) (port1:Int):Option (List oV) :=
 (loop (λz=>bG l0 port1 z.1 z.2) (0,([]:List oV))).bind λd =>
 some d
def iv:FL:=(342,⟨[.val false (.one (.sl pd)) false,.val false p4 false],[.val false (.one (.sl pd)) (some true)],λa=>dv a.1 a.2⟩)::iu
theorem mV:Gd iv:=p7 mU 342 Tryz.f342 [(0,⟨⟨(5,false,[.own 1000000000])::(6,false,[dI])::us 20 7 [],[(1000000000,.root pd true)]⟩,
 ⟨[(5,false,[.own 1000000300])],[(1000000300,.root pd true)]⟩,none⟩)] Tryz.func342
def dw (b0:oU) (t13:Int) (i4:Int) (b0_1:Int) (b1:List UInt8) (b6:Int) (b7:Int) (b8:Int) (b9:Int) (b10:Int) (b3:List oV):Option ((Int×Int×List UInt8×Int×Int×Int×Int×Int×List oV)⊕(Int×List UInt8×Int×Int×Int×Int×Int×List oV)) :=
 cond (decide (i4<(b0.2.2.1.length:Int)))
 ((ai t13 i4).bind λt23 =>
 cond (!t23)
 ((dv b3 i4).bind λt28 =>
 some (.inl (oT (i4+1),b0_1,b1,b6,b7,b8,b9,b10,t28)))
 (some (.inl (oT (i4+1),b0_1,b1,b6,b7,b8,b9,b10,b3))))
 (some (.inr (b0_1,b1,b6,b7,b8,b9,b10,b3)))
def aR (b0:oU):Option oU :=
 (aG b0.2.2.2.2.2.2.2.2.2.2).bind λt7 =>
 (cr b0.1 b0.2.2.1).bind λt13 =>
 (loop (λz=>dw b0 t13 z.1 z.2.1 z.2.2.1 z.2.2.2.1 z.2.2.2.2.1 z.2.2.2.2.2.1 z.2.2.2.2.2.2.1 z.2.2.2.2.2.2.2.1 z.2.2.2.2.2.2.2.2) (0,b0.1,b0.2.1,b0.2.2.2.2.2.2.1,b0.2.2.2.2.2.2.2.1,b0.2.2.2.2.2.2.2.2.1,b0.2.2.2.2.2.2.2.2.2.1,t7,b0.2.2.2.1)).bind λd =>
 some (d.1,d.2.1,b0.2.2.1,d.2.2.2.2.2.2.2,b0.2.2.2.2.1,b0.2.2.2.2.2.1,d.2.2.1,d.2.2.2.1,d.2.2.2.2.1,d.2.2.2.2.2.1,d.2.2.2.2.2.2.1)
def iw:FL:=(291,⟨[.val true p9 true],[.val true p9 (some true)],λa=>aR a⟩)::iv
theorem mW:Gd iw:=p7 mV 291 Tryz.f291 [(0,⟨⟨[(4,false,[dI])],[(1024,.box [dI,dS,.same 3,.own 1000000000,.same 5,.same 6,dI,dI,dI,dI,dI]),(1000000000,.root pd true)]⟩,
 ⟨[],[(1024,.box [dI,dS,.same 3,.own 1000000300,.same 5,.same 6,dI,dI,dI,dI,dI]),(1000000300,.root pd true)]⟩,none⟩)] Tryz.func291
def dx (b0:oU) (port1:Int) (v2:sw):Option oU :=
 (aF b0).bind λt9 =>
 (bD b0 port1).bind λt12 =>
 (cond (!t12)
 (some true)
 ((at? b0.2.2.1 port1).bind λx18 =>
 some (!x18.1))).bind λt22 =>
 (cond t22
 (some true)
 ((bC v2).bind λt25 =>
 some (!t25))).bind λt27 =>
 cond t27
 (some t9)
 ((ix t9.2.2.1.length port1).bind λj32 =>
 (t9.2.2.1[j32]?).bind λx =>
 (ix (t9.2.2.1.set j32 (x.1,x.2.1,true,x.2.2.2.1,x.2.2.2.2.1,x.2.2.2.2.2.1,x.2.2.2.2.2.2.1,x.2.2.2.2.2.2.2)).length port1).bind λj38 =>
 ((t9.2.2.1.set j32 (x.1,x.2.1,true,x.2.2.2.1,x.2.2.2.2.1,x.2.2.2.2.2.1,x.2.2.2.2.2.2.1,x.2.2.2.2.2.2.2))[j38]?).bind λx_1 =>
 (aR (t9.1,t9.2.1,(t9.2.2.1.set j32 (x.1,x.2.1,true,x.2.2.2.1,x.2.2.2.2.1,x.2.2.2.2.2.1,x.2.2.2.2.2.2.1,x.2.2.2.2.2.2.2)).set j38 (x_1.1,x_1.2.1,x_1.2.2.1,v2.1,v2.2.1,v2.2.2.1,v2.2.2.2.1,v2.2.2.2.2),t9.2.2.2.1,t9.2.2.2.2.1,t9.2.2.2.2.2.1,t9.2.2.2.2.2.2.1,t9.2.2.2.2.2.2.2.1,t9.2.2.2.2.2.2.2.2.1,t9.2.2.2.2.2.2.2.2.2.1,t9.2.2.2.2.2.2.2.2.2.2)).bind λt41 =>
 some t41)
def iy:FL:=(206,⟨[.val true p9 false,.val false p4 false,.val true s7 false],[.val true p9 (some true)],λa=>dx a.1 a.2.1 a.2.2⟩)::iw
theorem mX:Gd iy:=p7 mW 206 Tryz.f206 [] Tryz.func206
def dy (b0:oU) (port1:Int) (up2:Bool):Option oU :=
 (aF b0).bind λt9 =>
 (bD b0 port1).bind λt12 =>
 cond (!t12)
 (some t9)
 ((at? b0.2.2.1 port1).bind λx22 =>
 (ix t9.2.2.1.length port1).bind λj26 =>
 (t9.2.2.1[j26]?).bind λx =>
 (aR (t9.1,t9.2.1,t9.2.2.1.set j26 (up2,x22.2.1,false,0,0,0,0,0),t9.2.2.2.1,t9.2.2.2.2.1,t9.2.2.2.2.2.1,t9.2.2.2.2.2.2.1,t9.2.2.2.2.2.2.2.1,t9.2.2.2.2.2.2.2.2.1,t9.2.2.2.2.2.2.2.2.2.1,t9.2.2.2.2.2.2.2.2.2.2)).bind λt28 =>
 some t28)
def iz:FL:=(207,⟨[.val true p9 false,.val false p4 false,.val false pN false],[.val true p9 (some true)],λa=>dy a.1 a.2.1 a.2.2⟩)::iy
theorem mY:Gd iz:=p7 mX 207 Tryz.f207 [] Tryz.func207
def bg (l0:List oV) (i4:Int) (out3:List oV):Option ((Int×List oV)⊕(List oV)) :=
 cond (decide (i4<(l0.length:Int)))
 ((at? l0 i4).bind λx15 =>
 cond x15.2.2.2.2
 ((pL out3 [x15]).bind λzs22 =>
 some (.inl (oT (i4+1),zs22)))
 (cond (decide (x15.2.2.2.1<4))
 ((pL out3 [(x15.1,x15.2.1,x15.2.2.1,oT (x15.2.2.2.1+1),x15.2.2.2.2)]).bind λzs33 =>
 some (.inl (oT (i4+1),zs33)))
 (some (.inl (oT (i4+1),out3)))))
 (some (.inr out3))
def dz (l0:List oV):Option (List oV) :=
 (loop (λz=>bg l0 z.1 z.2) (0,([]:List oV))).bind λd =>
 some d
def iA:FL:=(301,⟨[.val false (.one (.sl pd)) false],[.val false (.one (.sl pd)) (some true)],λa=>dz a⟩)::iz
theorem mZ:Gd iA:=p7 mY 301 Tryz.f301 [(0,⟨⟨[(3,false,[.own 1000000000]),(4,false,[dI])],[(1000000000,.root pd true)]⟩,
 ⟨[(3,false,[.own 1000000300])],[(1000000300,.root pd true)]⟩,none⟩)] Tryz.func301
def bH (b0:oU):Option oU :=
 (aF b0).bind λt5 =>
 (co b0).bind λt7 =>
 cond (!t7)
 (some t5)
 ((aG b0.2.2.2.2.2.2.1).bind λt12 =>
 (dz b0.2.2.2.1).bind λt16 =>
 (aR (t5.1,t5.2.1,t5.2.2.1,t16,t5.2.2.2.2.1,t5.2.2.2.2.2.1,t12,t5.2.2.2.2.2.2.2.1,t5.2.2.2.2.2.2.2.2.1,t5.2.2.2.2.2.2.2.2.2.1,t5.2.2.2.2.2.2.2.2.2.2)).bind λt19 =>
 some t19)
def iB:FL:=(208,⟨[.val true p9 false],[.val true p9 (some true)],λa=>bH a⟩)::iA
theorem n7:Gd iB:=p7 mZ 208 Tryz.f208 [] Tryz.func208
def dA (b0:oU) (x1:Act):Option oU :=
 cond (x1.1==3)
 ((ct b0 x1.2.1 (x1.2.2.2.2.1,x1.2.2.2.2.2.1,x1.2.2.2.2.2.2.1,x1.2.2.2.2.2.2.2.1)).bind λt17 =>
 some t17.1)
 (cond (x1.1==4)
 ((dx b0 x1.2.1 x1.2.2.2.2.2.2.2.2).bind λt28 =>
 some t28)
 (cond (x1.1==5)
 ((dy b0 x1.2.1 x1.2.2.1).bind λt36 =>
 some t36)
 (cond (x1.1==6)
 ((bH b0).bind λt40 =>
 some t40)
 ((aF b0).bind λt42 =>
 some t42))))
def iC:FL:=(109,⟨[.val true p9 false,.val true qF false],[.val true p9 (some true)],λa=>dA a.1 a.2⟩)::iB
theorem n8:Gd iC:=p7 n7 109 Tryz.f109 [] Tryz.func109
def dC (l1:List Act) (i6:Int) (b0_1:Int) (b1:List UInt8) (b6:Int) (b7:Int) (b8:Int) (b9:Int) (b10:Int) (b2:List Pt) (b3:List oV) (b4:List pm) (b5:List Int):Option ((Int×Int×List UInt8×Int×Int×Int×Int×Int×List Pt×List oV×List pm×List Int)⊕(Int×List UInt8×Int×Int×Int×Int×Int×List Pt×List oV×List pm×List Int)) :=
 (cond (decide (i6<(l1.length:Int))) (some (decide (i6<60))) (some false)).bind λt16 =>
 cond t16
 ((at? l1 i6).bind λx22 =>
 (dA (b0_1,b1,b2,b3,b4,b5,b6,b7,b8,b9,b10) x22).bind λt24 =>
 some (.inl (oT (i6+1),t24.1,t24.2.1,t24.2.2.2.2.2.2.1,t24.2.2.2.2.2.2.2.1,t24.2.2.2.2.2.2.2.2.1,t24.2.2.2.2.2.2.2.2.2.1,t24.2.2.2.2.2.2.2.2.2.2,t24.2.2.1,t24.2.2.2.1,t24.2.2.2.2.1,t24.2.2.2.2.2.1)))
 (some (.inr (b0_1,b1,b6,b7,b8,b9,b10,b2,b3,b4,b5)))
def d9 (b0:oU) (l1:List Act):Option oU :=
 (aF b0).bind λt8 =>
 (loop (λz=>dC l1 z.1 z.2.1 z.2.2.1 z.2.2.2.1 z.2.2.2.2.1 z.2.2.2.2.2.1 z.2.2.2.2.2.2.1 z.2.2.2.2.2.2.2.1 z.2.2.2.2.2.2.2.2.1 z.2.2.2.2.2.2.2.2.2.1 z.2.2.2.2.2.2.2.2.2.2.1 z.2.2.2.2.2.2.2.2.2.2.2) (0,t8.1,t8.2.1,t8.2.2.2.2.2.2.1,t8.2.2.2.2.2.2.2.1,t8.2.2.2.2.2.2.2.2.1,t8.2.2.2.2.2.2.2.2.2.1,t8.2.2.2.2.2.2.2.2.2.2,t8.2.2.1,t8.2.2.2.1,t8.2.2.2.2.1,t8.2.2.2.2.2.1)).bind λd =>
 some (d.1,d.2.1,d.2.2.2.2.2.2.2.1,d.2.2.2.2.2.2.2.2.1,d.2.2.2.2.2.2.2.2.2.1,d.2.2.2.2.2.2.2.2.2.2,d.2.2.1,d.2.2.2.1,d.2.2.2.2.1,d.2.2.2.2.2.1,d.2.2.2.2.2.2.1)
def iD:FL:=(28,⟨[.val true p9 false,.val false (.one (.sl qF)) false],[.val true p9 (some true)],λa=>d9 a.1 a.2⟩)::iC
theorem n9:Gd iD:=p7 n8 28 Tryz.f28 [(0,⟨⟨[(6,false,[dI]),(14,false,[.undef]),(15,false,[.undef])],[(265216,.box [dI,dS,.own 1000000000,.own 1000000001,.own 1000000002,.own 1000000003,dI,dI,dI,dI,dI]),(1000000000,.root qy true),(1000000001,.root pd true),(1000000002,.root pV true),(1000000003,.root p4 true)]⟩,
 ⟨[],[(265216,.box [dI,dS,.own 1000000300,.own 1000000301,.own 1000000302,.own 1000000303,dI,dI,dI,dI,dI]),(1000000300,.root qy true),(1000000301,.root pd true),(1000000302,.root pV true),(1000000303,.root p4 true)]⟩,none⟩)] Tryz.func28
def eq (a0:sw):Option sw :=
 some a0
def iE:FL:=(215,⟨[.val true s7 false],[.val true s7 (some true)],λa=>eq a⟩)::iD
theorem na:Gd iE:=p7 n9 215 Tryz.f215 [] Tryz.func215
def et (a0:Pt):Option Pt :=
 (eq a0.2.2.2).bind λt15 =>
 some (a0.1,a0.2.1,a0.2.2.1,t15.1,t15.2.1,t15.2.2.1,t15.2.2.2.1,t15.2.2.2.2)
def iF:FL:=(209,⟨[.val true qy false],[.val true qy (some true)],λa=>et a⟩)::iE
theorem nb:Gd iF:=p7 na 209 Tryz.f209 [] Tryz.func209
def nc (a0:List Pt) (i4:Int) (l:List Pt):Option ((Int×List Pt)⊕(List Pt)) :=
 cond (decide (i4<(a0.length:Int)))
 ((at? a0 i4).bind λx18 =>
 (et x18).bind λt20 =>
 (ix l.length i4).bind λj21 =>
 (l[j21]?).bind λx =>
 some (.inl (oT (i4+1),l.set j21 t20)))
 (some (.inr l))
def eu (a0:List Pt):Option (List Pt) :=
 (ud (a0.length:Int)).bind λn =>
 (loop (λz=>nc a0 z.1 z.2) (0,List.replicate n ((false,0,false,0,0,0,0,0):Pt))).bind λd =>
 some d
def iG:FL:=(110,⟨[.val false (.one (.sl qy)) false],[.val false (.one (.sl qy)) (some true)],λa=>eu a⟩)::iF
theorem nd:Gd iG:=p7 nb 110 Tryz.f110 [(0,⟨⟨[(4,false,[dI])],[(265216,.keep qy true)]⟩,
 ⟨[],[(265216,.keep qy true)]⟩,none⟩)] Tryz.func110
def ev (a0:oV):Option oV :=
 some a0
def iH:FL:=(210,⟨[.val true pd false],[.val true pd (some true)],λa=>ev a⟩)::iG
theorem ne:Gd iH:=p7 nd 210 Tryz.f210 [] Tryz.func210
def ng (a0:List oV) (i4:Int) (l:List oV):Option ((Int×List oV)⊕(List oV)) :=
 cond (decide (i4<(a0.length:Int)))
 ((at? a0 i4).bind λx18 =>
 (ev x18).bind λt20 =>
 (ix l.length i4).bind λj21 =>
 (l[j21]?).bind λx =>
 some (.inl (oT (i4+1),l.set j21 t20)))
 (some (.inr l))
def ew (a0:List oV):Option (List oV) :=
 (ud (a0.length:Int)).bind λn =>
 (loop (λz=>ng a0 z.1 z.2) (0,List.replicate n ((0,0,0,0,false):oV))).bind λd =>
 some d
def iI:FL:=(111,⟨[.val false (.one (.sl pd)) false],[.val false (.one (.sl pd)) (some true)],λa=>ew a⟩)::iH
theorem nh:Gd iI:=p7 ne 111 Tryz.f111 [(0,⟨⟨[(4,false,[dI])],[(265216,.keep pd true)]⟩,
 ⟨[],[(265216,.keep pd true)]⟩,none⟩)] Tryz.func111
def ez (a0:pm):Option pm :=
 some a0
def iJ:FL:=(302,⟨[.val true pV false],[.val true pV (some true)],λa=>ez a⟩)::iI
theorem ni:Gd iJ:=p7 nh 302 Tryz.f302 [] Tryz.func302
def nj (a0:List pm) (i4:Int) (l:List pm):Option ((Int×List pm)⊕(List pm)) :=
 cond (decide (i4<(a0.length:Int)))
 ((at? a0 i4).bind λx18 =>
 (ez x18).bind λt20 =>
 (ix l.length i4).bind λj21 =>
 (l[j21]?).bind λx =>
 some (.inl (oT (i4+1),l.set j21 t20)))
 (some (.inr l))
def eA (a0:List pm):Option (List pm) :=
 (ud (a0.length:Int)).bind λn =>
 (loop (λz=>nj a0 z.1 z.2) (0,List.replicate n ((0,0,0):pm))).bind λd =>
 some d
def iK:FL:=(211,⟨[.val false (.one (.sl pV)) false],[.val false (.one (.sl pV)) (some true)],λa=>eA a⟩)::iJ
theorem nk:Gd iK:=p7 ni 211 Tryz.f211 [(0,⟨⟨[(4,false,[dI])],[(265216,.keep pV true)]⟩,
 ⟨[],[(265216,.keep pV true)]⟩,none⟩)] Tryz.func211
def nl (a0:List Int) (i4:Int) (l:List Int):Option ((Int×List Int)⊕(List Int)) :=
 cond (decide (i4<(a0.length:Int)))
 ((at? a0 i4).bind λx18 =>
 (ix l.length i4).bind λj20 =>
 (l[j20]?).bind λx =>
 some (.inl (oT (i4+1),l.set j20 x18)))
 (some (.inr l))
def eB (a0:List Int):Option (List Int) :=
 (ud (a0.length:Int)).bind λn =>
 (loop (λz=>nl a0 z.1 z.2) (0,List.replicate n (0:Int))).bind λd =>
 some d
def iL:FL:=(212,⟨[.val false rC false],[.val false rC (some true)],λa=>eB a⟩)::iK
theorem nn:Gd iL:=p7 nk 212 Tryz.f212 [(0,⟨⟨[(4,false,[dI])],[(265216,.keep p4 true)]⟩,
 ⟨[],[(265216,.keep p4 true)]⟩,none⟩)] Tryz.func212
def dD (a0:pO):Option pO :=
 (eA a0.1).bind λt6 =>
 (eB a0.2).bind λt10 =>
 some (t6,t10)
def iM:FL:=(112,⟨[.val true qv false],[.val true qv (some true)],λa=>dD a⟩)::iL
theorem np:Gd iM:=p7 nn 112 Tryz.f112 [] Tryz.func112
def bb (a0:oU):Option oU :=
 (eu a0.2.2.1).bind λt12 =>
 (ew a0.2.2.2.1).bind λt16 =>
 (dD (a0.2.2.2.2.1,a0.2.2.2.2.2.1)).bind λt20 =>
 some (a0.1,a0.2.1,t12,t16,t20.1,t20.2,a0.2.2.2.2.2.2.1,a0.2.2.2.2.2.2.2.1,a0.2.2.2.2.2.2.2.2.1,a0.2.2.2.2.2.2.2.2.2.1,a0.2.2.2.2.2.2.2.2.2.2)
def iN:FL:=(29,⟨[.val true p9 false],[.val true p9 (some true)],λa=>bb a⟩)::iM
theorem nq:Gd iN:=p7 np 29 Tryz.f29 [] Tryz.func29
def nr (a0:List Int) (i4:Int) (l:List Int):Option ((Int×List Int)⊕(List Int)) :=
 cond (decide (i4<(a0.length:Int)))
 ((at? a0 i4).bind λx18 =>
 (ix l.length i4).bind λj20 =>
 (l[j20]?).bind λx =>
 some (.inl (oT (i4+1),l.set j20 x18)))
 (some (.inr l))
def dE (a0:List Int):Option (List Int) :=
 (ud (a0.length:Int)).bind λn =>
 (loop (λz=>nr a0 z.1 z.2) (0,List.replicate n (0:Int))).bind λd =>
 some d
def iO:FL:=(213,⟨[.val false rQ false],[.val false rQ (some true)],λa=>dE a⟩)::iN
theorem nu:Gd iO:=p7 nq 213 Tryz.f213 [(0,⟨⟨[(4,false,[dI])],[(265216,.keep (.one (.int .u8)) true)]⟩,
 ⟨[],[(265216,.keep (.one (.int .u8)) true)]⟩,none⟩)] Tryz.func213
def dG (a0:qq):Option qq :=
 (dE a0.2.2.2).bind λt15 =>
 some (a0.1,a0.2.1,a0.2.2.1,t15)
def iP:FL:=(214,⟨[.val true ri false],[.val true ri (some true)],λa=>dG a⟩)::iO
theorem nv:Gd iP:=p7 nu 214 Tryz.f214 [] Tryz.func214
def cu (a0:Act):Option Act :=
 (dE a0.2.2.2.1).bind λt15 =>
 (dG (a0.2.2.2.2.1,a0.2.2.2.2.2.1,a0.2.2.2.2.2.2.1,a0.2.2.2.2.2.2.2.1)).bind λt19 =>
 (eq a0.2.2.2.2.2.2.2.2).bind λt23 =>
 some (a0.1,a0.2.1,a0.2.2.1,t15,t19.1,t19.2.1,t19.2.2.1,t19.2.2.2,t23.1,t23.2.1,t23.2.2.1,t23.2.2.2.1,t23.2.2.2.2)
def iQ:FL:=(113,⟨[.val true qF false],[.val true qF (some true)],λa=>cu a⟩)::iP
theorem nx:Gd iQ:=p7 nv 113 Tryz.f113 [] Tryz.func113
def ny (a0:List Act) (i4:Int) (l:List Act):Option ((Int×List Act)⊕(List Act)) :=
 cond (decide (i4<(a0.length:Int)))
 ((at? a0 i4).bind λx18 =>
 (cu x18).bind λt20 =>
 (ix l.length i4).bind λj21 =>
 (l[j21]?).bind λx =>
 some (.inl (oT (i4+1),l.set j21 t20)))
 (some (.inr l))
def bB (a0:List Act):Option (List Act) :=
 (ud (a0.length:Int)).bind λn =>
 (loop (λz=>ny a0 z.1 z.2) (0,List.replicate n ((0,0,false,[],0,0,0,[],0,0,0,0,0):Act))).bind λd =>
 some d
def iR:FL:=(30,⟨[.val false (.one (.sl qF)) false],[.val false (.one (.sl qF)) (some true)],λa=>bB a⟩)::iQ
theorem nz:Gd iR:=p7 nx 30 Tryz.f30 [(0,⟨⟨[(4,false,[dI])],[(265216,.keep qF true)]⟩,
 ⟨[],[(265216,.keep qF true)]⟩,none⟩)] Tryz.func30
def aM (l0:List oV):Option (List oV) :=
 (pL [] l0).bind λzs4 =>
 some zs4
def iS:FL:=(166,⟨[.val false (.one (.sl pd)) false],[.val false (.one (.sl pd)) (some true)],λa=>aM a⟩)::iR
theorem nA:Gd iS:=p7 nz 166 Tryz.f166 [] Tryz.func166
def aL (l0:List Int):Option (List Int) :=
 (pL [] l0).bind λzs4 =>
 some zs4
def iT:FL:=(78,⟨[.val false rC false],[.val false rC (some true)],λa=>aL a⟩)::iS
theorem nB:Gd iT:=p7 nA 78 Tryz.f78 [] Tryz.func78
def bq (v0:pO):Option pO :=
 (pL [] v0.1).bind λzs5 =>
 (aL v0.2).bind λt8 =>
 some (zs5,t8)
def iU:FL:=(167,⟨[.val true qv false],[.val true qv (some true)],λa=>bq a⟩)::iT
theorem nC:Gd iU:=p7 nB 167 Tryz.f167 [] Tryz.func167
def a8 (b0:oU):Option oU :=
 (pL [] b0.2.2.1).bind λzs5 =>
 (aM b0.2.2.2.1).bind λt9 =>
 (bq (b0.2.2.2.2.1,b0.2.2.2.2.2.1)).bind λt12 =>
 some (b0.1,b0.2.1,zs5,t9,t12.1,t12.2,b0.2.2.2.2.2.2.1,b0.2.2.2.2.2.2.2.1,b0.2.2.2.2.2.2.2.2.1,b0.2.2.2.2.2.2.2.2.2.1,b0.2.2.2.2.2.2.2.2.2.2)
def iV:FL:=(76,⟨[.val true p9 false],[.val true p9 (some true)],λa=>a8 a⟩)::iU
theorem nD:Gd iV:=p7 nC 76 Tryz.f76 [] Tryz.func76
def a6 (n0:Int) (low1:Int) (high2:Int):Option Bool :=
 (cond (decide (n0>=low1)) (some (decide (n0<=high2))) (some false)).bind λt14 =>
 some t14
def iW:FL:=(90,⟨[.val false p4 false,.val false p4 false,.val false p4 false],[.val false pN (some true)],λa=>a6 a.1 a.2.1 a.2.2⟩)::iV
theorem nE:Gd iW:=p7 nD 90 Tryz.f90 [] Tryz.func90
def az (n0:Int):Option Bool :=
 (a6 n0 0 1000000).bind λt4 =>
 some t4
def iX:FL:=(134,⟨[.val false p4 false],[.val false pN (some true)],λa=>az a⟩)::iW
theorem nF:Gd iX:=p7 nE 134 Tryz.f134 [] Tryz.func134
def aI (v0:sw):Option Bool :=
 (a6 v0.1 1 99).bind λt5 =>
 (cond t5
 ((a6 v0.2.1 0 100000).bind λt9 =>
 some t9)
 (some false)).bind λt10 =>
 (cond t10
 ((a6 v0.2.2.1 0 10).bind λt14 =>
 some t14)
 (some false)).bind λt15 =>
 (cond t15
 ((a6 v0.2.2.2.1 1 99).bind λt19 =>
 some t19)
 (some false)).bind λt20 =>
 (cond t20
 ((a6 v0.2.2.2.2 0 7).bind λt24 =>
 some t24)
 (some false)).bind λt25 =>
 some t25
def iY:FL:=(275,⟨[.val true s7 false],[.val false pN (some true)],λa=>aI a⟩)::iX
theorem nG:Gd iY:=p7 nF 275 Tryz.f275 [] Tryz.func275
def cw (p0:Pt):Option Bool :=
 (a6 p0.2.1 1 1000).bind λt5 =>
 (cond (!t5)
 (some true)
 ((cond p0.2.2.1 (some (!p0.1)) (some false)).bind λt14 =>
 some t14)).bind λt15 =>
 cond t15
 (some false)
 (cond p0.2.2.1
 ((aI p0.2.2.2).bind λt20 =>
 some t20)
 (let t2:=p0.2.2.2.1==0&&(p0.2.2.2.2.1==0&&(p0.2.2.2.2.2.1==0&&(p0.2.2.2.2.2.2.1==0&&(p0.2.2.2.2.2.2.2==0))))
 some t2))
def iZ:FL:=(168,⟨[.val true qy false],[.val false pN (some true)],λa=>cw a⟩)::iY
theorem nH:Gd iZ:=p7 nG 168 Tryz.f168 [] Tryz.func168
def aX (e0:oV):Option Bool :=
 (a6 e0.1 1 99).bind λt5 =>
 (cond t5
 ((a6 e0.2.1 1 9999).bind λt9 =>
 some t9)
 (some false)).bind λt10 =>
 (cond t10
 ((a6 e0.2.2.1 0 7).bind λt14 =>
 some t14)
 (some false)).bind λt15 =>
 (cond t15
 ((a6 e0.2.2.2.1 0 4).bind λt19 =>
 some t19)
 (some false)).bind λt20 =>
 (cond t20
 ((cond (!e0.2.2.2.2) (some true) (some (e0.2.2.2.1==0))).bind λt29 =>
 some t29)
 (some false)).bind λt30 =>
 some t30
def j6:FL:=(276,⟨[.val true pd false],[.val false pN (some true)],λa=>aX a⟩)::iZ
theorem nI:Gd j6:=p7 nH 276 Tryz.f276 [] Tryz.func276
def bu (e0:oV) (tag1:Int) (mac2:Int):Option Bool :=
 (cond (decide (e0.1>tag1))
 (some true)
 ((cond (e0.1==tag1) (some (decide (e0.2.1>mac2))) (some false)).bind λt21 =>
 some t21)).bind λt22 =>
 some t22
def j7:FL:=(277,⟨[.val true pd false,.val false p4 false,.val false p4 false],[.val false pN (some true)],λa=>bu a.1 a.2.1 a.2.2⟩)::j6
theorem nJ:Gd j7:=p7 nI 277 Tryz.f277 [] Tryz.func277
def eC (l0:List oV) (t7:Int):Option (Int⊕(Unit⊕Bool)) :=
 cond (decide (t7<(l0.length:Int)))
 ((at? l0 t7).bind λx10 =>
 (aX x10).bind λt13 =>
 (cond (!t13)
 (some true)
 ((cond (decide (t7>0))
 ((at? l0 (oT (t7-1))).bind λx23 =>
 (at? l0 (oT (t7-1))).bind λx29 =>
 (bu x10 x23.1 x29.2.1).bind λt32 =>
 some (!t32))
 (some false)).bind λt34 =>
 some t34)).bind λt35 =>
 cond t35 (some (.inr (.inr false))) (some (.inl (oT (t7+1)))))
 (some (.inr (.inl ())))
def bT (l0:List oV):Option Bool :=
 (loop (λz=>eC l0 z) 0).bind (Sum.elim (λd =>
 let t2:=decide ((l0.length:Int)<=12)
 some t2) (λr=>some r))
def j8:FL:=(169,⟨[.val false (.one (.sl pd)) false],[.val false pN (some true)],λa=>bT a⟩)::j7
theorem nK:Gd j8:=p7 nJ 169 Tryz.f169 [(0,⟨⟨(7,false,[dI])::us 16 19 [],[]⟩,
 ⟨[],[]⟩,some ⟨[(2,false,[dB])],[]⟩⟩)] Tryz.func169
def bP (ports0:Int):Option Int :=
 (shl .i64 1 ports0).bind λt4 =>
 some (oT (t4-1))
def j9:FL:=(278,⟨[.val false p4 false],[.val false p4 (some true)],λa=>bP a⟩)::j8
theorem nL:Gd j9:=p7 nK 278 Tryz.f278 [] Tryz.func278
def bh (v0:pO) (id1:Int) (t10:Int):Option (Int⊕(Unit⊕Int)) :=
 cond (decide (t10<(v0.1.length:Int)))
 ((at? v0.1 t10).bind λx13 =>
 cond (x13.1==id1) (some (.inr (.inr t10))) (some (.inl (oT (t10+1)))))
 (some (.inr (.inl ())))
def aa (v0:pO) (id1:Int):Option Int :=
 (loop (λz=>bh v0 id1 z) 0).bind (Sum.elim (λd =>
 some (-1)) (λr=>some r))
def ja:FL:=(279,⟨[.val true qv false,.val false p4 false],[.val false p4 (some true)],λa=>aa a.1 a.2⟩)::j9
theorem nM:Gd ja:=p7 nL 279 Tryz.f279 [(0,⟨⟨[(10,false,[dI])],[]⟩,
 ⟨[],[]⟩,some ⟨[(4,false,[dI])],[]⟩⟩)] Tryz.func279
def eD (p0:pO) (i1:Int) (t28:Int):Option (Int⊕(Unit⊕Bool)) :=
 cond (decide (t28<(p0.1.length:Int)))
 ((at? p0.1 t28).bind λx31 =>
 (a6 x31.1 1 99).bind λt35 =>
 (cond (!t35)
 (some true)
 ((cond (decide (t28>0))
 ((at? p0.1 (oT (t28-1))).bind λx45 =>
 some (decide (x45.1>=x31.1)))
 (some false)).bind λt51 =>
 some t51)).bind λt52 =>
 (cond t52
 (some true)
 ((bP i1).bind λt57 =>
 (a6 x31.2.1 0 t57).bind λt58 =>
 some (!t58))).bind λt60 =>
 (cond t60 (some true) (some ((uQ .i64 x31.2.2 x31.2.1) != 0))).bind λt68 =>
 cond t68 (some (.inr (.inr false))) (some (.inl (oT (t28+1)))))
 (some (.inr (.inl ())))
def dH (p0:pO) (t73:Int):Option (Int⊕(Unit⊕Bool)) :=
 cond (decide (t73<(p0.2.length:Int)))
 ((at? p0.2 t73).bind λx75 =>
 (aa p0 x75).bind λt79 =>
 cond (decide (t79<0)) (some (.inr (.inr false))) (some (.inl (oT (t73+1)))))
 (some (.inr (.inl ())))
def bR (p0:pO) (i1:Int):Option Bool :=
 (a6 i1 1 6).bind λt10 =>
 (cond (!t10) (some true) (some ((p0.2.length:Int) != i1))).bind λt18 =>
 (cond t18 (some true) (some (decide ((p0.1.length:Int)>6)))).bind λt24 =>
 cond t24
 (some false)
 ((loop (λz=>eD p0 i1 z) 0).bind (Sum.elim (λd =>
 (loop (λz=>dH p0 z) 0).bind (Sum.elim (λd_1 =>
 some true) (λr=>some r))) (λr_1=>some r_1)))
def jb:FL:=(170,⟨[.val true qv false,.val false p4 false],[.val false pN (some true)],λa=>bR a.1 a.2⟩)::ja
theorem nN:Gd jb:=p7 nM 170 Tryz.f170 [(0,⟨⟨(28,false,[dI])::us 38 14 (us 54 6 (us 62 6 [])),[]⟩,
 ⟨[],[]⟩,some ⟨[(4,false,[dB])],[]⟩⟩),
 (2,⟨⟨[(73,false,[dI])],[]⟩,
 ⟨[],[]⟩,some ⟨[(4,false,[dB])],[]⟩⟩)] Tryz.func170
def eE (p0:oU) (t8:Int):Option (Int⊕(Unit⊕Bool)) :=
 cond (decide (t8<(p0.2.2.1.length:Int)))
 ((at? p0.2.2.1 t8).bind λx10 =>
 (cw x10).bind λt13 =>
 cond (!t13) (some (.inr (.inr false))) (some (.inl (oT (t8+1)))))
 (some (.inr (.inl ())))
def av (p0:oU):Option Bool :=
 (loop (λz=>eE p0 z) 0).bind (Sum.elim (λd =>
 (a6 p0.1 1 99).bind λt18 =>
 (cond (!t18) (some true) (some (decide ((p0.2.1.length:Int)>10)))).bind λt25 =>
 (cond t25
 (some true)
 ((a6 (p0.2.2.1.length:Int) 1 6).bind λt30 =>
 some (!t30))).bind λt32 =>
 (cond t32
 (some true)
 ((bT p0.2.2.2.1).bind λt36 =>
 some (!t36))).bind λt38 =>
 (cond t38
 (some true)
 ((bR (p0.2.2.2.2.1,p0.2.2.2.2.2.1) (p0.2.2.1.length:Int)).bind λt45 =>
 some (!t45))).bind λt47 =>
 cond t47
 (some false)
 ((az p0.2.2.2.2.2.2.1).bind λt50 =>
 (cond t50
 ((az p0.2.2.2.2.2.2.2.1).bind λt54 =>
 some t54)
 (some false)).bind λt55 =>
 (cond t55
 ((az p0.2.2.2.2.2.2.2.2.1).bind λt59 =>
 some t59)
 (some false)).bind λt60 =>
 (cond t60
 ((az p0.2.2.2.2.2.2.2.2.2.1).bind λt64 =>
 some t64)
 (some false)).bind λt65 =>
 (cond t65
 ((az p0.2.2.2.2.2.2.2.2.2.2).bind λt69 =>
 some t69)
 (some false)).bind λt70 =>
 some t70)) (λr=>some r))
def jc:FL:=(77,⟨[.val true p9 false],[.val false pN (some true)],λa=>av a⟩)::jb
theorem nO:Gd jc:=p7 nN 77 Tryz.f77 [(0,⟨⟨[(8,false,[dI])],[]⟩,
 ⟨[],[]⟩,some ⟨[(2,false,[dB])],[]⟩⟩)] Tryz.func77
def bI (o0:List Int) (t7:Int):Option (Int⊕(Unit⊕Bool)) :=
 cond (decide (t7<(o0.length:Int)))
 ((at? o0 t7).bind λx9 =>
 (a6 x9 0 100000).bind λt12 =>
 cond (!t12) (some (.inr (.inr false))) (some (.inl (oT (t7+1)))))
 (some (.inr (.inl ())))
def ah (o0:List Int):Option Bool :=
 (loop (λz=>bI o0 z) 0).bind (Sum.elim (λd =>
 (a6 (o0.length:Int) 1 10).bind λt17 =>
 some t17) (λr=>some r))
def jd:FL:=(91,⟨[.val false rC false],[.val false pN (some true)],λa=>ah a⟩)::jc
theorem nP:Gd jd:=p7 nO 91 Tryz.f91 [(0,⟨⟨[(7,false,[dI])],[]⟩,
 ⟨[],[]⟩,some ⟨[(2,false,[dB])],[]⟩⟩)] Tryz.func91
def bJ (a0:List Int) (b1:List Int) (t13:Int):Option (Int⊕(Unit⊕Bool)) :=
 cond (decide (t13<(a0.length:Int)))
 ((at? a0 t13).bind λx18 =>
 (at? b1 t13).bind λx22 =>
 cond (x18 != x22) (some (.inr (.inr false))) (some (.inl (oT (t13+1)))))
 (some (.inr (.inl ())))
def aK (a0:List Int) (b1:List Int):Option Bool :=
 cond ((a0.length:Int) != (b1.length:Int))
 (some false)
 ((loop (λz=>bJ a0 b1 z) 0).bind (Sum.elim (λd =>
 some true) (λr=>some r)))
def je:FL:=(19,⟨[.val false rC false,.val false rC false],[.val false pN (some true)],λa=>aK a.1 a.2⟩)::jd
theorem nQ:Gd je:=p7 nP 19 Tryz.f19 [(0,⟨⟨[(13,false,[dI])],[]⟩,
 ⟨[],[]⟩,some ⟨[(4,false,[dB])],[]⟩⟩)] Tryz.func19
def aH (a0:ub) (b1:ub):Option Bool :=
 (cond (a0.1==b1.1) (some (a0.2.1==b1.2.1)) (some false)).bind λt16 =>
 (cond t16 (some (a0.2.2.1==b1.2.2.1)) (some false)).bind λt23 =>
 (cond t23
 ((aK a0.2.2.2 b1.2.2.2).bind λt29 =>
 some t29)
 (some false)).bind λt30 =>
 some t30
def jf:FL:=(20,⟨[.val true uN false,.val true uN false],[.val false pN (some true)],λa=>aH a.1 a.2⟩)::je
theorem nR:Gd jf:=p7 nQ 20 Tryz.f20 [] Tryz.func20
def aj (n0:Int):Option Bool :=
 (a6 n0 (-2147483648) 2147483647).bind λt4 =>
 some t4
def jg:FL:=(93,⟨[.val false p4 false],[.val false pN (some true)],λa=>aj a⟩)::jf
theorem nS:Gd jg:=p7 nR 93 Tryz.f93 [] Tryz.func93
def ac (v0:ub):Option Bool :=
 cond (v0.1==2)
 ((aj v0.2.1).bind λt17 =>
 (cond t17
 ((aH v0 (v0.1,v0.2.1,[],[])).bind λt43 =>
 some t43)
 (some false)).bind λt44 =>
 some t44)
 (cond (v0.1==4)
 (let ok4:=decide ((v0.2.2.1.length:Int)<=20)
 (cond ok4
 ((aH v0 (v0.1,0,v0.2.2.1,[])).bind λt43_1 =>
 some t43_1)
 (some false)).bind λt44_1 =>
 some t44_1)
 (cond (v0.1==6)
 ((ah v0.2.2.2).bind λt34 =>
 (cond t34
 ((aH v0 (v0.1,0,[],v0.2.2.2)).bind λt43_2 =>
 some t43_2)
 (some false)).bind λt44_2 =>
 some t44_2)
 (cond (v0.1==5)
 (cond (v0.1==5)
 (((aH v0 (v0.1,0,[],[])).bind λt43_3 =>
 some t43_3).bind λt44_3 =>
 some t44_3)
 (some false))
 (cond (v0.1==128)
 (cond (v0.1==128)
 (((aH v0 (v0.1,0,[],[])).bind λt43_4 =>
 some t43_4).bind λt44_4 =>
 some t44_4)
 (some false))
 (cond (v0.1==130)
 (((aH v0 (v0.1,0,[],[])).bind λt43_5 =>
 some t43_5).bind λt44_5 =>
 some t44_5)
 (some false))))))
def jh:FL:=(92,⟨[.val true uN false],[.val false pN (some true)],λa=>ac a⟩)::jg
theorem nT:Gd jh:=p7 nS 92 Tryz.f92 [] Tryz.func92
def nU (p0:ra) (t35:Int):Option (Int⊕(Unit⊕Bool)) :=
 cond (decide (t35<(p0.2.2.2.2.length:Int)))
 ((at? p0.2.2.2.2 t35).bind λx38 =>
 (cond (decide (t35>=10))
 (some true)
 ((ah x38.1).bind λt45 =>
 some (!t45))).bind λt47 =>
 (cond t47
 (some true)
 ((ac x38.2).bind λt51 =>
 some (!t51))).bind λt53 =>
 cond t53 (some (.inr (.inr false))) (some (.inl (oT (t35+1)))))
 (some (.inr (.inl ())))
def nV (p0:ra) (t35_1:Int):Option (Int⊕(Unit⊕Bool)) :=
 cond (decide (t35_1<(p0.2.2.2.2.length:Int)))
 ((at? p0.2.2.2.2 t35_1).bind λx38_1 =>
 (cond (decide (t35_1>=10))
 (some true)
 ((ah x38_1.1).bind λt45_1 =>
 some (!t45_1))).bind λt47_1 =>
 (cond t47_1
 (some true)
 ((ac x38_1.2).bind λt51_1 =>
 some (!t51_1))).bind λt53_1 =>
 cond t53_1 (some (.inr (.inr false))) (some (.inl (oT (t35_1+1)))))
 (some (.inr (.inl ())))
def nW (p0:ra) (t35_2:Int):Option (Int⊕(Unit⊕Bool)) :=
 cond (decide (t35_2<(p0.2.2.2.2.length:Int)))
 ((at? p0.2.2.2.2 t35_2).bind λx38_2 =>
 (cond (decide (t35_2>=10))
 (some true)
 ((ah x38_2.1).bind λt45_2 =>
 some (!t45_2))).bind λt47_2 =>
 (cond t47_2
 (some true)
 ((ac x38_2.2).bind λt51_2 =>
 some (!t51_2))).bind λt53_2 =>
 cond t53_2 (some (.inr (.inr false))) (some (.inl (oT (t35_2+1)))))
 (some (.inr (.inl ())))
def nX (p0:ra) (t35_3:Int):Option (Int⊕(Unit⊕Bool)) :=
 cond (decide (t35_3<(p0.2.2.2.2.length:Int)))
 ((at? p0.2.2.2.2 t35_3).bind λx38_3 =>
 (cond (decide (t35_3>=10))
 (some true)
 ((ah x38_3.1).bind λt45_3 =>
 some (!t45_3))).bind λt47_3 =>
 (cond t47_3
 (some true)
 ((ac x38_3.2).bind λt51_3 =>
 some (!t51_3))).bind λt53_3 =>
 cond t53_3 (some (.inr (.inr false))) (some (.inl (oT (t35_3+1)))))
 (some (.inr (.inl ())))
def nY (p0:ra) (t35_4:Int):Option (Int⊕(Unit⊕Bool)) :=
 cond (decide (t35_4<(p0.2.2.2.2.length:Int)))
 ((at? p0.2.2.2.2 t35_4).bind λx38_4 =>
 (cond (decide (t35_4>=10))
 (some true)
 ((ah x38_4.1).bind λt45_4 =>
 some (!t45_4))).bind λt47_4 =>
 (cond t47_4
 (some true)
 ((ac x38_4.2).bind λt51_4 =>
 some (!t51_4))).bind λt53_4 =>
 cond t53_4 (some (.inr (.inr false))) (some (.inl (oT (t35_4+1)))))
 (some (.inr (.inl ())))
def nZ (p0:ra) (t35_5:Int):Option (Int⊕(Unit⊕Bool)) :=
 cond (decide (t35_5<(p0.2.2.2.2.length:Int)))
 ((at? p0.2.2.2.2 t35_5).bind λx38_5 =>
 (cond (decide (t35_5>=10))
 (some true)
 ((ah x38_5.1).bind λt45_5 =>
 some (!t45_5))).bind λt47_5 =>
 (cond t47_5
 (some true)
 ((ac x38_5.2).bind λt51_5 =>
 some (!t51_5))).bind λt53_5 =>
 cond t53_5 (some (.inr (.inr false))) (some (.inl (oT (t35_5+1)))))
 (some (.inr (.inl ())))
def o4 (p0:ra) (t35_6:Int):Option (Int⊕(Unit⊕Bool)) :=
 cond (decide (t35_6<(p0.2.2.2.2.length:Int)))
 ((at? p0.2.2.2.2 t35_6).bind λx38_6 =>
 (cond (decide (t35_6>=10))
 (some true)
 ((ah x38_6.1).bind λt45_6 =>
 some (!t45_6))).bind λt47_6 =>
 (cond t47_6
 (some true)
 ((ac x38_6.2).bind λt51_6 =>
 some (!t51_6))).bind λt53_6 =>
 cond t53_6 (some (.inr (.inr false))) (some (.inl (oT (t35_6+1)))))
 (some (.inr (.inl ())))
def o5 (p0:ra) (t35_7:Int):Option (Int⊕(Unit⊕Bool)) :=
 cond (decide (t35_7<(p0.2.2.2.2.length:Int)))
 ((at? p0.2.2.2.2 t35_7).bind λx38_7 =>
 (cond (decide (t35_7>=10))
 (some true)
 ((ah x38_7.1).bind λt45_7 =>
 some (!t45_7))).bind λt47_7 =>
 (cond t47_7
 (some true)
 ((ac x38_7.2).bind λt51_7 =>
 some (!t51_7))).bind λt53_7 =>
 cond t53_7 (some (.inr (.inr false))) (some (.inl (oT (t35_7+1)))))
 (some (.inr (.inl ())))
def o7 (p0:ra) (t35_8:Int):Option (Int⊕(Unit⊕Bool)) :=
 cond (decide (t35_8<(p0.2.2.2.2.length:Int)))
 ((at? p0.2.2.2.2 t35_8).bind λx38_8 =>
 (cond (decide (t35_8>=10))
 (some true)
 ((ah x38_8.1).bind λt45_8 =>
 some (!t45_8))).bind λt47_8 =>
 (cond t47_8
 (some true)
 ((ac x38_8.2).bind λt51_8 =>
 some (!t51_8))).bind λt53_8 =>
 cond t53_8 (some (.inr (.inr false))) (some (.inl (oT (t35_8+1)))))
 (some (.inr (.inl ())))
def cE (p0:ra):Option Bool :=
 cond (p0.1==160)
 (cond (p0.1==160)
 ((cond (p0.2.2.1 != 0) (some true) (some (p0.2.2.2.1 != 0))).bind λt18 =>
 cond t18
 (some false)
 ((loop (λz=>nU p0 z) 0).bind (Sum.elim (λd =>
 (aj p0.2.1).bind λt57 =>
 some t57) (λr=>some r))))
 (cond (p0.1==162)
 (cond (p0.1==162)
 ((a6 p0.2.2.1 0 1000).bind λt24 =>
 (cond (!t24)
 (some true)
 ((a6 p0.2.2.2.1 0 1000).bind λt29 =>
 some (!t29))).bind λt31 =>
 cond t31
 (some false)
 ((loop (λz=>nV p0 z) 0).bind (Sum.elim (λd_1 =>
 (aj p0.2.1).bind λt57_1 =>
 some t57_1) (λr_1=>some r_1))))
 (some false))
 (cond (p0.1==165)
 ((a6 p0.2.2.1 0 1000).bind λt24_1 =>
 (cond (!t24_1)
 (some true)
 ((a6 p0.2.2.2.1 0 1000).bind λt29_1 =>
 some (!t29_1))).bind λt31_1 =>
 cond t31_1
 (some false)
 ((loop (λz=>nW p0 z) 0).bind (Sum.elim (λd_2 =>
 (aj p0.2.1).bind λt57_2 =>
 some t57_2) (λr_2=>some r_2))))
 (some false))))
 (cond (p0.1==161)
 (cond (p0.1==161)
 ((cond (p0.2.2.1 != 0) (some true) (some (p0.2.2.2.1 != 0))).bind λt18_1 =>
 cond t18_1
 (some false)
 ((loop (λz=>nX p0 z) 0).bind (Sum.elim (λd_3 =>
 (aj p0.2.1).bind λt57_3 =>
 some t57_3) (λr_3=>some r_3))))
 (cond (p0.1==162)
 (cond (p0.1==162)
 ((a6 p0.2.2.1 0 1000).bind λt24_2 =>
 (cond (!t24_2)
 (some true)
 ((a6 p0.2.2.2.1 0 1000).bind λt29_2 =>
 some (!t29_2))).bind λt31_2 =>
 cond t31_2
 (some false)
 ((loop (λz=>nY p0 z) 0).bind (Sum.elim (λd_4 =>
 (aj p0.2.1).bind λt57_4 =>
 some t57_4) (λr_4=>some r_4))))
 (some false))
 (cond (p0.1==165)
 ((a6 p0.2.2.1 0 1000).bind λt24_3 =>
 (cond (!t24_3)
 (some true)
 ((a6 p0.2.2.2.1 0 1000).bind λt29_3 =>
 some (!t29_3))).bind λt31_3 =>
 cond t31_3
 (some false)
 ((loop (λz=>nZ p0 z) 0).bind (Sum.elim (λd_5 =>
 (aj p0.2.1).bind λt57_5 =>
 some t57_5) (λr_5=>some r_5))))
 (some false))))
 (cond (p0.1==163)
 ((cond (p0.2.2.1 != 0) (some true) (some (p0.2.2.2.1 != 0))).bind λt18_2 =>
 cond t18_2
 (some false)
 ((loop (λz=>o4 p0 z) 0).bind (Sum.elim (λd_6 =>
 (aj p0.2.1).bind λt57_6 =>
 some t57_6) (λr_6=>some r_6))))
 (cond (p0.1==162)
 (cond (p0.1==162)
 ((a6 p0.2.2.1 0 1000).bind λt24_4 =>
 (cond (!t24_4)
 (some true)
 ((a6 p0.2.2.2.1 0 1000).bind λt29_4 =>
 some (!t29_4))).bind λt31_4 =>
 cond t31_4
 (some false)
 ((loop (λz=>o5 p0 z) 0).bind (Sum.elim (λd_7 =>
 (aj p0.2.1).bind λt57_7 =>
 some t57_7) (λr_7=>some r_7))))
 (some false))
 (cond (p0.1==165)
 ((a6 p0.2.2.1 0 1000).bind λt24_5 =>
 (cond (!t24_5)
 (some true)
 ((a6 p0.2.2.2.1 0 1000).bind λt29_5 =>
 some (!t29_5))).bind λt31_5 =>
 cond t31_5
 (some false)
 ((loop (λz=>o7 p0 z) 0).bind (Sum.elim (λd_8 =>
 (aj p0.2.1).bind λt57_8 =>
 some t57_8) (λr_8=>some r_8))))
 (some false)))))
def ji:FL:=(17,⟨[.val true u5 false],[.val false pN (some true)],λa=>cE a⟩)::jh
theorem o8:Gd ji:=p7 nT 17 Tryz.f17 [(1,⟨⟨(35,false,[dI])::us 43 4 (us 49 4 []),[]⟩,
 ⟨[],[]⟩,some ⟨[(2,false,[dB])],[]⟩⟩)] Tryz.func17
def jj (j0:tH):Option Bool :=
 (a6 j0.2.2.1 0 2).bind λt5 =>
 (cond (!t5)
 (some true)
 ((a6 j0.2.2.2.2.2.2.2.2.2.2.2.2.2.2.2.2.2.2.2.1 0 (j0.2.2.2.2.2.2.2.1.length:Int)).bind λt14 =>
 some (!t14))).bind λt16 =>
 (cond t16
 (some true)
 ((a6 j0.2.2.2.2.2.2.2.2.2.2.2.2.2.2.2.2.2.2.2.2 0 3).bind λt20 =>
 some (!t20))).bind λt22 =>
 cond t22
 (some false)
 ((cond (j0.2.2.1==0)
 (some true)
 ((cE (j0.2.2.2.1,j0.2.2.2.2.1,j0.2.2.2.2.2.1,j0.2.2.2.2.2.2.1,j0.2.2.2.2.2.2.2.1)).bind λt29 =>
 (cond t29 (some (j0.2.2.2.1 != 162)) (some false)).bind λt35 =>
 (cond t35
 ((av (j0.2.2.2.2.2.2.2.2.1,j0.2.2.2.2.2.2.2.2.2.1,j0.2.2.2.2.2.2.2.2.2.2.1,j0.2.2.2.2.2.2.2.2.2.2.2.1,j0.2.2.2.2.2.2.2.2.2.2.2.2.1,j0.2.2.2.2.2.2.2.2.2.2.2.2.2.1,j0.2.2.2.2.2.2.2.2.2.2.2.2.2.2.1,j0.2.2.2.2.2.2.2.2.2.2.2.2.2.2.2.1,j0.2.2.2.2.2.2.2.2.2.2.2.2.2.2.2.2.1,j0.2.2.2.2.2.2.2.2.2.2.2.2.2.2.2.2.2.1,j0.2.2.2.2.2.2.2.2.2.2.2.2.2.2.2.2.2.2.1)).bind λt39 =>
 some t39)
 (some false)).bind λt40 =>
 some t40)).bind λt41 =>
 some t41)
def jk:FL:=(135,⟨[.val true ye false],[.val false pN (some true)],λa=>jj a⟩)::ji
theorem o9:Gd jk:=p7 o8 135 Tryz.f135 [] Tryz.func135
def oa (p0:qe) (t36:Int):Option (Int⊕(Unit⊕Bool)) :=
 cond (decide (t36<(p0.2.2.2.2.2.2.2.2.2.2.2.2.1.length:Int)))
 ((at? p0.2.2.2.2.2.2.2.2.2.2.2.2.1 t36).bind λx39 =>
 (a6 x39.1 1 p0.2.2.2.2.2.2.2.2.2.2.2.2.2.2).bind λt45 =>
 (cond (!t45)
 (some true)
 ((cond (decide (t36>0))
 ((at? p0.2.2.2.2.2.2.2.2.2.2.2.2.1 (oT (t36-1))).bind λx55 =>
 some (decide (x55.1>=x39.1)))
 (some false)).bind λt61 =>
 some t61)).bind λt62 =>
 (cond t62
 (some true)
 ((jj x39).bind λt65 =>
 some (!t65))).bind λt67 =>
 cond t67 (some (.inr (.inr false))) (some (.inl (oT (t36+1)))))
 (some (.inr (.inl ())))
def jl (p0:qe):Option Bool :=
 (av (p0.1,p0.2.1,p0.2.2.1,p0.2.2.2.1,p0.2.2.2.2.1,p0.2.2.2.2.2.1,p0.2.2.2.2.2.2.1,p0.2.2.2.2.2.2.2.1,p0.2.2.2.2.2.2.2.2.1,p0.2.2.2.2.2.2.2.2.2.1,p0.2.2.2.2.2.2.2.2.2.2.1)).bind λt7 =>
 (cond (!t7)
 (some true)
 (some (decide ((p0.2.2.2.2.2.2.2.2.2.2.2.1.length:Int)>20)))).bind λt14 =>
 (cond t14
 (some true)
 (some (decide ((p0.2.2.2.2.2.2.2.2.2.2.2.2.1.length:Int)>6)))).bind λt20 =>
 (cond t20
 (some true)
 ((az p0.2.2.2.2.2.2.2.2.2.2.2.2.2.1).bind λt24 =>
 some (!t24))).bind λt26 =>
 (cond t26
 (some true)
 ((az p0.2.2.2.2.2.2.2.2.2.2.2.2.2.2).bind λt30 =>
 some (!t30))).bind λt32 =>
 cond t32
 (some false)
 ((loop (λz=>oa p0 z) 0).bind (Sum.elim (λd =>
 some true) (λr=>some r)))
def jm:FL:=(43,⟨[.val true sO false],[.val false pN (some true)],λa=>jl a⟩)::jk
theorem ob:Gd jm:=p7 o9 43 Tryz.f43 [(0,⟨⟨(36,false,[dI])::us 48 14 (us 64 3 []),[]⟩,
 ⟨[],[]⟩,some ⟨[(2,false,[dB])],[]⟩⟩)] Tryz.func43
def ay (b0:List Int):Option (List Int) :=
 (pL [] b0).bind λzs4 =>
 some zs4
def jn:FL:=(131,⟨[.val false rQ false],[.val false rQ (some true)],λa=>ay a⟩)::jm
theorem oc:Gd jn:=p7 ob 131 Tryz.f131 [] Tryz.func131
def jo (v0:ub):Option ub :=
 (aL v0.2.2.2).bind λt5 =>
 some (v0.1,v0.2.1,v0.2.2.1,t5)
def jp:FL:=(173,⟨[.val true uN false],[.val true uN (some true)],λa=>jo a⟩)::jn
theorem od:Gd jp:=p7 oc 173 Tryz.f173 [] Tryz.func173
def oe (l0:List pc) (t8:Int) (out3:List pc):Option ((Int×List pc)⊕(List pc)) :=
 cond (decide (t8<(l0.length:Int)))
 ((at? l0 t8).bind λx10 =>
 (aL x10.1).bind λt15 =>
 (jo x10.2).bind λt18 =>
 (pL out3 [(t15,t18.1,t18.2.1,t18.2.2.1,t18.2.2.2)]).bind λzs21 =>
 some (.inl (oT (t8+1),zs21)))
 (some (.inr out3))
def cG (l0:List pc):Option (List pc) :=
 (loop (λz=>oe l0 z.1 z.2) (0,[])).bind λd =>
 some d
def jq:FL:=(81,⟨[.val false (.one (.sl pE)) false],[.val false (.one (.sl pE)) (some true)],λa=>cG a⟩)::jp
theorem og:Gd jq:=p7 od 81 Tryz.f81 [(0,⟨⟨[(3,false,[.own 1000000000]),(8,false,[dI])],[(1000000000,.root pE true)]⟩,
 ⟨[(3,false,[.own 1000000300])],[(1000000300,.root pE true)]⟩,none⟩)] Tryz.func81
def jr (p0:ra):Option ra :=
 (cG p0.2.2.2.2).bind λt5 =>
 some (p0.1,p0.2.1,p0.2.2.1,p0.2.2.2.1,t5)
def js:FL:=(233,⟨[.val true u5 false],[.val true u5 (some true)],λa=>jr a⟩)::jq
theorem oh:Gd js:=p7 og 233 Tryz.f233 [] Tryz.func233
def oi (a0:qe) (t13:Int) (jobs3:List tH):Option ((Int×List tH)⊕(List tH)) :=
 cond (decide (t13<(a0.2.2.2.2.2.2.2.2.2.2.2.2.1.length:Int)))
 ((at? a0.2.2.2.2.2.2.2.2.2.2.2.2.1 t13).bind λx15 =>
 (ay x15.2.1).bind λt19 =>
 (jr (x15.2.2.2.1,x15.2.2.2.2.1,x15.2.2.2.2.2.1,x15.2.2.2.2.2.2.1,x15.2.2.2.2.2.2.2.1)).bind λt22 =>
 (a8 (x15.2.2.2.2.2.2.2.2.1,x15.2.2.2.2.2.2.2.2.2.1,x15.2.2.2.2.2.2.2.2.2.2.1,x15.2.2.2.2.2.2.2.2.2.2.2.1,x15.2.2.2.2.2.2.2.2.2.2.2.2.1,x15.2.2.2.2.2.2.2.2.2.2.2.2.2.1,x15.2.2.2.2.2.2.2.2.2.2.2.2.2.2.1,x15.2.2.2.2.2.2.2.2.2.2.2.2.2.2.2.1,x15.2.2.2.2.2.2.2.2.2.2.2.2.2.2.2.2.1,x15.2.2.2.2.2.2.2.2.2.2.2.2.2.2.2.2.2.1,x15.2.2.2.2.2.2.2.2.2.2.2.2.2.2.2.2.2.2.1)).bind λt25 =>
 (pL jobs3 [(x15.1,t19,x15.2.2.1,t22.1,t22.2.1,t22.2.2.1,t22.2.2.2.1,t22.2.2.2.2,t25.1,t25.2.1,t25.2.2.1,t25.2.2.2.1,t25.2.2.2.2.1,t25.2.2.2.2.2.1,t25.2.2.2.2.2.2.1,t25.2.2.2.2.2.2.2.1,t25.2.2.2.2.2.2.2.2.1,t25.2.2.2.2.2.2.2.2.2.1,t25.2.2.2.2.2.2.2.2.2.2,x15.2.2.2.2.2.2.2.2.2.2.2.2.2.2.2.2.2.2.2.1,x15.2.2.2.2.2.2.2.2.2.2.2.2.2.2.2.2.2.2.2.2)]).bind λzs32 =>
 some (.inl (oT (t13+1),zs32)))
 (some (.inr jobs3))
def jt (a0:qe):Option qe :=
 (a8 (a0.1,a0.2.1,a0.2.2.1,a0.2.2.2.1,a0.2.2.2.2.1,a0.2.2.2.2.2.1,a0.2.2.2.2.2.2.1,a0.2.2.2.2.2.2.2.1,a0.2.2.2.2.2.2.2.2.1,a0.2.2.2.2.2.2.2.2.2.1,a0.2.2.2.2.2.2.2.2.2.2.1)).bind λt8 =>
 (loop (λz=>oi a0 z.1 z.2) (0,[])).bind λd =>
 some (t8.1,t8.2.1,t8.2.2.1,t8.2.2.2.1,t8.2.2.2.2.1,t8.2.2.2.2.2.1,t8.2.2.2.2.2.2.1,t8.2.2.2.2.2.2.2.1,t8.2.2.2.2.2.2.2.2.1,t8.2.2.2.2.2.2.2.2.2.1,t8.2.2.2.2.2.2.2.2.2.2,a0.2.2.2.2.2.2.2.2.2.2.2.1,d,a0.2.2.2.2.2.2.2.2.2.2.2.2.2.1,a0.2.2.2.2.2.2.2.2.2.2.2.2.2.2)
def ju:FL:=(129,⟨[.val true sO false],[.val true sO (some true)],λa=>jt a⟩)::js
theorem oj:Gd ju:=p7 oh 129 Tryz.f129 [(0,⟨⟨[(3,false,[.own 1000000000]),(13,false,[dI])],[(1000000000,.root ye true)]⟩,
 ⟨[(3,false,[.own 1000000300])],[(1000000300,.root ye true)]⟩,none⟩)] Tryz.func129
def af (n0:Int):Option Int :=
 let t2:=min2 (oT (n0+1)) 1000000
 some t2
def jv:FL:=(130,⟨[.val false p4 false],[.val false p4 (some true)],λa=>af a⟩)::ju
theorem ol:Gd jv:=p7 oj 130 Tryz.f130 [] Tryz.func130
def fZ (a0:qe) (b1:List Int):Option qe :=
 (jt a0).bind λt7 =>
 (jl a0).bind λt24 =>
 cond (!t24)
 (some t7)
 ((cond (decide ((a0.2.2.2.2.2.2.2.2.2.2.2.2.1.length:Int)>=6))
 (some true)
 (some (decide (a0.2.2.2.2.2.2.2.2.2.2.2.2.2.2>=1000000)))).bind λt35 =>
 cond t35
 ((af a0.2.2.2.2.2.2.2.2.2.2.2.2.2.1).bind λt38 =>
 some (t7.1,t7.2.1,t7.2.2.1,t7.2.2.2.1,t7.2.2.2.2.1,t7.2.2.2.2.2.1,t7.2.2.2.2.2.2.1,t7.2.2.2.2.2.2.2.1,t7.2.2.2.2.2.2.2.2.1,t7.2.2.2.2.2.2.2.2.2.1,t7.2.2.2.2.2.2.2.2.2.2.1,t7.2.2.2.2.2.2.2.2.2.2.2.1,t7.2.2.2.2.2.2.2.2.2.2.2.2.1,t38,t7.2.2.2.2.2.2.2.2.2.2.2.2.2.2))
 ((ay b1).bind λt17 =>
 (pL t7.2.2.2.2.2.2.2.2.2.2.2.2.1 ([(oT (t7.2.2.2.2.2.2.2.2.2.2.2.2.2.2+1),t17,0,0,0,0,0,[],0,[],[],[],[],[],0,0,0,0,0,0,0)])).bind λzs20 =>
 some (t7.1,t7.2.1,t7.2.2.1,t7.2.2.2.1,t7.2.2.2.2.1,t7.2.2.2.2.2.1,t7.2.2.2.2.2.2.1,t7.2.2.2.2.2.2.2.1,t7.2.2.2.2.2.2.2.2.1,t7.2.2.2.2.2.2.2.2.2.1,t7.2.2.2.2.2.2.2.2.2.2.1,t7.2.2.2.2.2.2.2.2.2.2.2.1,zs20,t7.2.2.2.2.2.2.2.2.2.2.2.2.2.1,oT (t7.2.2.2.2.2.2.2.2.2.2.2.2.2.2+1))))
def jw:FL:=(38,⟨[.val true sO false,.val false rQ false],[.val true sO (some true)],λa=>fZ a.1 a.2⟩)::jv
theorem om:Gd jw:=p7 ol 38 Tryz.f38 [] Tryz.func38
def cz (p0:List Int) (i1:Int):Option (Int×(List Int)×Int×Bool) :=
 (cond (decide (i1<0)) (some true) (some (decide (i1>(oT ((p0.length:Int)-2)))))).bind λt18 =>
 cond t18
 (some (0,[],0,false))
 ((at? p0 (oT (i1+1))).bind λx22 =>
 cond (decide ((oT (x22))>=128))
 ((cond ((oT (x22)) != 129) (some true) (some (decide ((oT (i1+2))>=(p0.length:Int))))).bind λt36 =>
 (cond t36
 (some true)
 ((at? p0 (oT (i1+2))).bind λx40 =>
 some (decide (x40<128)))).bind λt43 =>
 cond t43
 (some (0,[],0,false))
 ((at? p0 (oT (i1+2))).bind λx46 =>
 (cond (decide ((oT (x46))>250))
 (some true)
 (some (decide ((oT (x46))>(oT ((p0.length:Int)-(oT ((oT (i1+2))+1)))))))).bind λt60 =>
 cond t60
 (some (0,[],0,false))
 ((at? p0 i1).bind λx63 =>
 (cut p0 (oT ((oT (i1+2))+1)) (oT ((oT ((oT (i1+2))+1))+(oT (x46))))).bind λt71 =>
 (ay t71).bind λt72 =>
 let t6:=oT ((oT ((oT (i1+2))+1))+(oT (x46)))
 some (oT (x63),t72,t6,true))))
 ((cond (decide ((oT (x22))>250))
 (some true)
 (some (decide ((oT (x22))>(oT ((p0.length:Int)-(oT (i1+2)))))))).bind λt60_1 =>
 cond t60_1
 (some (0,[],0,false))
 ((at? p0 i1).bind λx63_1 =>
 (cut p0 (oT (i1+2)) (oT ((oT (i1+2))+(oT (x22))))).bind λt71_1 =>
 (ay t71_1).bind λt72_1 =>
 let t6_1:=oT ((oT (i1+2))+(oT (x22)))
 some (oT (x63_1),t72_1,t6_1,true))))
def jx:FL:=(316,⟨[.val false rQ false,.val false p4 false],[.val false p4 (some true),.val false rQ (some true),.val false p4 (some true),.val false pN (some true)],λa=>cz a.1 a.2⟩)::jw
theorem oo:Gd jx:=p7 om 316 Tryz.f316 [] Tryz.func316
def bK (r0:zj) (tag1:Int):Option (zj×List Int) :=
 (cz r0.1 r0.2.1).bind λt18 =>
 (cond r0.2.2 (some true) (some (!t18.2.2.2))).bind λt30 =>
 (cond t30 (some true) (some (t18.1 != tag1))).bind λt35 =>
 cond t35
 (some ((r0.1,r0.2.1,true),[]))
 (some ((r0.1,t18.2.2.1,r0.2.2),t18.2.1))
def jy:FL:=(318,⟨[.ptr wl none,.val false p4 false],[.val false rQ (some true)],λa=>bK a.1 a.2⟩)::jx
theorem oq:Gd jy:=p7 oo 318 Tryz.f318 [] Tryz.func318
def ot (n0_1:Int) (k3:Int):Option (Int⊕Int) :=
 (cond (decide (k3<4))
 ((shl .i64 (-1) (oT ((oT (8*k3))-1))).bind λt16 =>
 (shl .i64 1 (oT ((oT (8*k3))-1))).bind λt20 =>
 (a6 n0_1 t16 (oT (t20-1))).bind λt22 =>
 some (!t22))
 (some false)).bind λt24 =>
 cond t24 (some (.inl (oT (k3+1)))) (some (.inr k3))
def ou (n0_1:Int) (i5:Int) (out4:List Int):Option ((Int×List Int)⊕(List Int)) :=
 cond (decide (i5>=0))
 ((shr .i64 n0_1 (oT (8*i5))).bind λt37 =>
 (pL out4 [IntKind.u8.wrap (t37)]).bind λzs40 =>
 some (.inl (oT (i5-1),zs40)))
 (some (.inr out4))
def dJ (n0:Int):Option (List Int) :=
 let n0_1:=max2 (-2147483648) (min2 n0 2147483647)
 (loop (λz=>ot n0_1 z) 1).bind λd =>
 (loop (λz=>ou n0_1 z.1 z.2) (oT (d-1),[])).bind λd_1 =>
 some d_1
def jz:FL:=(293,⟨[.val false p4 false],[.val false rQ (some true)],λa=>dJ a⟩)::jy
theorem ov:Gd jz:=p7 oq 293 Tryz.f293 [(0,⟨⟨(3,false,[dI])::us 12 12 [],[]⟩,
 ⟨[(3,false,[dI])],[]⟩,none⟩),
 (2,⟨⟨[(4,false,[.own 1000002000]),(5,false,[dI])],[(1000002000,.root (.one (.int .u8)) true)]⟩,
 ⟨[(4,false,[.own 1000002300])],[(1000002300,.root (.one (.int .u8)) true)]⟩,none⟩)] Tryz.func293
def ow (t17:List Int) (n4_1:Int) (t19:Int):Option ((Int×Int)⊕Int) :=
 cond (decide (t19<(t17.length:Int)))
 ((at? t17 t19).bind λx21 =>
 let n4_2:=Aa .i64 (oT (n4_1*2^8)) (oT (x21))
 some (.inl (n4_2,oT (t19+1))))
 (some (.inr n4_1))
def eF (b0:List Int):Option (Int×Bool) :=
 (a6 (b0.length:Int) 1 4).bind λt9 =>
 cond (!t9)
 (some (0,false))
 ((at? b0 0).bind λx12 =>
 let n4:=oT (IntKind.i8.wrap (x12))
 (cut b0 1 (b0.length:Int)).bind λt17 =>
 (loop (λz=>ow t17 z.1 z.2) (n4,0)).bind λd =>
 (dJ d).bind λt30 =>
 cond ((t30.length:Int) != (b0.length:Int)) (some (0,false)) (some (d,true)))
def jA:FL:=(350,⟨[.val false rQ false],[.val false p4 (some true),.val false pN (some true)],λa=>eF a⟩)::jz
theorem ox:Gd jA:=p7 ov 350 Tryz.f350 [(0,⟨⟨[(4,false,[dI]),(19,false,[dI])],[]⟩,
 ⟨[(4,false,[dI])],[]⟩,none⟩)] Tryz.func350
def cA (r0:zj) (tag1:Int):Option (zj×Int) :=
 (bK r0 tag1).bind λt10 =>
 (eF t10.2).bind λt11 =>
 (cond t10.1.2.2 (some true) (some (!t11.2))).bind λt22 =>
 some ((t10.1.1,t10.1.2.1,t22),t11.1)
def jC:FL:=(317,⟨[.ptr wl none,.val false p4 false],[.val false p4 (some true)],λa=>cA a.1 a.2⟩)::jA
theorem oy:Gd jC:=p7 ox 317 Tryz.f317 [] Tryz.func317
def cB (tag0:Int) (body1:List Int):Option ((List Int)×Bool) :=
 (a6 tag0 0 255).bind λt8 =>
 (cond (!t8) (some true) (some (decide ((body1.length:Int)>250)))).bind λt14 =>
 cond t14
 (some ([],false))
 (cond (decide ((body1.length:Int)>=128))
 ((pL [IntKind.u8.wrap (tag0)] ([129]:List Int)).bind λzs23 =>
 (pL zs23 [IntKind.u8.wrap ((body1.length:Int))]).bind λzs29 =>
 (pL zs29 body1).bind λzs31 =>
 some (zs31,true))
 ((pL [IntKind.u8.wrap (tag0)] [IntKind.u8.wrap ((body1.length:Int))]).bind λzs29_1 =>
 (pL zs29_1 body1).bind λzs31_1 =>
 some (zs31_1,true)))
def jD:FL:=(182,⟨[.val false p4 false,.val false rQ false],[.val false rQ (some true),.val false pN (some true)],λa=>cB a.1 a.2⟩)::jC
theorem oz:Gd jD:=p7 oy 182 Tryz.f182 [] Tryz.func182
def bj (b0:List Int) (tag1:Int) (body2:List Int):Option (List Int) :=
 (cB tag1 body2).bind λt12 =>
 (ay b0).bind λt16 =>
 (pL t16 t12.1).bind λzs18 =>
 some zs18
def jE:FL:=(184,⟨[.val false rQ false,.val false p4 false,.val false rQ false],[.val false rQ (some true)],λa=>bj a.1 a.2.1 a.2.2⟩)::jD
theorem oA:Gd jE:=p7 oz 184 Tryz.f184 [] Tryz.func184
def oC (x14:Int) (k6:Int):Option (Int⊕Int) :=
 (shr .i64 x14 (oT (7*k6))).bind λt19 =>
 cond (decide (t19>127)) (some (.inl (oT (k6+1)))) (some (.inr k6))
def oD (x14:Int) (k6_2:Int) (out3_1:List Int):Option ((Int×List Int)⊕(List Int)) :=
 cond (decide (k6_2>0))
 ((shr .i64 x14 (oT (7*k6_2))).bind λt31 =>
 (pL out3_1 [IntKind.u8.wrap (oT ((rb .i64 t31 127)+128))]).bind λzs36 =>
 some (.inl (oT (k6_2-1),zs36)))
 (some (.inr out3_1))
def oE (o0:List Int) (t12:Int) (out3:List Int):Option ((Int×List Int)⊕(List Int)) :=
 cond (decide (t12<(o0.length:Int)))
 ((at? o0 t12).bind λx14 =>
 (loop (λz=>oC x14 z) 0).bind λd =>
 (loop (λz=>oD x14 z.1 z.2) (d,out3)).bind λd_1 =>
 (pL d_1 [IntKind.u8.wrap (rb .i64 x14 127)]).bind λzs42 =>
 some (.inl (oT (t12+1),zs42)))
 (some (.inr out3))
def dK (o0:List Int):Option (List Int) :=
 (ah o0).bind λt8 =>
 cond (!t8)
 (some [])
 ((loop (λz=>oE o0 z.1 z.2) (0,[])).bind λd_2 =>
 some d_2)
def jF:FL:=(185,⟨[.val false rC false],[.val false rQ (some true)],λa=>dK a⟩)::jE
theorem oF:Gd jF:=p7 oA 185 Tryz.f185 [(0,⟨⟨[(3,false,[.own 1000000000]),(12,false,[dI])],[(1000000000,.root (.one (.int .u8)) true)]⟩,
 ⟨[(3,false,[.own 1000000300])],[(1000000300,.root (.one (.int .u8)) true)]⟩,none⟩),
 (2,⟨⟨[(6,false,[dI])],[]⟩,
 ⟨[(6,false,[dI])],[]⟩,none⟩),
 (4,⟨⟨[(3,false,[.own 1000004000]),(6,false,[dI])],[(1000004000,.root (.one (.int .u8)) true)]⟩,
 ⟨[(3,false,[.own 1000004300])],[(1000004300,.root (.one (.int .u8)) true)]⟩,none⟩)] Tryz.func185
def jG (b0:List Int) (v1:ub):Option (List Int) :=
 (ac v1).bind λt7 =>
 cond (!t7)
 ((ay b0).bind λt10 =>
 some t10)
 (cond (v1.1==2)
 ((dJ v1.2.1).bind λt17 =>
 (bj b0 v1.1 t17).bind λt32 =>
 some t32)
 (cond (v1.1==4)
 ((bj b0 v1.1 (uy v1.2.2.1)).bind λt32_1 =>
 some t32_1)
 (cond (v1.1==6)
 ((dK v1.2.2.2).bind λt27 =>
 (bj b0 v1.1 t27).bind λt32_2 =>
 some t32_2)
 ((bj b0 v1.1 []).bind λt32_3 =>
 some t32_3))))
def jH:FL:=(183,⟨[.val false rQ false,.val true uN false],[.val false rQ (some true)],λa=>jG a.1 a.2⟩)::jF
theorem oG:Gd jH:=p7 oF 183 Tryz.f183 [] Tryz.func183
def dL (out0:List Int) (tag1:Int) (n2:Int):Option (List Int) :=
 (dJ n2).bind λt10 =>
 (bj out0 tag1 t10).bind λt11 =>
 some t11
def jI:FL:=(186,⟨[.val false rQ false,.val false p4 false,.val false p4 false],[.val false rQ (some true)],λa=>dL a.1 a.2.1 a.2.2⟩)::jH
theorem oH:Gd jI:=p7 oG 186 Tryz.f186 [] Tryz.func186
def oI (p0:ra) (t18:Int) (t3:List Int):Option ((Int×List Int)⊕((List Int)⊕(List Int))) :=
 cond (decide (t18<(p0.2.2.2.2.length:Int)))
 ((at? p0.2.2.2.2 t18).bind λx20 =>
 (dK x20.1).bind λt25 =>
 (bj [] 6 t25).bind λt26 =>
 (jG t26 x20.2).bind λt29 =>
 (cB 48 t29).bind λt30 =>
 cond (!t30.2)
 (some (.inr (.inr [])))
 ((pL t3 t30.1).bind λzs37 =>
 some (.inl (oT (t18+1),zs37))))
 (some (.inr (.inl t3)))
def dN (p0:ra):Option (List Int) :=
 (cE p0).bind λt13 =>
 cond (!t13)
 (some [])
 ((loop (λz=>oI p0 z.1 z.2) (0,[])).bind (Sum.elim (λd =>
 (cB 48 d).bind λt41 =>
 cond (!t41.2)
 (some [])
 ((dL [] 2 p0.2.1).bind λt51 =>
 (dL t51 2 p0.2.2.1).bind λt54 =>
 (dL t54 2 p0.2.2.2.1).bind λt57 =>
 (pL t57 t41.1).bind λzs59 =>
 (cB p0.1 zs59).bind λt60 =>
 cond (!t60.2) (some []) (some t60.1))) (λr=>some r)))
def jJ:FL:=(94,⟨[.val true u5 false],[.val false rQ (some true)],λa=>dN a⟩)::jI
theorem oJ:Gd jJ:=p7 oH 94 Tryz.f94 [(0,⟨⟨[(3,false,[.own 1000000000]),(18,false,[dI])],[(1000000000,.root (.one (.int .u8)) true)]⟩,
 ⟨[(3,false,[.own 1000000300])],[(1000000300,.root (.one (.int .u8)) true)]⟩,some ⟨[(2,false,[.own 1000000600])],[(1000000600,.root (.one (.int .u8)) true)]⟩⟩)] Tryz.func94
def jK (r0:zj):Option (zj×Bool) :=
 (cond (!r0.2.2) (some (r0.2.1==(r0.1.length:Int))) (some false)).bind λt19 =>
 some (r0,t19)
def jL:FL:=(351,⟨[.ptr wl none],[.val false pN (some true)],λa=>jK a⟩)::jJ
theorem oK:Gd jL:=p7 oJ 351 Tryz.f351 [] Tryz.func351
def oL (b0:List Int) (n5:Int) (t11:Int) (out4:List Int):Option ((Int×Int×List Int)⊕((List Int)⊕(Bool×List Int))) :=
 cond (decide (t11<(b0.length:Int)))
 ((at? b0 t11).bind λx14 =>
 cond (decide (t11>=40))
 (some (.inr (.inr (false,[]))))
 (let n5_1:=Aa .i64 (oT ((min2 n5 1048576)*2^7)) (oT (rb .u8 x14 127))
 cond (decide (x14<128))
 ((pL out4 [n5_1]).bind λzs30 =>
 some (.inl (0,oT (t11+1),zs30)))
 (some (.inl (n5_1,oT (t11+1),out4)))))
 (some (.inr (.inl out4)))
def eG (b0:List Int):Option ((List Int)×Bool) :=
 (loop (λz=>oL b0 z.1 z.2.1 z.2.2) (0,0,[])).bind (Sum.elim (λd =>
 (dK d).bind λt33 =>
 (cond ((t33.length:Int)==0) (some true) (some (!((tb t33)==(tb b0))))).bind λt43 =>
 cond t43 (some ([],false)) (some (d,true))) (λr=>some (r.2,r.1)))
def jM:FL:=(366,⟨[.val false rQ false],[.val false rC (some true),.val false pN (some true)],λa=>eG a⟩)::jL
theorem oM:Gd jM:=p7 oK 366 Tryz.f366 [(0,⟨⟨[(4,false,[.own 1000000000]),(5,false,[dI]),(11,false,[dI])],[(1000000000,.root p4 true)]⟩,
 ⟨[(4,false,[.own 1000000300])],[(1000000300,.root p4 true)]⟩,some ⟨[(2,false,[.own 1000000600]),(3,false,[dB])],[(1000000600,.root p4 true)]⟩⟩)] Tryz.func366
def jN (b0:List Int) (at1:Int):Option (ub×Int×Bool) :=
 (cz b0 at1).bind λt15 =>
 cond (!t15.2.2.2)
 (some ((0,0,[],[]),0,false))
 (cond (t15.1==2)
 ((eF t15.2.1).bind λt33 =>
 (cond (!t33.2)
 (some true)
 ((ac (t15.1,t33.1,[],[])).bind λt54 =>
 some (!t54))).bind λt56 =>
 cond t56
 (some ((0,0,[],[]),0,false))
 (some ((t15.1,t33.1,[],[]),t15.2.2.1,true)))
 (cond (t15.1==4)
 ((cond (!t15.2.2.2)
 (some true)
 ((ac (t15.1,0,tb t15.2.1,[])).bind λt54_1 =>
 some (!t54_1))).bind λt56_1 =>
 cond t56_1
 (some ((0,0,[],[]),0,false))
 (some ((t15.1,0,tb t15.2.1,[]),t15.2.2.1,true)))
 (cond (t15.1==6)
 ((eG t15.2.1).bind λt46 =>
 (cond (!t46.2)
 (some true)
 ((ac (t15.1,0,[],t46.1)).bind λt54_2 =>
 some (!t54_2))).bind λt56_2 =>
 cond t56_2
 (some ((0,0,[],[]),0,false))
 (some ((t15.1,0,[],t46.1),t15.2.2.1,true)))
 (let ok10:=(t15.2.1.length:Int)==0
 (cond (!ok10)
 (some true)
 ((ac (t15.1,0,[],[])).bind λt54_3 =>
 some (!t54_3))).bind λt56_3 =>
 cond t56_3
 (some ((0,0,[],[]),0,false))
 (some ((t15.1,0,[],[]),t15.2.2.1,true))))))
def jO:FL:=(367,⟨[.val false rQ false,.val false p4 false],[.val true uN (some true),.val false p4 (some true),.val false pN (some true)],λa=>jN a.1 a.2⟩)::jM
theorem oN:Gd jO:=p7 oM 367 Tryz.f367 [] Tryz.func367
def jQ (b0:List Int):Option (pc×Bool) :=
 (bK (b0,0,false) 6).bind λt15 =>
 (eG t15.2).bind λt16 =>
 (jN b0 t15.1.2.1).bind λt25 =>
 (cond t15.1.2.2 (some true) (some (!t16.2))).bind λt36 =>
 (cond t36 (some true) (some (!t25.2.2))).bind λt40 =>
 (cond t40 (some true) (some (t25.2.1 != (b0.length:Int)))).bind λt46 =>
 cond t46
 (some (([],0,0,[],[]),false))
 (some ((t16.1,t25.1.1,t25.1.2.1,t25.1.2.2.1,t25.1.2.2.2),true))
def jR:FL:=(352,⟨[.val false rQ false],[.val true pE (some true),.val false pN (some true)],λa=>jQ a⟩)::jO
theorem oO:Gd jR:=p7 oN 352 Tryz.f352 [] Tryz.func352
def oP (b0:Int) (b1:Int) (b2:Int) (b3:Int) (b0_1:Int) (b1_1:Int) (b2_1:Int) (b3_1:Int) (b0_2:List Int) (b1_2:Int) (b2_2:Bool) (b4:List pc) (b4_1:List pc):Option ((Int×Int×Int×Int×Int×Int×Int×Int×List Int×Int×Bool×List pc×List pc)⊕((Int×Int×Int×Int×Int×Int×Int×Int×List Int×Int×Bool×List pc×List pc)⊕(Bool×Int×Int×Int×Int×List pc))) :=
 cond (decide (b1_2<(b0_2.length:Int)))
 ((bK (b0_2,b1_2,b2_2) 48).bind λt64 =>
 (jQ t64.2).bind λt65 =>
 (cond (!t65.2) (some true) (some (decide ((b4_1.length:Int)>=10)))).bind λt75 =>
 cond t75
 (some (.inr (.inr (false,0,0,0,0,[]))))
 ((pL b4_1 [t65.1]).bind λzs81 =>
 some (.inl (b0,b1,b2,b3,b0_1,b1_1,b2_1,b3_1,t64.1.1,t64.1.2.1,t64.1.2.2,b4,zs81))))
 (some (.inr (.inl (b0,b1,b2,b3,b0_1,b1_1,b2_1,b3_1,b0_2,b1_2,b2_2,b4,b4_1))))
def jS (p0:List Int):Option (ra×Bool) :=
 (cz p0 0).bind λt16 =>
 (cond (!t16.2.2.2) (some true) (some (t16.2.2.1 != (p0.length:Int)))).bind λt28 =>
 cond t28
 (some ((0,0,0,0,[]),false))
 ((cA (t16.2.1,0,false) 2).bind λt36 =>
 (cA t36.1 2).bind λt39 =>
 (cA t39.1 2).bind λt42 =>
 (bK t42.1 48).bind λt45 =>
 (jK t45.1).bind λt49 =>
 cond (!t49.2)
 (some ((0,0,0,0,[]),false))
 ((loop (λz=>oP z.1 z.2.1 z.2.2.1 z.2.2.2.1 z.2.2.2.2.1 z.2.2.2.2.2.1 z.2.2.2.2.2.2.1 z.2.2.2.2.2.2.2.1 z.2.2.2.2.2.2.2.2.1 z.2.2.2.2.2.2.2.2.2.1 z.2.2.2.2.2.2.2.2.2.2.1 z.2.2.2.2.2.2.2.2.2.2.2.1 z.2.2.2.2.2.2.2.2.2.2.2.2) (0,0,0,0,t16.1,t36.2,t39.2,t42.2,t45.2,0,false,[],[])).bind (Sum.elim (λd =>
 (dN (d.2.2.2.2.1,d.2.2.2.2.2.1,d.2.2.2.2.2.2.1,d.2.2.2.2.2.2.2.1,d.2.2.2.2.2.2.2.2.2.2.2.2)).bind λt84 =>
 (cond ((t84.length:Int)==0) (some true) (some (!((tb t84)==(tb p0))))).bind λt94 =>
 cond t94
 (some ((0,0,0,0,[]),false))
 (some ((d.2.2.2.2.1,d.2.2.2.2.2.1,d.2.2.2.2.2.2.1,d.2.2.2.2.2.2.2.1,d.2.2.2.2.2.2.2.2.2.2.2.2),true))) (λr=>some (r.2,r.1)))))
def jT:FL:=(319,⟨[.val false rQ false],[.val true u5 (some true),.val false pN (some true)],λa=>jS a⟩)::jR
theorem oQ:Gd jT:=p7 oO 319 Tryz.f319 [(0,⟨⟨us 71 4 [],[(1024,.box [dI,dI,dI,dI,.own 1000000000]),(1051648,.box [dI,dI,dI,dI,.own 1000000001]),(2363392,.box [.dat (.sl (.one (.int .u8))),dI,dB]),(1000000000,.root pE true),(1000000001,.root pE true)]⟩,
 ⟨[],[(1024,.box [dI,dI,dI,dI,.own 1000000300]),(1051648,.box [dI,dI,dI,dI,.own 1000000301]),(2363392,.box [.dat (.sl (.one (.int .u8))),dI,dB]),(1000000300,.root pE true),(1000000301,.root pE true)]⟩,some ⟨[(3,false,[dB])],[(1024,.box [dI,dI,dI,dI,.own 1000000600]),(1000000600,.root pE true)]⟩⟩)] Tryz.func319
def eK (p0:List UInt8) (i1:List Int):Option (ra×Int) :=
 (cz i1 0).bind λt17 =>
 (cond (!t17.2.2.2) (some true) (some (t17.1 != 48))).bind λt27 =>
 (cond t27 (some true) (some (t17.2.2.1 != (i1.length:Int)))).bind λt33 =>
 cond t33
 (some ((0,0,0,0,[]),1))
 ((cA (t17.2.1,0,false) 2).bind λt39 =>
 (bK t39.1 4).bind λt41 =>
 cond t41.1.2.2
 (some ((0,0,0,0,[]),1))
 (cond (t39.2 != 1)
 (some ((0,0,0,0,[]),2))
 (cond (!((tb t41.2)==p0))
 (some ((0,0,0,0,[]),3))
 ((cut t17.2.1 t41.1.2.1 (t17.2.1.length:Int)).bind λt64 =>
 (jS t64).bind λt65 =>
 cond (!t65.2) (some ((0,0,0,0,[]),1)) (some (t65.1,0))))))
def jU:FL:=(236,⟨[.val false Jx false,.val false rQ false],[.val true u5 (some true),.val false p4 (some true)],λa=>eK a.1 a.2⟩)::jT
theorem oR:Gd jU:=p7 oQ 236 Tryz.f236 [] Tryz.func236
def bm (a0:qe) (k1:Int):Option qe :=
 (A9 a0.2.2.2.2.2.2.2.2.2.2.2.2.1.length 0 k1).bind λp =>
 (A9 a0.2.2.2.2.2.2.2.2.2.2.2.2.1.length (oT (k1+1)) (a0.2.2.2.2.2.2.2.2.2.2.2.2.1.length:Int)).bind λp_1 =>
 (C2 a0.2.2.2.2.2.2.2.2.2.2.2.2.1 p.1 p.2 p_1.1 p_1.2).bind λzs18 =>
 some (a0.1,a0.2.1,a0.2.2.1,a0.2.2.2.1,a0.2.2.2.2.1,a0.2.2.2.2.2.1,a0.2.2.2.2.2.2.1,a0.2.2.2.2.2.2.2.1,a0.2.2.2.2.2.2.2.2.1,a0.2.2.2.2.2.2.2.2.2.1,a0.2.2.2.2.2.2.2.2.2.2.1,a0.2.2.2.2.2.2.2.2.2.2.2.1,zs18,a0.2.2.2.2.2.2.2.2.2.2.2.2.2.1,a0.2.2.2.2.2.2.2.2.2.2.2.2.2.2)
def eI:FL:=(313,⟨[.ptr sO (some true),.val false p4 false],[],λa=>bm a.1 a.2⟩)::jU
theorem jW:Gd eI:=p7 oR 313 Tryz.f313 [] Tryz.func313
def dM (a0:qe) (k1:Int):Option qe :=
 (ix a0.2.2.2.2.2.2.2.2.2.2.2.2.1.length k1).bind λj10 =>
 (a8 (a0.1,a0.2.1,a0.2.2.1,a0.2.2.2.1,a0.2.2.2.2.1,a0.2.2.2.2.2.1,a0.2.2.2.2.2.2.1,a0.2.2.2.2.2.2.2.1,a0.2.2.2.2.2.2.2.2.1,a0.2.2.2.2.2.2.2.2.2.1,a0.2.2.2.2.2.2.2.2.2.2.1)).bind λt18 =>
 (a0.2.2.2.2.2.2.2.2.2.2.2.2.1[j10]?).bind λx =>
 ((a0.2.2.2.2.2.2.2.2.2.2.2.2.1.set j10 (x.1,x.2.1,1,x.2.2.2.1,x.2.2.2.2.1,x.2.2.2.2.2.1,x.2.2.2.2.2.2.1,x.2.2.2.2.2.2.2.1,x.2.2.2.2.2.2.2.2.1,x.2.2.2.2.2.2.2.2.2.1,x.2.2.2.2.2.2.2.2.2.2.1,x.2.2.2.2.2.2.2.2.2.2.2.1,x.2.2.2.2.2.2.2.2.2.2.2.2.1,x.2.2.2.2.2.2.2.2.2.2.2.2.2.1,x.2.2.2.2.2.2.2.2.2.2.2.2.2.2.1,x.2.2.2.2.2.2.2.2.2.2.2.2.2.2.2.1,x.2.2.2.2.2.2.2.2.2.2.2.2.2.2.2.2.1,x.2.2.2.2.2.2.2.2.2.2.2.2.2.2.2.2.2.1,x.2.2.2.2.2.2.2.2.2.2.2.2.2.2.2.2.2.2.1,x.2.2.2.2.2.2.2.2.2.2.2.2.2.2.2.2.2.2.2.1,x.2.2.2.2.2.2.2.2.2.2.2.2.2.2.2.2.2.2.2.2))[j10]?).bind λx_1 =>
 (((a0.2.2.2.2.2.2.2.2.2.2.2.2.1.set j10 (x.1,x.2.1,1,x.2.2.2.1,x.2.2.2.2.1,x.2.2.2.2.2.1,x.2.2.2.2.2.2.1,x.2.2.2.2.2.2.2.1,x.2.2.2.2.2.2.2.2.1,x.2.2.2.2.2.2.2.2.2.1,x.2.2.2.2.2.2.2.2.2.2.1,x.2.2.2.2.2.2.2.2.2.2.2.1,x.2.2.2.2.2.2.2.2.2.2.2.2.1,x.2.2.2.2.2.2.2.2.2.2.2.2.2.1,x.2.2.2.2.2.2.2.2.2.2.2.2.2.2.1,x.2.2.2.2.2.2.2.2.2.2.2.2.2.2.2.1,x.2.2.2.2.2.2.2.2.2.2.2.2.2.2.2.2.1,x.2.2.2.2.2.2.2.2.2.2.2.2.2.2.2.2.2.1,x.2.2.2.2.2.2.2.2.2.2.2.2.2.2.2.2.2.2.1,x.2.2.2.2.2.2.2.2.2.2.2.2.2.2.2.2.2.2.2.1,x.2.2.2.2.2.2.2.2.2.2.2.2.2.2.2.2.2.2.2.2)).set j10 (x_1.1,x_1.2.1,x_1.2.2.1,x_1.2.2.2.1,x_1.2.2.2.2.1,x_1.2.2.2.2.2.1,x_1.2.2.2.2.2.2.1,x_1.2.2.2.2.2.2.2.1,x_1.2.2.2.2.2.2.2.2.1,x_1.2.2.2.2.2.2.2.2.2.1,x_1.2.2.2.2.2.2.2.2.2.2.1,x_1.2.2.2.2.2.2.2.2.2.2.2.1,x_1.2.2.2.2.2.2.2.2.2.2.2.2.1,x_1.2.2.2.2.2.2.2.2.2.2.2.2.2.1,x_1.2.2.2.2.2.2.2.2.2.2.2.2.2.2.1,x_1.2.2.2.2.2.2.2.2.2.2.2.2.2.2.2.1,x_1.2.2.2.2.2.2.2.2.2.2.2.2.2.2.2.2.1,x_1.2.2.2.2.2.2.2.2.2.2.2.2.2.2.2.2.2.1,x_1.2.2.2.2.2.2.2.2.2.2.2.2.2.2.2.2.2.2.1,0,x_1.2.2.2.2.2.2.2.2.2.2.2.2.2.2.2.2.2.2.2.2))[j10]?).bind λx_2 =>
 some (a0.1,a0.2.1,a0.2.2.1,a0.2.2.2.1,a0.2.2.2.2.1,a0.2.2.2.2.2.1,a0.2.2.2.2.2.2.1,a0.2.2.2.2.2.2.2.1,a0.2.2.2.2.2.2.2.2.1,a0.2.2.2.2.2.2.2.2.2.1,a0.2.2.2.2.2.2.2.2.2.2.1,a0.2.2.2.2.2.2.2.2.2.2.2.1,((a0.2.2.2.2.2.2.2.2.2.2.2.2.1.set j10 (x.1,x.2.1,1,x.2.2.2.1,x.2.2.2.2.1,x.2.2.2.2.2.1,x.2.2.2.2.2.2.1,x.2.2.2.2.2.2.2.1,x.2.2.2.2.2.2.2.2.1,x.2.2.2.2.2.2.2.2.2.1,x.2.2.2.2.2.2.2.2.2.2.1,x.2.2.2.2.2.2.2.2.2.2.2.1,x.2.2.2.2.2.2.2.2.2.2.2.2.1,x.2.2.2.2.2.2.2.2.2.2.2.2.2.1,x.2.2.2.2.2.2.2.2.2.2.2.2.2.2.1,x.2.2.2.2.2.2.2.2.2.2.2.2.2.2.2.1,x.2.2.2.2.2.2.2.2.2.2.2.2.2.2.2.2.1,x.2.2.2.2.2.2.2.2.2.2.2.2.2.2.2.2.2.1,x.2.2.2.2.2.2.2.2.2.2.2.2.2.2.2.2.2.2.1,x.2.2.2.2.2.2.2.2.2.2.2.2.2.2.2.2.2.2.2.1,x.2.2.2.2.2.2.2.2.2.2.2.2.2.2.2.2.2.2.2.2)).set j10 (x_1.1,x_1.2.1,x_1.2.2.1,x_1.2.2.2.1,x_1.2.2.2.2.1,x_1.2.2.2.2.2.1,x_1.2.2.2.2.2.2.1,x_1.2.2.2.2.2.2.2.1,x_1.2.2.2.2.2.2.2.2.1,x_1.2.2.2.2.2.2.2.2.2.1,x_1.2.2.2.2.2.2.2.2.2.2.1,x_1.2.2.2.2.2.2.2.2.2.2.2.1,x_1.2.2.2.2.2.2.2.2.2.2.2.2.1,x_1.2.2.2.2.2.2.2.2.2.2.2.2.2.1,x_1.2.2.2.2.2.2.2.2.2.2.2.2.2.2.1,x_1.2.2.2.2.2.2.2.2.2.2.2.2.2.2.2.1,x_1.2.2.2.2.2.2.2.2.2.2.2.2.2.2.2.2.1,x_1.2.2.2.2.2.2.2.2.2.2.2.2.2.2.2.2.2.1,x_1.2.2.2.2.2.2.2.2.2.2.2.2.2.2.2.2.2.2.1,0,x_1.2.2.2.2.2.2.2.2.2.2.2.2.2.2.2.2.2.2.2.2)).set j10 (x_2.1,x_2.2.1,x_2.2.2.1,x_2.2.2.2.1,x_2.2.2.2.2.1,x_2.2.2.2.2.2.1,x_2.2.2.2.2.2.2.1,x_2.2.2.2.2.2.2.2.1,t18.1,t18.2.1,t18.2.2.1,t18.2.2.2.1,t18.2.2.2.2.1,t18.2.2.2.2.2.1,t18.2.2.2.2.2.2.1,t18.2.2.2.2.2.2.2.1,t18.2.2.2.2.2.2.2.2.1,t18.2.2.2.2.2.2.2.2.2.1,t18.2.2.2.2.2.2.2.2.2.2,x_2.2.2.2.2.2.2.2.2.2.2.2.2.2.2.2.2.2.2.2.1,x_2.2.2.2.2.2.2.2.2.2.2.2.2.2.2.2.2.2.2.2.2),a0.2.2.2.2.2.2.2.2.2.2.2.2.2.1,a0.2.2.2.2.2.2.2.2.2.2.2.2.2.2)
end
end Go.V.W
