/- The law FnAgentsBent: part of the proof that for every input it returns true. No condition. -/
import Derived.Test.YtpidgkkbmlgehaaGreatV4
import Derived.Test.YtpidgkkbmlgehaaGreatProg
import Derived.Test.YtpidgkkbmlgehaaGreatChecked
import Derived.KernelRfl
set_option linter.unusedVariables false
set_option linter.unusedSimpArgs false
namespace Go.V.W
open Go.Proofs
noncomputable section
def us:Nat->Nat->List (Nat×Bool×List uP)->List (Nat×Bool×List uP)|_,0,l=>l|a,n+1,l=>(a,false,[.undef])::us (a+1) n l
@[reducible] def tu:Cs:=.one (.int .i64)
@[reducible] def uf:Cs:=.one .bool
@[reducible] def uG:Cs:=.one (.sl (.one (.int .u8)))
@[reducible] def vL:Cs:=.one (.sl (.one (.int .i64)))
@[reducible] def FO:Cs:=.one .str
@[reducible] def dI:uP:=.dat (.int .i64)
@[reducible] def dB:uP:=.dat .bool
@[reducible] def dS:uP:=.dat .str
@[reducible] def yr:Cs:=.cons (.int .i64) (.cons (.int .i64) (.cons (.int .i64) (.cons (.int .i64) tu)))
@[reducible] def vD:Cs:=.cons .bool (.cons (.int .i64) (.cons .bool (.cons (.int .i64) (.cons (.int .i64) (.cons (.int .i64) (.cons (.int .i64) tu))))))
@[reducible] def tT:Cs:=.cons (.int .i64) (.cons (.int .i64) (.cons (.int .i64) (.cons (.int .i64) uf)))
@[reducible] def uq:Cs:=.cons (.int .i64) (.cons (.int .i64) tu)
@[reducible] def vB:Cs:=.cons (.sl uq) vL
@[reducible] def tK:Cs:=.cons (.int .i64) (.cons .str (.cons (.sl vD) (.cons (.sl tT) (.cons (.sl uq) (.cons (.sl tu) (.cons (.int .i64) (.cons (.int .i64) (.cons (.int .i64) (.cons (.int .i64) tu)))))))))
@[reducible] def yd:Cs:=.cons (.int .i64) (.cons (.int .i64) (.cons .str vL))
@[reducible] def tG:Cs:=.cons (.sl tu) (.cons (.int .i64) (.cons (.int .i64) (.cons .str vL)))
@[reducible] def vk:Cs:=.cons (.int .i64) (.cons (.int .i64) (.cons (.int .i64) (.cons (.int .i64) (.one (.sl tG)))))
@[reducible] def ye:Cs:=.cons (.int .i64) (.cons (.sl (.one (.int .u8))) (.cons (.int .i64) (.cons (.int .i64) (.cons (.int .i64) (.cons (.int .i64) (.cons (.int .i64) (.cons (.sl tG) (.cons (.int .i64) (.cons .str (.cons (.sl vD) (.cons (.sl tT) (.cons (.sl uq) (.cons (.sl tu) (.cons (.int .i64) (.cons (.int .i64) (.cons (.int .i64) (.cons (.int .i64) (.cons (.int .i64) (.cons (.int .i64) tu)))))))))))))))))))
@[reducible] def ul:Cs:=.cons (.int .i64) (.cons .str (.cons (.sl vD) (.cons (.sl tT) (.cons (.sl uq) (.cons (.sl tu) (.cons (.int .i64) (.cons (.int .i64) (.cons (.int .i64) (.cons (.int .i64) (.cons (.int .i64) (.cons .str (.cons (.sl ye) (.cons (.int .i64) tu)))))))))))))
@[reducible] def A9:Cs:=.cons (.sl (.one (.int .u8))) (.cons (.int .i64) uf)
@[reducible] def xC:Cs:=.cons (.int .i64) (.cons (.int .i64) (.cons (.int .i64) (.cons (.int .i64) (.cons (.int .i64) (.one (.sl tG))))))
@[reducible] def uK:Cs:=.cons (.sl (.one (.int .u8))) (.cons (.int .i64) tu)
abbrev zN:Type:=Int×Int×Int×Int×Int
abbrev Pt:Type:=Bool×Int×Bool×Int×Int×Int×Int×Int
abbrev tk:Type:=Int×Int×Int×Int×Bool
abbrev tC:Type:=Int×Int×Int
abbrev uj:Type:=List tC×List Int
abbrev td:Type:=Int×List UInt8×List Pt×List tk×List tC×List Int×Int×Int×Int×Int×Int
abbrev wQ:Type:=Int×Int×List UInt8×List Int
abbrev tg:Type:=List Int×Int×Int×List UInt8×List Int
abbrev tQ:Type:=Int×Int×Int×Int×List tg
abbrev um:Type:=Int×List Int×Int×Int×Int×Int×Int×List tg×Int×List UInt8×List Pt×List tk×List tC×List Int×Int×Int×Int×Int×Int×Int×Int
abbrev tB:Type:=Int×List UInt8×List Pt×List tk×List tC×List Int×Int×Int×Int×Int×Int×List UInt8×List um×Int×Int
abbrev Aa:Type:=List Int×Int×Bool
abbrev v9:Type:=Int×Int×Int×Int×Int×List tg
abbrev tD:Type:=List Int×Int×Int
def tis:List (Nat×tX):=[(2,⟨false,.one (.int .i64),[],0⟩),
 (3,⟨false,.one (.int .i64),[],0⟩),
 (4,⟨false,.one .bool,[],0⟩),
 (5,⟨false,.one (.int .u8),[],0⟩),
 (6,⟨false,.one (.int .u8),[],0⟩),
 (9,⟨false,.one .str,[],0⟩),
 (10,⟨false,.one .str,[],0⟩),
 (11,⟨false,.one .str,[],0⟩),
 (12,⟨false,.one (.int .u64),[],0⟩),
 (21,⟨false,.one (.int .i32),[],0⟩),
 (22,⟨false,.one (.sl (.one (.int .u8))),[],5⟩),
 (24,⟨false,.one (.sl vD),[],131⟩),
 (25,⟨false,.one (.sl tT),[],133⟩),
 (26,⟨false,.one (.sl uq),[],219⟩),
 (27,⟨false,.one (.sl tu),[],3⟩),
 (28,⟨true,vB,[(26,0),(27,1)],0⟩),
 (29,⟨true,vB,[(26,0),(27,1)],0⟩),
 (30,⟨true,tK,[(3,0),(9,1),(24,2),(25,3),(29,4),(3,6),(3,7),(3,8),(3,9),(3,10)],0⟩),
 (31,⟨true,tK,[(3,0),(9,1),(24,2),(25,3),(29,4),(3,6),(3,7),(3,8),(3,9),(3,10)],0⟩),
 (32,⟨false,.one (.sl tG),[],46⟩),
 (33,⟨true,vk,[(3,0),(3,1),(3,2),(3,3),(32,4)],0⟩),
 (34,⟨true,vk,[(3,0),(3,1),(3,2),(3,3),(32,4)],0⟩),
 (43,⟨true,yd,[(3,0),(3,1),(9,2),(27,3)],0⟩),
 (44,⟨true,yd,[(3,0),(3,1),(9,2),(27,3)],0⟩),
 (45,⟨true,tG,[(27,0),(44,1)],0⟩),
 (46,⟨true,tG,[(27,0),(44,1)],0⟩),
 (51,⟨false,.one (.sl vD),[],241⟩),
 (52,⟨false,.one (.sl tT),[],243⟩),
 (53,⟨false,.one (.sl uq),[],308⟩),
 (54,⟨true,vB,[(53,0),(27,1)],0⟩),
 (55,⟨true,vB,[(53,0),(27,1)],0⟩),
 (56,⟨true,tK,[(3,0),(9,1),(51,2),(52,3),(55,4),(3,6),(3,7),(3,8),(3,9),(3,10)],0⟩),
 (57,⟨true,tK,[(3,0),(9,1),(51,2),(52,3),(55,4),(3,6),(3,7),(3,8),(3,9),(3,10)],0⟩),
 (58,⟨false,.one (.sl (.cons (.int .i64) (.cons (.int .i64) (.cons .bool (.cons (.sl (.one (.int .u8))) (.cons (.int .i64) (.cons (.int .i64) (.cons (.int .i64) (.cons (.sl (.one (.int .u8))) (.cons (.int .i64) (.cons (.int .i64) (.cons (.int .i64) (.cons (.int .i64) tu))))))))))))),[],152⟩),
 (63,⟨false,.one (.sl (.cons (.int .i64) (.cons (.int .i64) (.cons .bool (.cons (.sl (.one (.int .u8))) (.cons (.int .i64) (.cons (.int .i64) (.cons (.int .i64) (.cons (.sl (.one (.int .u8))) (.cons (.int .i64) (.cons (.int .i64) (.cons (.int .i64) (.cons (.int .i64) tu))))))))))))),[],101⟩),
 (69,⟨false,.one (.sl ye),[],174⟩),
 (70,⟨true,ul,[(31,0),(9,11),(69,12),(3,13),(3,14)],0⟩),
 (71,⟨true,ul,[(31,0),(9,11),(69,12),(3,13),(3,14)],0⟩),
 (75,⟨false,.one (.sl xC),[],81⟩),
 (80,⟨true,xC,[(3,0),(34,1)],0⟩),
 (81,⟨true,xC,[(3,0),(34,1)],0⟩),
 (92,⟨false,.one (.sl (.cons (.int .i64) (.cons (.int .i64) (.cons (.int .i64) (.cons (.int .i64) uG))))),[],190⟩),
 (96,⟨true,.cons (.int .i64) (.cons (.int .i64) (.cons (.int .i64) uG)),[(3,0),(3,1),(3,2),(22,3)],0⟩),
 (97,⟨true,.cons (.int .i64) (.cons (.int .i64) (.cons (.int .i64) uG)),[(3,0),(3,1),(3,2),(22,3)],0⟩),
 (98,⟨true,yr,[(3,0),(3,1),(3,2),(3,3),(3,4)],0⟩),
 (99,⟨true,yr,[(3,0),(3,1),(3,2),(3,3),(3,4)],0⟩),
 (100,⟨true,.cons (.int .i64) (.cons (.int .i64) (.cons .bool (.cons (.sl (.one (.int .u8))) (.cons (.int .i64) (.cons (.int .i64) (.cons (.int .i64) (.cons (.sl (.one (.int .u8))) (.cons (.int .i64) (.cons (.int .i64) (.cons (.int .i64) (.cons (.int .i64) tu))))))))))),[(3,0),(3,1),(4,2),(22,3),(97,4),(99,8)],0⟩),
 (101,⟨true,.cons (.int .i64) (.cons (.int .i64) (.cons .bool (.cons (.sl (.one (.int .u8))) (.cons (.int .i64) (.cons (.int .i64) (.cons (.int .i64) (.cons (.sl (.one (.int .u8))) (.cons (.int .i64) (.cons (.int .i64) (.cons (.int .i64) (.cons (.int .i64) tu))))))))))),[(3,0),(3,1),(4,2),(22,3),(97,4),(99,8)],0⟩),
 (108,⟨false,.one (.sl tG),[],284⟩),
 (109,⟨true,vk,[(3,0),(3,1),(3,2),(3,3),(108,4)],0⟩),
 (110,⟨true,vk,[(3,0),(3,1),(3,2),(3,3),(108,4)],0⟩),
 (130,⟨true,vD,[(4,0),(3,1),(4,2),(99,3)],0⟩),
 (131,⟨true,vD,[(4,0),(3,1),(4,2),(99,3)],0⟩),
 (132,⟨true,tT,[(3,0),(3,1),(3,2),(3,3),(4,4)],0⟩),
 (133,⟨true,tT,[(3,0),(3,1),(3,2),(3,3),(4,4)],0⟩),
 (149,⟨true,.cons (.int .i64) (.cons (.int .i64) (.cons (.int .i64) uG)),[(3,0),(3,1),(3,2),(22,3)],0⟩),
 (150,⟨true,yr,[(3,0),(3,1),(3,2),(3,3),(3,4)],0⟩),
 (151,⟨true,.cons (.int .i64) (.cons (.int .i64) (.cons .bool (.cons (.sl (.one (.int .u8))) (.cons (.int .i64) (.cons (.int .i64) (.cons (.int .i64) (.cons (.sl (.one (.int .u8))) (.cons (.int .i64) (.cons (.int .i64) (.cons (.int .i64) (.cons (.int .i64) tu))))))))))),[(3,0),(3,1),(4,2),(22,3),(149,4),(150,8)],0⟩),
 (152,⟨true,.cons (.int .i64) (.cons (.int .i64) (.cons .bool (.cons (.sl (.one (.int .u8))) (.cons (.int .i64) (.cons (.int .i64) (.cons (.int .i64) (.cons (.sl (.one (.int .u8))) (.cons (.int .i64) (.cons (.int .i64) (.cons (.int .i64) (.cons (.int .i64) tu))))))))))),[(3,0),(3,1),(4,2),(22,3),(149,4),(150,8)],0⟩),
 (173,⟨true,ye,[(3,0),(22,1),(3,2),(34,3),(31,8),(3,19),(3,20)],0⟩),
 (174,⟨true,ye,[(3,0),(22,1),(3,2),(34,3),(31,8),(3,19),(3,20)],0⟩),
 (185,⟨false,.one (.sl FO),[],9⟩),
 (189,⟨true,.cons (.int .i64) (.cons (.int .i64) (.cons (.int .i64) (.cons (.int .i64) uG))),[(3,0),(97,1)],0⟩),
 (190,⟨true,.cons (.int .i64) (.cons (.int .i64) (.cons (.int .i64) (.cons (.int .i64) uG))),[(3,0),(97,1)],0⟩),
 (201,⟨true,uK,[(22,0),(3,1),(3,2)],0⟩),
 (202,⟨true,uK,[(22,0),(3,1),(3,2)],0⟩),
 (214,⟨false,.one (.sl vL),[],27⟩),
 (218,⟨true,uq,[(3,0),(3,1),(3,2)],0⟩),
 (219,⟨true,uq,[(3,0),(3,1),(3,2)],0⟩),
 (240,⟨true,vD,[(4,0),(3,1),(4,2),(150,3)],0⟩),
 (241,⟨true,vD,[(4,0),(3,1),(4,2),(150,3)],0⟩),
 (243,⟨true,tT,[(3,0),(3,1),(3,2),(3,3),(4,4)],0⟩),
 (260,⟨true,A9,[(22,0),(3,1),(4,2)],0⟩),
 (261,⟨true,A9,[(22,0),(3,1),(4,2)],0⟩),
 (270,⟨false,.one (.int .u64),[],0⟩),
 (282,⟨true,yd,[(3,0),(3,1),(9,2),(27,3)],0⟩),
 (283,⟨true,tG,[(27,0),(282,1)],0⟩),
 (284,⟨true,tG,[(27,0),(282,1)],0⟩),
 (308,⟨true,uq,[(3,0),(3,1),(3,2)],0⟩),
 (313,⟨true,A9,[(22,0),(3,1),(4,2)],0⟩),
 (314,⟨true,A9,[(22,0),(3,1),(4,2)],0⟩),
 (343,⟨false,.one (.int .i8),[],0⟩),
 (351,⟨false,.one (.int .u32),[],0⟩),
 (352,⟨false,.one (.int .u8),[],0⟩),
 (353,⟨false,.one (.int .u8),[],0⟩),
 (356,⟨false,.one (.int .i32),[],0⟩),
 (357,⟨false,.one (.int .i32),[],0⟩)]
theorem tisT:vO Tryz.prog tis:=vO.of_all (by kernel_rfl)
theorem Rg:HL Tryz.prog tis:=HL.of_all (by kernel_rfl)
theorem tisD:Deep Tryz.prog tis:=Deep.of_all (by kernel_rfl)
theorem Qc:Tryz.prog.follows .mixedOrders=true:=by kernel_rfl
def FP (fn:Func):Code:=match fn.body with|some c=>c|none=>.skip
theorem qA:yF Tryz.prog ⟨tis,[],[],false⟩:=⟨tisT,Rg,(λf F h=>by cases h),(λf M h=>by cases h),(λh=>by cases h)⟩
theorem R3 {l : List (FuncId×Fn)} (g : yF Tryz.prog ⟨tis, l, [], false⟩) (n : FuncId) (f : Func) (ann : List (Nat×tA)) (F : Fn) (h1 : Tryz.prog.funcs[n]?=some f) (h2 : (f.name == "runtime.NumGoroutine")=false := by kernel_rfl) (h3 : f.body=some (FP f) := by kernel_rfl) (h4 : Fr ⟨tis, l, [], false⟩ ann f (FP f) F.ps F.rs=F.den := by kernel_rfl) : BX Tryz.prog n F := by
 have h:=Mr (ann:=ann) (ps:=F.ps) (rs:=F.rs) g Qc h1 h2 h3;rw[h4]at h;exact h
abbrev FL:=List (FuncId×Fn)
def Gd (l:FL):Prop:=yF Tryz.prog ⟨tis,l,[],false⟩
theorem tv {l : List (FuncId×Fn)} (g : Gd l) (n : FuncId) (f : Func) (ann : List (Nat×tA)) {F : Fn} (h1 : Tryz.prog.funcs[n]?=some f) (h2 : (f.name == "runtime.NumGoroutine")=false := by kernel_rfl) (h3 : f.body=some (FP f) := by kernel_rfl) (h4 : Fr ⟨tis, l, [], false⟩ ann f (FP f) F.ps F.rs=F.den := by kernel_rfl) : Gd ((n, F)::l) := yF.cons g (R3 g n f ann F h1 h2 h3 h4)
def iA (code0:List Int):Option Bool :=
 let t2:=decide ((code0.length:Int)>1048576)
 some t2
def lm:FL:=(11,⟨[.val false uG false],[.val false uf (some true)],λa=>iA a⟩)::[]
theorem qB:Gd lm:=tv qA 11 Tryz.f11 [] Tryz.func11
def ac (n0:Int) (low1:Int) (high2:Int):Option Bool :=
 (cond (decide (n0>=low1)) (some (decide (n0<=high2))) (some false)).bind λt14 =>
 some t14
def ln:FL:=(90,⟨[.val false tu false,.val false tu false,.val false tu false],[.val false uf (some true)],λa=>ac a.1 a.2.1 a.2.2⟩)::lm
theorem qC:Gd ln:=tv qB 90 Tryz.f90 [] Tryz.func90
def bt (n0:Int):Option Bool :=
 (ac n0 0 1000000).bind λt4 =>
 some t4
def lp:FL:=(134,⟨[.val false tu false],[.val false uf (some true)],λa=>bt a⟩)::ln
theorem qD:Gd lp:=tv qC 134 Tryz.f134 [] Tryz.func134
def cX (v0:zN):Option Bool :=
 (ac v0.1 1 99).bind λt5 =>
 (cond t5
 ((ac v0.2.1 0 100000).bind λt9 =>
 some t9)
 (some false)).bind λt10 =>
 (cond t10
 ((ac v0.2.2.1 0 10).bind λt14 =>
 some t14)
 (some false)).bind λt15 =>
 (cond t15
 ((ac v0.2.2.2.1 1 99).bind λt19 =>
 some t19)
 (some false)).bind λt20 =>
 (cond t20
 ((ac v0.2.2.2.2 0 7).bind λt24 =>
 some t24)
 (some false)).bind λt25 =>
 some t25
def lq:FL:=(275,⟨[.val true yr false],[.val false uf (some true)],λa=>cX a⟩)::lp
theorem qE:Gd lq:=tv qD 275 Tryz.f275 [] Tryz.func275
def ff (p0:Pt):Option Bool :=
 (ac p0.2.1 1 1000).bind λt5 =>
 (cond (!t5)
 (some true)
 ((cond p0.2.2.1 (some (!p0.1)) (some false)).bind λt14 =>
 some t14)).bind λt15 =>
 cond t15
 (some false)
 (cond p0.2.2.1
 ((cX p0.2.2.2).bind λt20 =>
 some t20)
 (let t2:=p0.2.2.2.1==0&&(p0.2.2.2.2.1==0&&(p0.2.2.2.2.2.1==0&&(p0.2.2.2.2.2.2.1==0&&(p0.2.2.2.2.2.2.2==0))))
 some t2))
def lr:FL:=(168,⟨[.val true vD false],[.val false uf (some true)],λa=>ff a⟩)::lq
theorem qF:Gd lr:=tv qE 168 Tryz.f168 [] Tryz.func168
def ed (e0:tk):Option Bool :=
 (ac e0.1 1 99).bind λt5 =>
 (cond t5
 ((ac e0.2.1 1 9999).bind λt9 =>
 some t9)
 (some false)).bind λt10 =>
 (cond t10
 ((ac e0.2.2.1 0 7).bind λt14 =>
 some t14)
 (some false)).bind λt15 =>
 (cond t15
 ((ac e0.2.2.2.1 0 4).bind λt19 =>
 some t19)
 (some false)).bind λt20 =>
 (cond t20
 ((cond (!e0.2.2.2.2) (some true) (some (e0.2.2.2.1==0))).bind λt29 =>
 some t29)
 (some false)).bind λt30 =>
 some t30
def lu:FL:=(276,⟨[.val true tT false],[.val false uf (some true)],λa=>ed a⟩)::lr
theorem qG:Gd lu:=tv qF 276 Tryz.f276 [] Tryz.func276
def fg (e0:tk) (tag1:Int) (mac2:Int):Option Bool :=
 (cond (decide (e0.1>tag1))
 (some true)
 ((cond (e0.1==tag1) (some (decide (e0.2.1>mac2))) (some false)).bind λt21 =>
 some t21)).bind λt22 =>
 some t22
def lv:FL:=(277,⟨[.val true tT false,.val false tu false,.val false tu false],[.val false uf (some true)],λa=>fg a.1 a.2.1 a.2.2⟩)::lu
theorem qH:Gd lv:=tv qG 277 Tryz.f277 [] Tryz.func277
def iC (l0:List tk) (t7:Int):Option (Int⊕(Unit⊕Bool)) :=
 cond (decide (t7<(l0.length:Int)))
 ((at? l0 t7).bind λx10 =>
 (ed x10).bind λt13 =>
 (cond (!t13)
 (some true)
 ((cond (decide (t7>0))
 ((at? l0 (te (t7-1))).bind λx23 =>
 (at? l0 (te (t7-1))).bind λx29 =>
 (fg x10 x23.1 x29.2.1).bind λt32 =>
 some (!t32))
 (some false)).bind λt34 =>
 some t34)).bind λt35 =>
 cond t35 (some (.inr (.inr false))) (some (.inl (te (t7+1)))))
 (some (.inr (.inl ())))
def gK (l0:List tk):Option Bool :=
 (loop (λz=>iC l0 z) 0).bind (Sum.elim (λd =>
 let t2:=decide ((l0.length:Int)<=12)
 some t2) (λr=>some r))
def lw:FL:=(169,⟨[.val false (.one (.sl tT)) false],[.val false uf (some true)],λa=>gK a⟩)::lv
theorem qI:Gd lw:=tv qH 169 Tryz.f169 [(0,⟨⟨(7,false,[dI])::us 16 19 [],[]⟩,
 ⟨[],[]⟩,some ⟨[(2,false,[dB])],[]⟩⟩)] Tryz.func169
def fh (ports0:Int):Option Int :=
 (shl .i64 1 ports0).bind λt4 =>
 some (te (t4-1))
def lz:FL:=(278,⟨[.val false tu false],[.val false tu (some true)],λa=>fh a⟩)::lw
theorem qJ:Gd lz:=tv qI 278 Tryz.f278 [] Tryz.func278
def aK (v0:uj) (id1:Int) (t10:Int):Option (Int⊕(Unit⊕Int)) :=
 cond (decide (t10<(v0.1.length:Int)))
 ((at? v0.1 t10).bind λx13 =>
 cond (x13.1==id1) (some (.inr (.inr t10))) (some (.inl (te (t10+1)))))
 (some (.inr (.inl ())))
def ap (v0:uj) (id1:Int):Option Int :=
 (loop (λz=>aK v0 id1 z) 0).bind (Sum.elim (λd =>
 some (-1)) (λr=>some r))
def lA:FL:=(279,⟨[.val true vB false,.val false tu false],[.val false tu (some true)],λa=>ap a.1 a.2⟩)::lz
theorem qK:Gd lA:=tv qJ 279 Tryz.f279 [(0,⟨⟨[(10,false,[dI])],[]⟩,
 ⟨[],[]⟩,some ⟨[(4,false,[dI])],[]⟩⟩)] Tryz.func279
def iD (p0:uj) (i1:Int) (t28:Int):Option (Int⊕(Unit⊕Bool)) :=
 cond (decide (t28<(p0.1.length:Int)))
 ((at? p0.1 t28).bind λx31 =>
 (ac x31.1 1 99).bind λt35 =>
 (cond (!t35)
 (some true)
 ((cond (decide (t28>0))
 ((at? p0.1 (te (t28-1))).bind λx45 =>
 some (decide (x45.1>=x31.1)))
 (some false)).bind λt51 =>
 some t51)).bind λt52 =>
 (cond t52
 (some true)
 ((fh i1).bind λt57 =>
 (ac x31.2.1 0 t57).bind λt58 =>
 some (!t58))).bind λt60 =>
 (cond t60 (some true) (some ((Cc .i64 x31.2.2 x31.2.1) != 0))).bind λt68 =>
 cond t68 (some (.inr (.inr false))) (some (.inl (te (t28+1)))))
 (some (.inr (.inl ())))
def gL (p0:uj) (t73:Int):Option (Int⊕(Unit⊕Bool)) :=
 cond (decide (t73<(p0.2.length:Int)))
 ((at? p0.2 t73).bind λx75 =>
 (ap p0 x75).bind λt79 =>
 cond (decide (t79<0)) (some (.inr (.inr false))) (some (.inl (te (t73+1)))))
 (some (.inr (.inl ())))
def ee (p0:uj) (i1:Int):Option Bool :=
 (ac i1 1 6).bind λt10 =>
 (cond (!t10) (some true) (some ((p0.2.length:Int) != i1))).bind λt18 =>
 (cond t18 (some true) (some (decide ((p0.1.length:Int)>6)))).bind λt24 =>
 cond t24
 (some false)
 ((loop (λz=>iD p0 i1 z) 0).bind (Sum.elim (λd =>
 (loop (λz=>gL p0 z) 0).bind (Sum.elim (λd_1 =>
 some true) (λr=>some r))) (λr_1=>some r_1)))
def lB:FL:=(170,⟨[.val true vB false,.val false tu false],[.val false uf (some true)],λa=>ee a.1 a.2⟩)::lA
theorem qL:Gd lB:=tv qK 170 Tryz.f170 [(0,⟨⟨(28,false,[dI])::us 38 14 (us 54 6 (us 62 6 [])),[]⟩,
 ⟨[],[]⟩,some ⟨[(4,false,[dB])],[]⟩⟩),
 (2,⟨⟨[(73,false,[dI])],[]⟩,
 ⟨[],[]⟩,some ⟨[(4,false,[dB])],[]⟩⟩)] Tryz.func170
def iE (p0:td) (t8:Int):Option (Int⊕(Unit⊕Bool)) :=
 cond (decide (t8<(p0.2.2.1.length:Int)))
 ((at? p0.2.2.1 t8).bind λx10 =>
 (ff x10).bind λt13 =>
 cond (!t13) (some (.inr (.inr false))) (some (.inl (te (t8+1)))))
 (some (.inr (.inl ())))
def bc (p0:td):Option Bool :=
 (loop (λz=>iE p0 z) 0).bind (Sum.elim (λd =>
 (ac p0.1 1 99).bind λt18 =>
 (cond (!t18) (some true) (some (decide ((p0.2.1.length:Int)>10)))).bind λt25 =>
 (cond t25
 (some true)
 ((ac (p0.2.2.1.length:Int) 1 6).bind λt30 =>
 some (!t30))).bind λt32 =>
 (cond t32
 (some true)
 ((gK p0.2.2.2.1).bind λt36 =>
 some (!t36))).bind λt38 =>
 (cond t38
 (some true)
 ((ee (p0.2.2.2.2.1,p0.2.2.2.2.2.1) (p0.2.2.1.length:Int)).bind λt45 =>
 some (!t45))).bind λt47 =>
 cond t47
 (some false)
 ((bt p0.2.2.2.2.2.2.1).bind λt50 =>
 (cond t50
 ((bt p0.2.2.2.2.2.2.2.1).bind λt54 =>
 some t54)
 (some false)).bind λt55 =>
 (cond t55
 ((bt p0.2.2.2.2.2.2.2.2.1).bind λt59 =>
 some t59)
 (some false)).bind λt60 =>
 (cond t60
 ((bt p0.2.2.2.2.2.2.2.2.2.1).bind λt64 =>
 some t64)
 (some false)).bind λt65 =>
 (cond t65
 ((bt p0.2.2.2.2.2.2.2.2.2.2).bind λt69 =>
 some t69)
 (some false)).bind λt70 =>
 some t70)) (λr=>some r))
def lC:FL:=(77,⟨[.val true tK false],[.val false uf (some true)],λa=>bc a⟩)::lB
theorem qM:Gd lC:=tv qL 77 Tryz.f77 [(0,⟨⟨[(8,false,[dI])],[]⟩,
 ⟨[],[]⟩,some ⟨[(2,false,[dB])],[]⟩⟩)] Tryz.func77
def aS (o0:List Int) (t7:Int):Option (Int⊕(Unit⊕Bool)) :=
 cond (decide (t7<(o0.length:Int)))
 ((at? o0 t7).bind λx9 =>
 (ac x9 0 100000).bind λt12 =>
 cond (!t12) (some (.inr (.inr false))) (some (.inl (te (t7+1)))))
 (some (.inr (.inl ())))
def ak (o0:List Int):Option Bool :=
 (loop (λz=>aS o0 z) 0).bind (Sum.elim (λd =>
 (ac (o0.length:Int) 1 10).bind λt17 =>
 some t17) (λr=>some r))
def lD:FL:=(91,⟨[.val false vL false],[.val false uf (some true)],λa=>ak a⟩)::lC
theorem qN:Gd lD:=tv qM 91 Tryz.f91 [(0,⟨⟨[(7,false,[dI])],[]⟩,
 ⟨[],[]⟩,some ⟨[(2,false,[dB])],[]⟩⟩)] Tryz.func91
def ef (a0:List Int) (b1:List Int) (t13:Int):Option (Int⊕(Unit⊕Bool)) :=
 cond (decide (t13<(a0.length:Int)))
 ((at? a0 t13).bind λx18 =>
 (at? b1 t13).bind λx22 =>
 cond (x18 != x22) (some (.inr (.inr false))) (some (.inl (te (t13+1)))))
 (some (.inr (.inl ())))
def ay (a0:List Int) (b1:List Int):Option Bool :=
 cond ((a0.length:Int) != (b1.length:Int))
 (some false)
 ((loop (λz=>ef a0 b1 z) 0).bind (Sum.elim (λd =>
 some true) (λr=>some r)))
def lE:FL:=(19,⟨[.val false vL false,.val false vL false],[.val false uf (some true)],λa=>ay a.1 a.2⟩)::lD
theorem qO:Gd lE:=tv qN 19 Tryz.f19 [(0,⟨⟨[(13,false,[dI])],[]⟩,
 ⟨[],[]⟩,some ⟨[(4,false,[dB])],[]⟩⟩)] Tryz.func19
def aJ (a0:wQ) (b1:wQ):Option Bool :=
 (cond (a0.1==b1.1) (some (a0.2.1==b1.2.1)) (some false)).bind λt16 =>
 (cond t16 (some (a0.2.2.1==b1.2.2.1)) (some false)).bind λt23 =>
 (cond t23
 ((ay a0.2.2.2 b1.2.2.2).bind λt29 =>
 some t29)
 (some false)).bind λt30 =>
 some t30
def lF:FL:=(20,⟨[.val true yd false,.val true yd false],[.val false uf (some true)],λa=>aJ a.1 a.2⟩)::lE
theorem qP:Gd lF:=tv qO 20 Tryz.f20 [] Tryz.func20
def aC (n0:Int):Option Bool :=
 (ac n0 (-2147483648) 2147483647).bind λt4 =>
 some t4
def lG:FL:=(93,⟨[.val false tu false],[.val false uf (some true)],λa=>aC a⟩)::lF
theorem qQ:Gd lG:=tv qP 93 Tryz.f93 [] Tryz.func93
def al (v0:wQ):Option Bool :=
 cond (v0.1==2)
 ((aC v0.2.1).bind λt17 =>
 (cond t17
 ((aJ v0 (v0.1,v0.2.1,[],[])).bind λt43 =>
 some t43)
 (some false)).bind λt44 =>
 some t44)
 (cond (v0.1==4)
 (let ok4:=decide ((v0.2.2.1.length:Int)<=20)
 (cond ok4
 ((aJ v0 (v0.1,0,v0.2.2.1,[])).bind λt43_1 =>
 some t43_1)
 (some false)).bind λt44_1 =>
 some t44_1)
 (cond (v0.1==6)
 ((ak v0.2.2.2).bind λt34 =>
 (cond t34
 ((aJ v0 (v0.1,0,[],v0.2.2.2)).bind λt43_2 =>
 some t43_2)
 (some false)).bind λt44_2 =>
 some t44_2)
 (cond (v0.1==5)
 (cond (v0.1==5)
 (((aJ v0 (v0.1,0,[],[])).bind λt43_3 =>
 some t43_3).bind λt44_3 =>
 some t44_3)
 (some false))
 (cond (v0.1==128)
 (cond (v0.1==128)
 (((aJ v0 (v0.1,0,[],[])).bind λt43_4 =>
 some t43_4).bind λt44_4 =>
 some t44_4)
 (some false))
 (cond (v0.1==130)
 (((aJ v0 (v0.1,0,[],[])).bind λt43_5 =>
 some t43_5).bind λt44_5 =>
 some t44_5)
 (some false))))))
def lH:FL:=(92,⟨[.val true yd false],[.val false uf (some true)],λa=>al a⟩)::lG
theorem qR:Gd lH:=tv qQ 92 Tryz.f92 [] Tryz.func92
def gM (p0:tQ) (t35:Int):Option (Int⊕(Unit⊕Bool)) :=
 cond (decide (t35<(p0.2.2.2.2.length:Int)))
 ((at? p0.2.2.2.2 t35).bind λx38 =>
 (cond (decide (t35>=10))
 (some true)
 ((ak x38.1).bind λt45 =>
 some (!t45))).bind λt47 =>
 (cond t47
 (some true)
 ((al x38.2).bind λt51 =>
 some (!t51))).bind λt53 =>
 cond t53 (some (.inr (.inr false))) (some (.inl (te (t35+1)))))
 (some (.inr (.inl ())))
def lI (p0:tQ) (t35_1:Int):Option (Int⊕(Unit⊕Bool)) :=
 cond (decide (t35_1<(p0.2.2.2.2.length:Int)))
 ((at? p0.2.2.2.2 t35_1).bind λx38_1 =>
 (cond (decide (t35_1>=10))
 (some true)
 ((ak x38_1.1).bind λt45_1 =>
 some (!t45_1))).bind λt47_1 =>
 (cond t47_1
 (some true)
 ((al x38_1.2).bind λt51_1 =>
 some (!t51_1))).bind λt53_1 =>
 cond t53_1 (some (.inr (.inr false))) (some (.inl (te (t35_1+1)))))
 (some (.inr (.inl ())))
def lJ (p0:tQ) (t35_2:Int):Option (Int⊕(Unit⊕Bool)) :=
 cond (decide (t35_2<(p0.2.2.2.2.length:Int)))
 ((at? p0.2.2.2.2 t35_2).bind λx38_2 =>
 (cond (decide (t35_2>=10))
 (some true)
 ((ak x38_2.1).bind λt45_2 =>
 some (!t45_2))).bind λt47_2 =>
 (cond t47_2
 (some true)
 ((al x38_2.2).bind λt51_2 =>
 some (!t51_2))).bind λt53_2 =>
 cond t53_2 (some (.inr (.inr false))) (some (.inl (te (t35_2+1)))))
 (some (.inr (.inl ())))
def lK (p0:tQ) (t35_3:Int):Option (Int⊕(Unit⊕Bool)) :=
 cond (decide (t35_3<(p0.2.2.2.2.length:Int)))
 ((at? p0.2.2.2.2 t35_3).bind λx38_3 =>
 (cond (decide (t35_3>=10))
 (some true)
 ((ak x38_3.1).bind λt45_3 =>
 some (!t45_3))).bind λt47_3 =>
 (cond t47_3
 (some true)
 ((al x38_3.2).bind λt51_3 =>
 some (!t51_3))).bind λt53_3 =>
 cond t53_3 (some (.inr (.inr false))) (some (.inl (te (t35_3+1)))))
 (some (.inr (.inl ())))
def lL (p0:tQ) (t35_4:Int):Option (Int⊕(Unit⊕Bool)) :=
 cond (decide (t35_4<(p0.2.2.2.2.length:Int)))
 ((at? p0.2.2.2.2 t35_4).bind λx38_4 =>
 (cond (decide (t35_4>=10))
 (some true)
 ((ak x38_4.1).bind λt45_4 =>
 some (!t45_4))).bind λt47_4 =>
 (cond t47_4
 (some true)
 ((al x38_4.2).bind λt51_4 =>
 some (!t51_4))).bind λt53_4 =>
 cond t53_4 (some (.inr (.inr false))) (some (.inl (te (t35_4+1)))))
 (some (.inr (.inl ())))
def lM (p0:tQ) (t35_5:Int):Option (Int⊕(Unit⊕Bool)) :=
 cond (decide (t35_5<(p0.2.2.2.2.length:Int)))
 ((at? p0.2.2.2.2 t35_5).bind λx38_5 =>
 (cond (decide (t35_5>=10))
 (some true)
 ((ak x38_5.1).bind λt45_5 =>
 some (!t45_5))).bind λt47_5 =>
 (cond t47_5
 (some true)
 ((al x38_5.2).bind λt51_5 =>
 some (!t51_5))).bind λt53_5 =>
 cond t53_5 (some (.inr (.inr false))) (some (.inl (te (t35_5+1)))))
 (some (.inr (.inl ())))
def lN (p0:tQ) (t35_6:Int):Option (Int⊕(Unit⊕Bool)) :=
 cond (decide (t35_6<(p0.2.2.2.2.length:Int)))
 ((at? p0.2.2.2.2 t35_6).bind λx38_6 =>
 (cond (decide (t35_6>=10))
 (some true)
 ((ak x38_6.1).bind λt45_6 =>
 some (!t45_6))).bind λt47_6 =>
 (cond t47_6
 (some true)
 ((al x38_6.2).bind λt51_6 =>
 some (!t51_6))).bind λt53_6 =>
 cond t53_6 (some (.inr (.inr false))) (some (.inl (te (t35_6+1)))))
 (some (.inr (.inl ())))
def lO (p0:tQ) (t35_7:Int):Option (Int⊕(Unit⊕Bool)) :=
 cond (decide (t35_7<(p0.2.2.2.2.length:Int)))
 ((at? p0.2.2.2.2 t35_7).bind λx38_7 =>
 (cond (decide (t35_7>=10))
 (some true)
 ((ak x38_7.1).bind λt45_7 =>
 some (!t45_7))).bind λt47_7 =>
 (cond t47_7
 (some true)
 ((al x38_7.2).bind λt51_7 =>
 some (!t51_7))).bind λt53_7 =>
 cond t53_7 (some (.inr (.inr false))) (some (.inl (te (t35_7+1)))))
 (some (.inr (.inl ())))
def lP (p0:tQ) (t35_8:Int):Option (Int⊕(Unit⊕Bool)) :=
 cond (decide (t35_8<(p0.2.2.2.2.length:Int)))
 ((at? p0.2.2.2.2 t35_8).bind λx38_8 =>
 (cond (decide (t35_8>=10))
 (some true)
 ((ak x38_8.1).bind λt45_8 =>
 some (!t45_8))).bind λt47_8 =>
 (cond t47_8
 (some true)
 ((al x38_8.2).bind λt51_8 =>
 some (!t51_8))).bind λt53_8 =>
 cond t53_8 (some (.inr (.inr false))) (some (.inl (te (t35_8+1)))))
 (some (.inr (.inl ())))
def cY (p0:tQ):Option Bool :=
 cond (p0.1==160)
 (cond (p0.1==160)
 ((cond (p0.2.2.1 != 0) (some true) (some (p0.2.2.2.1 != 0))).bind λt18 =>
 cond t18
 (some false)
 ((loop (λz=>gM p0 z) 0).bind (Sum.elim (λd =>
 (aC p0.2.1).bind λt57 =>
 some t57) (λr=>some r))))
 (cond (p0.1==162)
 (cond (p0.1==162)
 ((ac p0.2.2.1 0 1000).bind λt24 =>
 (cond (!t24)
 (some true)
 ((ac p0.2.2.2.1 0 1000).bind λt29 =>
 some (!t29))).bind λt31 =>
 cond t31
 (some false)
 ((loop (λz=>lI p0 z) 0).bind (Sum.elim (λd_1 =>
 (aC p0.2.1).bind λt57_1 =>
 some t57_1) (λr_1=>some r_1))))
 (some false))
 (cond (p0.1==165)
 ((ac p0.2.2.1 0 1000).bind λt24_1 =>
 (cond (!t24_1)
 (some true)
 ((ac p0.2.2.2.1 0 1000).bind λt29_1 =>
 some (!t29_1))).bind λt31_1 =>
 cond t31_1
 (some false)
 ((loop (λz=>lJ p0 z) 0).bind (Sum.elim (λd_2 =>
 (aC p0.2.1).bind λt57_2 =>
 some t57_2) (λr_2=>some r_2))))
 (some false))))
 (cond (p0.1==161)
 (cond (p0.1==161)
 ((cond (p0.2.2.1 != 0) (some true) (some (p0.2.2.2.1 != 0))).bind λt18_1 =>
 cond t18_1
 (some false)
 ((loop (λz=>lK p0 z) 0).bind (Sum.elim (λd_3 =>
 (aC p0.2.1).bind λt57_3 =>
 some t57_3) (λr_3=>some r_3))))
 (cond (p0.1==162)
 (cond (p0.1==162)
 ((ac p0.2.2.1 0 1000).bind λt24_2 =>
 (cond (!t24_2)
 (some true)
 ((ac p0.2.2.2.1 0 1000).bind λt29_2 =>
 some (!t29_2))).bind λt31_2 =>
 cond t31_2
 (some false)
 ((loop (λz=>lL p0 z) 0).bind (Sum.elim (λd_4 =>
 (aC p0.2.1).bind λt57_4 =>
 some t57_4) (λr_4=>some r_4))))
 (some false))
 (cond (p0.1==165)
 ((ac p0.2.2.1 0 1000).bind λt24_3 =>
 (cond (!t24_3)
 (some true)
 ((ac p0.2.2.2.1 0 1000).bind λt29_3 =>
 some (!t29_3))).bind λt31_3 =>
 cond t31_3
 (some false)
 ((loop (λz=>lM p0 z) 0).bind (Sum.elim (λd_5 =>
 (aC p0.2.1).bind λt57_5 =>
 some t57_5) (λr_5=>some r_5))))
 (some false))))
 (cond (p0.1==163)
 ((cond (p0.2.2.1 != 0) (some true) (some (p0.2.2.2.1 != 0))).bind λt18_2 =>
 cond t18_2
 (some false)
 ((loop (λz=>lN p0 z) 0).bind (Sum.elim (λd_6 =>
 (aC p0.2.1).bind λt57_6 =>
 some t57_6) (λr_6=>some r_6))))
 (cond (p0.1==162)
 (cond (p0.1==162)
 ((ac p0.2.2.1 0 1000).bind λt24_4 =>
 (cond (!t24_4)
 (some true)
 ((ac p0.2.2.2.1 0 1000).bind λt29_4 =>
 some (!t29_4))).bind λt31_4 =>
 cond t31_4
 (some false)
 ((loop (λz=>lO p0 z) 0).bind (Sum.elim (λd_7 =>
 (aC p0.2.1).bind λt57_7 =>
 some t57_7) (λr_7=>some r_7))))
 (some false))
 (cond (p0.1==165)
 ((ac p0.2.2.1 0 1000).bind λt24_5 =>
 (cond (!t24_5)
 (some true)
 ((ac p0.2.2.2.1 0 1000).bind λt29_5 =>
 some (!t29_5))).bind λt31_5 =>
 cond t31_5
 (some false)
 ((loop (λz=>lP p0 z) 0).bind (Sum.elim (λd_8 =>
 (aC p0.2.1).bind λt57_8 =>
 some t57_8) (λr_8=>some r_8))))
 (some false)))))
def lQ:FL:=(17,⟨[.val true vk false],[.val false uf (some true)],λa=>cY a⟩)::lH
theorem qS:Gd lQ:=tv qR 17 Tryz.f17 [(1,⟨⟨(35,false,[dI])::us 43 4 (us 49 4 []),[]⟩,
 ⟨[],[]⟩,some ⟨[(2,false,[dB])],[]⟩⟩)] Tryz.func17
def fi (j0:um):Option Bool :=
 (ac j0.2.2.1 0 2).bind λt5 =>
 (cond (!t5)
 (some true)
 ((ac j0.2.2.2.2.2.2.2.2.2.2.2.2.2.2.2.2.2.2.2.1 0 (j0.2.2.2.2.2.2.2.1.length:Int)).bind λt14 =>
 some (!t14))).bind λt16 =>
 (cond t16
 (some true)
 ((ac j0.2.2.2.2.2.2.2.2.2.2.2.2.2.2.2.2.2.2.2.2 0 3).bind λt20 =>
 some (!t20))).bind λt22 =>
 cond t22
 (some false)
 ((cond (j0.2.2.1==0)
 (some true)
 ((cY (j0.2.2.2.1,j0.2.2.2.2.1,j0.2.2.2.2.2.1,j0.2.2.2.2.2.2.1,j0.2.2.2.2.2.2.2.1)).bind λt29 =>
 (cond t29 (some (j0.2.2.2.1 != 162)) (some false)).bind λt35 =>
 (cond t35
 ((bc (j0.2.2.2.2.2.2.2.2.1,j0.2.2.2.2.2.2.2.2.2.1,j0.2.2.2.2.2.2.2.2.2.2.1,j0.2.2.2.2.2.2.2.2.2.2.2.1,j0.2.2.2.2.2.2.2.2.2.2.2.2.1,j0.2.2.2.2.2.2.2.2.2.2.2.2.2.1,j0.2.2.2.2.2.2.2.2.2.2.2.2.2.2.1,j0.2.2.2.2.2.2.2.2.2.2.2.2.2.2.2.1,j0.2.2.2.2.2.2.2.2.2.2.2.2.2.2.2.2.1,j0.2.2.2.2.2.2.2.2.2.2.2.2.2.2.2.2.2.1,j0.2.2.2.2.2.2.2.2.2.2.2.2.2.2.2.2.2.2.1)).bind λt39 =>
 some t39)
 (some false)).bind λt40 =>
 some t40)).bind λt41 =>
 some t41)
def lR:FL:=(135,⟨[.val true ye false],[.val false uf (some true)],λa=>fi a⟩)::lQ
theorem qT:Gd lR:=tv qS 135 Tryz.f135 [] Tryz.func135
def iF (p0:tB) (t36:Int):Option (Int⊕(Unit⊕Bool)) :=
 cond (decide (t36<(p0.2.2.2.2.2.2.2.2.2.2.2.2.1.length:Int)))
 ((at? p0.2.2.2.2.2.2.2.2.2.2.2.2.1 t36).bind λx39 =>
 (ac x39.1 1 p0.2.2.2.2.2.2.2.2.2.2.2.2.2.2).bind λt45 =>
 (cond (!t45)
 (some true)
 ((cond (decide (t36>0))
 ((at? p0.2.2.2.2.2.2.2.2.2.2.2.2.1 (te (t36-1))).bind λx55 =>
 some (decide (x55.1>=x39.1)))
 (some false)).bind λt61 =>
 some t61)).bind λt62 =>
 (cond t62
 (some true)
 ((fi x39).bind λt65 =>
 some (!t65))).bind λt67 =>
 cond t67 (some (.inr (.inr false))) (some (.inl (te (t36+1)))))
 (some (.inr (.inl ())))
def cQ (p0:tB):Option Bool :=
 (bc (p0.1,p0.2.1,p0.2.2.1,p0.2.2.2.1,p0.2.2.2.2.1,p0.2.2.2.2.2.1,p0.2.2.2.2.2.2.1,p0.2.2.2.2.2.2.2.1,p0.2.2.2.2.2.2.2.2.1,p0.2.2.2.2.2.2.2.2.2.1,p0.2.2.2.2.2.2.2.2.2.2.1)).bind λt7 =>
 (cond (!t7)
 (some true)
 (some (decide ((p0.2.2.2.2.2.2.2.2.2.2.2.1.length:Int)>20)))).bind λt14 =>
 (cond t14
 (some true)
 (some (decide ((p0.2.2.2.2.2.2.2.2.2.2.2.2.1.length:Int)>6)))).bind λt20 =>
 (cond t20
 (some true)
 ((bt p0.2.2.2.2.2.2.2.2.2.2.2.2.2.1).bind λt24 =>
 some (!t24))).bind λt26 =>
 (cond t26
 (some true)
 ((bt p0.2.2.2.2.2.2.2.2.2.2.2.2.2.2).bind λt30 =>
 some (!t30))).bind λt32 =>
 cond t32
 (some false)
 ((loop (λz=>iF p0 z) 0).bind (Sum.elim (λd =>
 some true) (λr=>some r)))
def lS:FL:=(43,⟨[.val true ul false],[.val false uf (some true)],λa=>cQ a⟩)::lR
theorem qU:Gd lS:=tv qT 43 Tryz.f43 [(0,⟨⟨(36,false,[dI])::us 48 14 (us 64 3 []),[]⟩,
 ⟨[],[]⟩,some ⟨[(2,false,[dB])],[]⟩⟩)] Tryz.func43
def gN (l0:List tk):Option (List tk) :=
 (tJ [] l0).bind λzs4 =>
 some zs4
def lT:FL:=(166,⟨[.val false (.one (.sl tT)) false],[.val false (.one (.sl tT)) (some true)],λa=>gN a⟩)::lS
theorem qV:Gd lT:=tv qU 166 Tryz.f166 [] Tryz.func166
def bh (l0:List Int):Option (List Int) :=
 (tJ [] l0).bind λzs4 =>
 some zs4
def lU:FL:=(78,⟨[.val false vL false],[.val false vL (some true)],λa=>bh a⟩)::lT
theorem qW:Gd lU:=tv qV 78 Tryz.f78 [] Tryz.func78
def eg (v0:uj):Option uj :=
 (tJ [] v0.1).bind λzs5 =>
 (bh v0.2).bind λt8 =>
 some (zs5,t8)
def lV:FL:=(167,⟨[.val true vB false],[.val true vB (some true)],λa=>eg a⟩)::lU
theorem qX:Gd lV:=tv qW 167 Tryz.f167 [] Tryz.func167
def ao (b0:td):Option td :=
 (tJ [] b0.2.2.1).bind λzs5 =>
 (gN b0.2.2.2.1).bind λt9 =>
 (eg (b0.2.2.2.2.1,b0.2.2.2.2.2.1)).bind λt12 =>
 some (b0.1,b0.2.1,zs5,t9,t12.1,t12.2,b0.2.2.2.2.2.2.1,b0.2.2.2.2.2.2.2.1,b0.2.2.2.2.2.2.2.2.1,b0.2.2.2.2.2.2.2.2.2.1,b0.2.2.2.2.2.2.2.2.2.2)
def lW:FL:=(76,⟨[.val true tK false],[.val true tK (some true)],λa=>ao a⟩)::lV
theorem qY:Gd lW:=tv qX 76 Tryz.f76 [] Tryz.func76
def bJ (b0:List Int):Option (List Int) :=
 (tJ [] b0).bind λzs4 =>
 some zs4
def lX:FL:=(131,⟨[.val false uG false],[.val false uG (some true)],λa=>bJ a⟩)::lW
theorem qZ:Gd lX:=tv qY 131 Tryz.f131 [] Tryz.func131
def gO (v0:wQ):Option wQ :=
 (bh v0.2.2.2).bind λt5 =>
 some (v0.1,v0.2.1,v0.2.2.1,t5)
def lY:FL:=(173,⟨[.val true yd false],[.val true yd (some true)],λa=>gO a⟩)::lX
theorem r7:Gd lY:=tv qZ 173 Tryz.f173 [] Tryz.func173
def eh (l0:List tg) (t8:Int) (out3:List tg):Option ((Int×List tg)⊕(List tg)) :=
 cond (decide (t8<(l0.length:Int)))
 ((at? l0 t8).bind λx10 =>
 (bh x10.1).bind λt15 =>
 (gO x10.2).bind λt18 =>
 (tJ out3 [(t15,t18.1,t18.2.1,t18.2.2.1,t18.2.2.2)]).bind λzs21 =>
 some (.inl (te (t8+1),zs21)))
 (some (.inr out3))
def ei (l0:List tg):Option (List tg) :=
 (loop (λz=>eh l0 z.1 z.2) (0,[])).bind λd =>
 some d
def lZ:FL:=(81,⟨[.val false (.one (.sl tG)) false],[.val false (.one (.sl tG)) (some true)],λa=>ei a⟩)::lY
theorem r8:Gd lZ:=tv r7 81 Tryz.f81 [(0,⟨⟨[(3,false,[.own 1000000000]),(8,false,[dI])],[(1000000000,.root tG true)]⟩,
 ⟨[(3,false,[.own 1000000300])],[(1000000300,.root tG true)]⟩,none⟩)] Tryz.func81
def fj (p0:tQ):Option tQ :=
 (ei p0.2.2.2.2).bind λt5 =>
 some (p0.1,p0.2.1,p0.2.2.1,p0.2.2.2.1,t5)
def m5:FL:=(233,⟨[.val true vk false],[.val true vk (some true)],λa=>fj a⟩)::lZ
theorem r9:Gd m5:=tv r8 233 Tryz.f233 [] Tryz.func233
def ej (a0:tB) (t13:Int) (jobs3:List um):Option ((Int×List um)⊕(List um)) :=
 cond (decide (t13<(a0.2.2.2.2.2.2.2.2.2.2.2.2.1.length:Int)))
 ((at? a0.2.2.2.2.2.2.2.2.2.2.2.2.1 t13).bind λx15 =>
 (bJ x15.2.1).bind λt19 =>
 (fj (x15.2.2.2.1,x15.2.2.2.2.1,x15.2.2.2.2.2.1,x15.2.2.2.2.2.2.1,x15.2.2.2.2.2.2.2.1)).bind λt22 =>
 (ao (x15.2.2.2.2.2.2.2.2.1,x15.2.2.2.2.2.2.2.2.2.1,x15.2.2.2.2.2.2.2.2.2.2.1,x15.2.2.2.2.2.2.2.2.2.2.2.1,x15.2.2.2.2.2.2.2.2.2.2.2.2.1,x15.2.2.2.2.2.2.2.2.2.2.2.2.2.1,x15.2.2.2.2.2.2.2.2.2.2.2.2.2.2.1,x15.2.2.2.2.2.2.2.2.2.2.2.2.2.2.2.1,x15.2.2.2.2.2.2.2.2.2.2.2.2.2.2.2.2.1,x15.2.2.2.2.2.2.2.2.2.2.2.2.2.2.2.2.2.1,x15.2.2.2.2.2.2.2.2.2.2.2.2.2.2.2.2.2.2.1)).bind λt25 =>
 (tJ jobs3 [(x15.1,t19,x15.2.2.1,t22.1,t22.2.1,t22.2.2.1,t22.2.2.2.1,t22.2.2.2.2,t25.1,t25.2.1,t25.2.2.1,t25.2.2.2.1,t25.2.2.2.2.1,t25.2.2.2.2.2.1,t25.2.2.2.2.2.2.1,t25.2.2.2.2.2.2.2.1,t25.2.2.2.2.2.2.2.2.1,t25.2.2.2.2.2.2.2.2.2.1,t25.2.2.2.2.2.2.2.2.2.2,x15.2.2.2.2.2.2.2.2.2.2.2.2.2.2.2.2.2.2.2.1,x15.2.2.2.2.2.2.2.2.2.2.2.2.2.2.2.2.2.2.2.2)]).bind λzs32 =>
 some (.inl (te (t13+1),zs32)))
 (some (.inr jobs3))
def dW (a0:tB):Option tB :=
 (ao (a0.1,a0.2.1,a0.2.2.1,a0.2.2.2.1,a0.2.2.2.2.1,a0.2.2.2.2.2.1,a0.2.2.2.2.2.2.1,a0.2.2.2.2.2.2.2.1,a0.2.2.2.2.2.2.2.2.1,a0.2.2.2.2.2.2.2.2.2.1,a0.2.2.2.2.2.2.2.2.2.2.1)).bind λt8 =>
 (loop (λz=>ej a0 z.1 z.2) (0,[])).bind λd =>
 some (t8.1,t8.2.1,t8.2.2.1,t8.2.2.2.1,t8.2.2.2.2.1,t8.2.2.2.2.2.1,t8.2.2.2.2.2.2.1,t8.2.2.2.2.2.2.2.1,t8.2.2.2.2.2.2.2.2.1,t8.2.2.2.2.2.2.2.2.2.1,t8.2.2.2.2.2.2.2.2.2.2,a0.2.2.2.2.2.2.2.2.2.2.2.1,d,a0.2.2.2.2.2.2.2.2.2.2.2.2.2.1,a0.2.2.2.2.2.2.2.2.2.2.2.2.2.2)
def m6:FL:=(129,⟨[.val true ul false],[.val true ul (some true)],λa=>dW a⟩)::m5
theorem ra:Gd m6:=tv r9 129 Tryz.f129 [(0,⟨⟨[(3,false,[.own 1000000000]),(13,false,[dI])],[(1000000000,.root ye true)]⟩,
 ⟨[(3,false,[.own 1000000300])],[(1000000300,.root ye true)]⟩,none⟩)] Tryz.func129
def bf (n0:Int):Option Int :=
 let t2:=min2 (te (n0+1)) 1000000
 some t2
def m7:FL:=(130,⟨[.val false tu false],[.val false tu (some true)],λa=>bf a⟩)::m6
theorem rb:Gd m7:=tv ra 130 Tryz.f130 [] Tryz.func130
def br (a0:tB) (b1:List Int):Option tB :=
 (dW a0).bind λt7 =>
 (cQ a0).bind λt24 =>
 cond (!t24)
 (some t7)
 ((cond (decide ((a0.2.2.2.2.2.2.2.2.2.2.2.2.1.length:Int)>=6))
 (some true)
 (some (decide (a0.2.2.2.2.2.2.2.2.2.2.2.2.2.2>=1000000)))).bind λt35 =>
 cond t35
 ((bf a0.2.2.2.2.2.2.2.2.2.2.2.2.2.1).bind λt38 =>
 some (t7.1,t7.2.1,t7.2.2.1,t7.2.2.2.1,t7.2.2.2.2.1,t7.2.2.2.2.2.1,t7.2.2.2.2.2.2.1,t7.2.2.2.2.2.2.2.1,t7.2.2.2.2.2.2.2.2.1,t7.2.2.2.2.2.2.2.2.2.1,t7.2.2.2.2.2.2.2.2.2.2.1,t7.2.2.2.2.2.2.2.2.2.2.2.1,t7.2.2.2.2.2.2.2.2.2.2.2.2.1,t38,t7.2.2.2.2.2.2.2.2.2.2.2.2.2.2))
 ((bJ b1).bind λt17 =>
 (tJ t7.2.2.2.2.2.2.2.2.2.2.2.2.1 ([(te (t7.2.2.2.2.2.2.2.2.2.2.2.2.2.2+1),t17,0,0,0,0,0,[],0,[],[],[],[],[],0,0,0,0,0,0,0)])).bind λzs20 =>
 some (t7.1,t7.2.1,t7.2.2.1,t7.2.2.2.1,t7.2.2.2.2.1,t7.2.2.2.2.2.1,t7.2.2.2.2.2.2.1,t7.2.2.2.2.2.2.2.1,t7.2.2.2.2.2.2.2.2.1,t7.2.2.2.2.2.2.2.2.2.1,t7.2.2.2.2.2.2.2.2.2.2.1,t7.2.2.2.2.2.2.2.2.2.2.2.1,zs20,t7.2.2.2.2.2.2.2.2.2.2.2.2.2.1,te (t7.2.2.2.2.2.2.2.2.2.2.2.2.2.2+1))))
def m8:FL:=(38,⟨[.val true ul false,.val false uG false],[.val true ul (some true)],λa=>br a.1 a.2⟩)::m7
theorem re:Gd m8:=tv rb 38 Tryz.f38 [] Tryz.func38
def cZ (p0:List Int) (i1:Int):Option (Int×(List Int)×Int×Bool) :=
 (cond (decide (i1<0)) (some true) (some (decide (i1>(te ((p0.length:Int)-2)))))).bind λt18 =>
 cond t18
 (some (0,[],0,false))
 ((at? p0 (te (i1+1))).bind λx22 =>
 cond (decide ((te (x22))>=128))
 ((cond ((te (x22)) != 129) (some true) (some (decide ((te (i1+2))>=(p0.length:Int))))).bind λt36 =>
 (cond t36
 (some true)
 ((at? p0 (te (i1+2))).bind λx40 =>
 some (decide (x40<128)))).bind λt43 =>
 cond t43
 (some (0,[],0,false))
 ((at? p0 (te (i1+2))).bind λx46 =>
 (cond (decide ((te (x46))>250))
 (some true)
 (some (decide ((te (x46))>(te ((p0.length:Int)-(te ((te (i1+2))+1)))))))).bind λt60 =>
 cond t60
 (some (0,[],0,false))
 ((at? p0 i1).bind λx63 =>
 (cut p0 (te ((te (i1+2))+1)) (te ((te ((te (i1+2))+1))+(te (x46))))).bind λt71 =>
 (bJ t71).bind λt72 =>
 let t6:=te ((te ((te (i1+2))+1))+(te (x46)))
 some (te (x63),t72,t6,true))))
 ((cond (decide ((te (x22))>250))
 (some true)
 (some (decide ((te (x22))>(te ((p0.length:Int)-(te (i1+2)))))))).bind λt60_1 =>
 cond t60_1
 (some (0,[],0,false))
 ((at? p0 i1).bind λx63_1 =>
 (cut p0 (te (i1+2)) (te ((te (i1+2))+(te (x22))))).bind λt71_1 =>
 (bJ t71_1).bind λt72_1 =>
 let t6_1:=te ((te (i1+2))+(te (x22)))
 some (te (x63_1),t72_1,t6_1,true))))
def m9:FL:=(316,⟨[.val false uG false,.val false tu false],[.val false tu (some true),.val false uG (some true),.val false tu (some true),.val false uf (some true)],λa=>cZ a.1 a.2⟩)::m8
theorem rf:Gd m9:=tv re 316 Tryz.f316 [] Tryz.func316
def bK (r0:Aa) (tag1:Int):Option (Aa×List Int) :=
 (cZ r0.1 r0.2.1).bind λt18 =>
 (cond r0.2.2 (some true) (some (!t18.2.2.2))).bind λt30 =>
 (cond t30 (some true) (some (t18.1 != tag1))).bind λt35 =>
 cond t35
 (some ((r0.1,r0.2.1,true),[]))
 (some ((r0.1,t18.2.2.1,r0.2.2),t18.2.1))
def ma:FL:=(318,⟨[.ptr A9 none,.val false tu false],[.val false uG (some true)],λa=>bK a.1 a.2⟩)::m9
theorem rj:Gd ma:=tv rf 318 Tryz.f318 [] Tryz.func318
def aU (n0_1:Int) (k3:Int):Option (Int⊕Int) :=
 (cond (decide (k3<4))
 ((shl .i64 (-1) (te ((te (8*k3))-1))).bind λt16 =>
 (shl .i64 1 (te ((te (8*k3))-1))).bind λt20 =>
 (ac n0_1 t16 (te (t20-1))).bind λt22 =>
 some (!t22))
 (some false)).bind λt24 =>
 cond t24 (some (.inl (te (k3+1)))) (some (.inr k3))
def aD (n0_1:Int) (i5:Int) (out4:List Int):Option ((Int×List Int)⊕(List Int)) :=
 cond (decide (i5>=0))
 ((shr .i64 n0_1 (te (8*i5))).bind λt37 =>
 (tJ out4 [IntKind.u8.wrap (t37)]).bind λzs40 =>
 some (.inl (te (i5-1),zs40)))
 (some (.inr out4))
def em (n0:Int):Option (List Int) :=
 let n0_1:=max2 (-2147483648) (min2 n0 2147483647)
 (loop (λz=>aU n0_1 z) 1).bind λd =>
 (loop (λz=>aD n0_1 z.1 z.2) (te (d-1),[])).bind λd_1 =>
 some d_1
def mb:FL:=(293,⟨[.val false tu false],[.val false uG (some true)],λa=>em a⟩)::ma
theorem rk:Gd mb:=tv rj 293 Tryz.f293 [(0,⟨⟨(3,false,[dI])::us 12 12 [],[]⟩,
 ⟨[(3,false,[dI])],[]⟩,none⟩),
 (2,⟨⟨[(4,false,[.own 1000002000]),(5,false,[dI])],[(1000002000,.root (.one (.int .u8)) true)]⟩,
 ⟨[(4,false,[.own 1000002300])],[(1000002300,.root (.one (.int .u8)) true)]⟩,none⟩)] Tryz.func293
def eo (t17:List Int) (n4_1:Int) (t19:Int):Option ((Int×Int)⊕Int) :=
 cond (decide (t19<(t17.length:Int)))
 ((at? t17 t19).bind λx21 =>
 let n4_2:=AE .i64 (te (n4_1*2^8)) (te (x21))
 some (.inl (n4_2,te (t19+1))))
 (some (.inr n4_1))
def fk (b0:List Int):Option (Int×Bool) :=
 (ac (b0.length:Int) 1 4).bind λt9 =>
 cond (!t9)
 (some (0,false))
 ((at? b0 0).bind λx12 =>
 let n4:=te (IntKind.i8.wrap (x12))
 (cut b0 1 (b0.length:Int)).bind λt17 =>
 (loop (λz=>eo t17 z.1 z.2) (n4,0)).bind λd =>
 (em d).bind λt30 =>
 cond ((t30.length:Int) != (b0.length:Int)) (some (0,false)) (some (d,true)))
def mc:FL:=(350,⟨[.val false uG false],[.val false tu (some true),.val false uf (some true)],λa=>fk a⟩)::mb
theorem rl:Gd mc:=tv rk 350 Tryz.f350 [(0,⟨⟨[(4,false,[dI]),(19,false,[dI])],[]⟩,
 ⟨[(4,false,[dI])],[]⟩,none⟩)] Tryz.func350
def da (r0:Aa) (tag1:Int):Option (Aa×Int) :=
 (bK r0 tag1).bind λt10 =>
 (fk t10.2).bind λt11 =>
 (cond t10.1.2.2 (some true) (some (!t11.2))).bind λt22 =>
 some ((t10.1.1,t10.1.2.1,t22),t11.1)
def md:FL:=(317,⟨[.ptr A9 none,.val false tu false],[.val false tu (some true)],λa=>da a.1 a.2⟩)::mc
theorem rm:Gd md:=tv rl 317 Tryz.f317 [] Tryz.func317
def de (tag0:Int) (body1:List Int):Option ((List Int)×Bool) :=
 (ac tag0 0 255).bind λt8 =>
 (cond (!t8) (some true) (some (decide ((body1.length:Int)>250)))).bind λt14 =>
 cond t14
 (some ([],false))
 (cond (decide ((body1.length:Int)>=128))
 ((tJ [IntKind.u8.wrap (tag0)] ([129]:List Int)).bind λzs23 =>
 (tJ zs23 [IntKind.u8.wrap ((body1.length:Int))]).bind λzs29 =>
 (tJ zs29 body1).bind λzs31 =>
 some (zs31,true))
 ((tJ [IntKind.u8.wrap (tag0)] [IntKind.u8.wrap ((body1.length:Int))]).bind λzs29_1 =>
 (tJ zs29_1 body1).bind λzs31_1 =>
 some (zs31_1,true)))
def me:FL:=(182,⟨[.val false tu false,.val false uG false],[.val false uG (some true),.val false uf (some true)],λa=>de a.1 a.2⟩)::md
theorem rn:Gd me:=tv rm 182 Tryz.f182 [] Tryz.func182
def bu (b0:List Int) (tag1:Int) (body2:List Int):Option (List Int) :=
 (de tag1 body2).bind λt12 =>
 (bJ b0).bind λt16 =>
 (tJ t16 t12.1).bind λzs18 =>
 some zs18
def mf:FL:=(184,⟨[.val false uG false,.val false tu false,.val false uG false],[.val false uG (some true)],λa=>bu a.1 a.2.1 a.2.2⟩)::me
theorem rp:Gd mf:=tv rn 184 Tryz.f184 [] Tryz.func184
def cf (x14:Int) (k6:Int):Option (Int⊕Int) :=
 (shr .i64 x14 (te (7*k6))).bind λt19 =>
 cond (decide (t19>127)) (some (.inl (te (k6+1)))) (some (.inr k6))
def dg (x14:Int) (k6_2:Int) (out3_1:List Int):Option ((Int×List Int)⊕(List Int)) :=
 cond (decide (k6_2>0))
 ((shr .i64 x14 (te (7*k6_2))).bind λt31 =>
 (tJ out3_1 [IntKind.u8.wrap (te ((wT .i64 t31 127)+128))]).bind λzs36 =>
 some (.inl (te (k6_2-1),zs36)))
 (some (.inr out3_1))
def ep (o0:List Int) (t12:Int) (out3:List Int):Option ((Int×List Int)⊕(List Int)) :=
 cond (decide (t12<(o0.length:Int)))
 ((at? o0 t12).bind λx14 =>
 (loop (λz=>cf x14 z) 0).bind λd =>
 (loop (λz=>dg x14 z.1 z.2) (d,out3)).bind λd_1 =>
 (tJ d_1 [IntKind.u8.wrap (wT .i64 x14 127)]).bind λzs42 =>
 some (.inl (te (t12+1),zs42)))
 (some (.inr out3))
def dh (o0:List Int):Option (List Int) :=
 (ak o0).bind λt8 =>
 cond (!t8)
 (some [])
 ((loop (λz=>ep o0 z.1 z.2) (0,[])).bind λd_2 =>
 some d_2)
def mg:FL:=(185,⟨[.val false vL false],[.val false uG (some true)],λa=>dh a⟩)::mf
theorem rq:Gd mg:=tv rp 185 Tryz.f185 [(0,⟨⟨[(3,false,[.own 1000000000]),(12,false,[dI])],[(1000000000,.root (.one (.int .u8)) true)]⟩,
 ⟨[(3,false,[.own 1000000300])],[(1000000300,.root (.one (.int .u8)) true)]⟩,none⟩),
 (2,⟨⟨[(6,false,[dI])],[]⟩,
 ⟨[(6,false,[dI])],[]⟩,none⟩),
 (4,⟨⟨[(3,false,[.own 1000004000]),(6,false,[dI])],[(1000004000,.root (.one (.int .u8)) true)]⟩,
 ⟨[(3,false,[.own 1000004300])],[(1000004300,.root (.one (.int .u8)) true)]⟩,none⟩)] Tryz.func185
def gP (b0:List Int) (v1:wQ):Option (List Int) :=
 (al v1).bind λt7 =>
 cond (!t7)
 ((bJ b0).bind λt10 =>
 some t10)
 (cond (v1.1==2)
 ((em v1.2.1).bind λt17 =>
 (bu b0 v1.1 t17).bind λt32 =>
 some t32)
 (cond (v1.1==4)
 ((bu b0 v1.1 (vU v1.2.2.1)).bind λt32_1 =>
 some t32_1)
 (cond (v1.1==6)
 ((dh v1.2.2.2).bind λt27 =>
 (bu b0 v1.1 t27).bind λt32_2 =>
 some t32_2)
 ((bu b0 v1.1 []).bind λt32_3 =>
 some t32_3))))
def mh:FL:=(183,⟨[.val false uG false,.val true yd false],[.val false uG (some true)],λa=>gP a.1 a.2⟩)::mg
theorem rr:Gd mh:=tv rq 183 Tryz.f183 [] Tryz.func183
def eq (out0:List Int) (tag1:Int) (n2:Int):Option (List Int) :=
 (em n2).bind λt10 =>
 (bu out0 tag1 t10).bind λt11 =>
 some t11
def mi:FL:=(186,⟨[.val false uG false,.val false tu false,.val false tu false],[.val false uG (some true)],λa=>eq a.1 a.2.1 a.2.2⟩)::mh
theorem ru:Gd mi:=tv rr 186 Tryz.f186 [] Tryz.func186
def es (p0:tQ) (t18:Int) (t3:List Int):Option ((Int×List Int)⊕((List Int)⊕(List Int))) :=
 cond (decide (t18<(p0.2.2.2.2.length:Int)))
 ((at? p0.2.2.2.2 t18).bind λx20 =>
 (dh x20.1).bind λt25 =>
 (bu [] 6 t25).bind λt26 =>
 (gP t26 x20.2).bind λt29 =>
 (de 48 t29).bind λt30 =>
 cond (!t30.2)
 (some (.inr (.inr [])))
 ((tJ t3 t30.1).bind λzs37 =>
 some (.inl (te (t18+1),zs37))))
 (some (.inr (.inl t3)))
def fm (p0:tQ):Option (List Int) :=
 (cY p0).bind λt13 =>
 cond (!t13)
 (some [])
 ((loop (λz=>es p0 z.1 z.2) (0,[])).bind (Sum.elim (λd =>
 (de 48 d).bind λt41 =>
 cond (!t41.2)
 (some [])
 ((eq [] 2 p0.2.1).bind λt51 =>
 (eq t51 2 p0.2.2.1).bind λt54 =>
 (eq t54 2 p0.2.2.2.1).bind λt57 =>
 (tJ t57 t41.1).bind λzs59 =>
 (de p0.1 zs59).bind λt60 =>
 cond (!t60.2) (some []) (some t60.1))) (λr=>some r)))
def mj:FL:=(94,⟨[.val true vk false],[.val false uG (some true)],λa=>fm a⟩)::mi
theorem rz:Gd mj:=tv ru 94 Tryz.f94 [(0,⟨⟨[(3,false,[.own 1000000000]),(18,false,[dI])],[(1000000000,.root (.one (.int .u8)) true)]⟩,
 ⟨[(3,false,[.own 1000000300])],[(1000000300,.root (.one (.int .u8)) true)]⟩,some ⟨[(2,false,[.own 1000000600])],[(1000000600,.root (.one (.int .u8)) true)]⟩⟩)] Tryz.func94
def iG (r0:Aa):Option (Aa×Bool) :=
 (cond (!r0.2.2) (some (r0.2.1==(r0.1.length:Int))) (some false)).bind λt19 =>
 some (r0,t19)
def ml:FL:=(351,⟨[.ptr A9 none],[.val false uf (some true)],λa=>iG a⟩)::mj
theorem rA:Gd ml:=tv rz 351 Tryz.f351 [] Tryz.func351
def ax (b0:List Int) (n5:Int) (t11:Int) (out4:List Int):Option ((Int×Int×List Int)⊕((List Int)⊕(Bool×List Int))) :=
 cond (decide (t11<(b0.length:Int)))
 ((at? b0 t11).bind λx14 =>
 cond (decide (t11>=40))
 (some (.inr (.inr (false,[]))))
 (let n5_1:=AE .i64 (te ((min2 n5 1048576)*2^7)) (te (wT .u8 x14 127))
 cond (decide (x14<128))
 ((tJ out4 [n5_1]).bind λzs30 =>
 some (.inl (0,te (t11+1),zs30)))
 (some (.inl (n5_1,te (t11+1),out4)))))
 (some (.inr (.inl out4)))
def cg (b0:List Int):Option ((List Int)×Bool) :=
 (loop (λz=>ax b0 z.1 z.2.1 z.2.2) (0,0,[])).bind (Sum.elim (λd =>
 (dh d).bind λt33 =>
 (cond ((t33.length:Int)==0) (some true) (some (!((uL t33)==(uL b0))))).bind λt43 =>
 cond t43 (some ([],false)) (some (d,true))) (λr=>some (r.2,r.1)))
def mn:FL:=(366,⟨[.val false uG false],[.val false vL (some true),.val false uf (some true)],λa=>cg a⟩)::ml
theorem rB:Gd mn:=tv rA 366 Tryz.f366 [(0,⟨⟨[(4,false,[.own 1000000000]),(5,false,[dI]),(11,false,[dI])],[(1000000000,.root tu true)]⟩,
 ⟨[(4,false,[.own 1000000300])],[(1000000300,.root tu true)]⟩,some ⟨[(2,false,[.own 1000000600]),(3,false,[dB])],[(1000000600,.root tu true)]⟩⟩)] Tryz.func366
def gQ (b0:List Int) (at1:Int):Option (wQ×Int×Bool) :=
 (cZ b0 at1).bind λt15 =>
 cond (!t15.2.2.2)
 (some ((0,0,[],[]),0,false))
 (cond (t15.1==2)
 ((fk t15.2.1).bind λt33 =>
 (cond (!t33.2)
 (some true)
 ((al (t15.1,t33.1,[],[])).bind λt54 =>
 some (!t54))).bind λt56 =>
 cond t56
 (some ((0,0,[],[]),0,false))
 (some ((t15.1,t33.1,[],[]),t15.2.2.1,true)))
 (cond (t15.1==4)
 ((cond (!t15.2.2.2)
 (some true)
 ((al (t15.1,0,uL t15.2.1,[])).bind λt54_1 =>
 some (!t54_1))).bind λt56_1 =>
 cond t56_1
 (some ((0,0,[],[]),0,false))
 (some ((t15.1,0,uL t15.2.1,[]),t15.2.2.1,true)))
 (cond (t15.1==6)
 ((cg t15.2.1).bind λt46 =>
 (cond (!t46.2)
 (some true)
 ((al (t15.1,0,[],t46.1)).bind λt54_2 =>
 some (!t54_2))).bind λt56_2 =>
 cond t56_2
 (some ((0,0,[],[]),0,false))
 (some ((t15.1,0,[],t46.1),t15.2.2.1,true)))
 (let ok10:=(t15.2.1.length:Int)==0
 (cond (!ok10)
 (some true)
 ((al (t15.1,0,[],[])).bind λt54_3 =>
 some (!t54_3))).bind λt56_3 =>
 cond t56_3
 (some ((0,0,[],[]),0,false))
 (some ((t15.1,0,[],[]),t15.2.2.1,true))))))
def mo:FL:=(367,⟨[.val false uG false,.val false tu false],[.val true yd (some true),.val false tu (some true),.val false uf (some true)],λa=>gQ a.1 a.2⟩)::mn
theorem rC:Gd mo:=tv rB 367 Tryz.f367 [] Tryz.func367
def gR (b0:List Int):Option (tg×Bool) :=
 (bK (b0,0,false) 6).bind λt15 =>
 (cg t15.2).bind λt16 =>
 (gQ b0 t15.1.2.1).bind λt25 =>
 (cond t15.1.2.2 (some true) (some (!t16.2))).bind λt36 =>
 (cond t36 (some true) (some (!t25.2.2))).bind λt40 =>
 (cond t40 (some true) (some (t25.2.1 != (b0.length:Int)))).bind λt46 =>
 cond t46
 (some (([],0,0,[],[]),false))
 (some ((t16.1,t25.1.1,t25.1.2.1,t25.1.2.2.1,t25.1.2.2.2),true))
def mp:FL:=(352,⟨[.val false uG false],[.val true tG (some true),.val false uf (some true)],λa=>gR a⟩)::mo
theorem rD:Gd mp:=tv rC 352 Tryz.f352 [] Tryz.func352
def aE (b0:Int) (b1:Int) (b2:Int) (b3:Int) (b0_1:Int) (b1_1:Int) (b2_1:Int) (b3_1:Int) (b0_2:List Int) (b1_2:Int) (b2_2:Bool) (b4:List tg) (b4_1:List tg):Option ((Int×Int×Int×Int×Int×Int×Int×Int×List Int×Int×Bool×List tg×List tg)⊕((Int×Int×Int×Int×Int×Int×Int×Int×List Int×Int×Bool×List tg×List tg)⊕(Bool×Int×Int×Int×Int×List tg))) :=
 cond (decide (b1_2<(b0_2.length:Int)))
 ((bK (b0_2,b1_2,b2_2) 48).bind λt64 =>
 (gR t64.2).bind λt65 =>
 (cond (!t65.2) (some true) (some (decide ((b4_1.length:Int)>=10)))).bind λt75 =>
 cond t75
 (some (.inr (.inr (false,0,0,0,0,[]))))
 ((tJ b4_1 [t65.1]).bind λzs81 =>
 some (.inl (b0,b1,b2,b3,b0_1,b1_1,b2_1,b3_1,t64.1.1,t64.1.2.1,t64.1.2.2,b4,zs81))))
 (some (.inr (.inl (b0,b1,b2,b3,b0_1,b1_1,b2_1,b3_1,b0_2,b1_2,b2_2,b4,b4_1))))
def gS (p0:List Int):Option (tQ×Bool) :=
 (cZ p0 0).bind λt16 =>
 (cond (!t16.2.2.2) (some true) (some (t16.2.2.1 != (p0.length:Int)))).bind λt28 =>
 cond t28
 (some ((0,0,0,0,[]),false))
 ((da (t16.2.1,0,false) 2).bind λt36 =>
 (da t36.1 2).bind λt39 =>
 (da t39.1 2).bind λt42 =>
 (bK t42.1 48).bind λt45 =>
 (iG t45.1).bind λt49 =>
 cond (!t49.2)
 (some ((0,0,0,0,[]),false))
 ((loop (λz=>aE z.1 z.2.1 z.2.2.1 z.2.2.2.1 z.2.2.2.2.1 z.2.2.2.2.2.1 z.2.2.2.2.2.2.1 z.2.2.2.2.2.2.2.1 z.2.2.2.2.2.2.2.2.1 z.2.2.2.2.2.2.2.2.2.1 z.2.2.2.2.2.2.2.2.2.2.1 z.2.2.2.2.2.2.2.2.2.2.2.1 z.2.2.2.2.2.2.2.2.2.2.2.2) (0,0,0,0,t16.1,t36.2,t39.2,t42.2,t45.2,0,false,[],[])).bind (Sum.elim (λd =>
 (fm (d.2.2.2.2.1,d.2.2.2.2.2.1,d.2.2.2.2.2.2.1,d.2.2.2.2.2.2.2.1,d.2.2.2.2.2.2.2.2.2.2.2.2)).bind λt84 =>
 (cond ((t84.length:Int)==0) (some true) (some (!((uL t84)==(uL p0))))).bind λt94 =>
 cond t94
 (some ((0,0,0,0,[]),false))
 (some ((d.2.2.2.2.1,d.2.2.2.2.2.1,d.2.2.2.2.2.2.1,d.2.2.2.2.2.2.2.1,d.2.2.2.2.2.2.2.2.2.2.2.2),true))) (λr=>some (r.2,r.1)))))
def mq:FL:=(319,⟨[.val false uG false],[.val true vk (some true),.val false uf (some true)],λa=>gS a⟩)::mp
theorem rE:Gd mq:=tv rD 319 Tryz.f319 [(0,⟨⟨us 71 4 [],[(1024,.box [dI,dI,dI,dI,.own 1000000000]),(1051648,.box [dI,dI,dI,dI,.own 1000000001]),(2363392,.box [.dat (.sl (.one (.int .u8))),dI,dB]),(1000000000,.root tG true),(1000000001,.root tG true)]⟩,
 ⟨[],[(1024,.box [dI,dI,dI,dI,.own 1000000300]),(1051648,.box [dI,dI,dI,dI,.own 1000000301]),(2363392,.box [.dat (.sl (.one (.int .u8))),dI,dB]),(1000000300,.root tG true),(1000000301,.root tG true)]⟩,some ⟨[(3,false,[dB])],[(1024,.box [dI,dI,dI,dI,.own 1000000600]),(1000000600,.root tG true)]⟩⟩)] Tryz.func319
def eu (p0:List UInt8) (i1:List Int):Option (tQ×Int) :=
 (cZ i1 0).bind λt17 =>
 (cond (!t17.2.2.2) (some true) (some (t17.1 != 48))).bind λt27 =>
 (cond t27 (some true) (some (t17.2.2.1 != (i1.length:Int)))).bind λt33 =>
 cond t33
 (some ((0,0,0,0,[]),1))
 ((da (t17.2.1,0,false) 2).bind λt39 =>
 (bK t39.1 4).bind λt41 =>
 cond t41.1.2.2
 (some ((0,0,0,0,[]),1))
 (cond (t39.2 != 1)
 (some ((0,0,0,0,[]),2))
 (cond (!((uL t41.2)==p0))
 (some ((0,0,0,0,[]),3))
 ((cut t17.2.1 t41.1.2.1 (t17.2.1.length:Int)).bind λt64 =>
 (gS t64).bind λt65 =>
 cond (!t65.2) (some ((0,0,0,0,[]),1)) (some (t65.1,0))))))
def mr:FL:=(236,⟨[.val false FO false,.val false uG false],[.val true vk (some true),.val false tu (some true)],λa=>eu a.1 a.2⟩)::mq
theorem rF:Gd mr:=tv rE 236 Tryz.f236 [] Tryz.func236
def ch (a0:tB) (k1:Int):Option tB :=
 (vj a0.2.2.2.2.2.2.2.2.2.2.2.2.1.length 0 k1).bind λp =>
 (vj a0.2.2.2.2.2.2.2.2.2.2.2.2.1.length (te (k1+1)) (a0.2.2.2.2.2.2.2.2.2.2.2.2.1.length:Int)).bind λp_1 =>
 (DC a0.2.2.2.2.2.2.2.2.2.2.2.2.1 p.1 p.2 p_1.1 p_1.2).bind λzs18 =>
 some (a0.1,a0.2.1,a0.2.2.1,a0.2.2.2.1,a0.2.2.2.2.1,a0.2.2.2.2.2.1,a0.2.2.2.2.2.2.1,a0.2.2.2.2.2.2.2.1,a0.2.2.2.2.2.2.2.2.1,a0.2.2.2.2.2.2.2.2.2.1,a0.2.2.2.2.2.2.2.2.2.2.1,a0.2.2.2.2.2.2.2.2.2.2.2.1,zs18,a0.2.2.2.2.2.2.2.2.2.2.2.2.2.1,a0.2.2.2.2.2.2.2.2.2.2.2.2.2.2)
def mt:FL:=(313,⟨[.ptr ul (some true),.val false tu false],[],λa=>ch a.1 a.2⟩)::mr
theorem rG:Gd mt:=tv rF 313 Tryz.f313 [] Tryz.func313
def fo (a0:tB) (k1:Int):Option tB :=
 (ix a0.2.2.2.2.2.2.2.2.2.2.2.2.1.length k1).bind λj10 =>
 (ao (a0.1,a0.2.1,a0.2.2.1,a0.2.2.2.1,a0.2.2.2.2.1,a0.2.2.2.2.2.1,a0.2.2.2.2.2.2.1,a0.2.2.2.2.2.2.2.1,a0.2.2.2.2.2.2.2.2.1,a0.2.2.2.2.2.2.2.2.2.1,a0.2.2.2.2.2.2.2.2.2.2.1)).bind λt18 =>
 (a0.2.2.2.2.2.2.2.2.2.2.2.2.1[j10]?).bind λx =>
 ((a0.2.2.2.2.2.2.2.2.2.2.2.2.1.set j10 (x.1,x.2.1,1,x.2.2.2.1,x.2.2.2.2.1,x.2.2.2.2.2.1,x.2.2.2.2.2.2.1,x.2.2.2.2.2.2.2.1,x.2.2.2.2.2.2.2.2.1,x.2.2.2.2.2.2.2.2.2.1,x.2.2.2.2.2.2.2.2.2.2.1,x.2.2.2.2.2.2.2.2.2.2.2.1,x.2.2.2.2.2.2.2.2.2.2.2.2.1,x.2.2.2.2.2.2.2.2.2.2.2.2.2.1,x.2.2.2.2.2.2.2.2.2.2.2.2.2.2.1,x.2.2.2.2.2.2.2.2.2.2.2.2.2.2.2.1,x.2.2.2.2.2.2.2.2.2.2.2.2.2.2.2.2.1,x.2.2.2.2.2.2.2.2.2.2.2.2.2.2.2.2.2.1,x.2.2.2.2.2.2.2.2.2.2.2.2.2.2.2.2.2.2.1,x.2.2.2.2.2.2.2.2.2.2.2.2.2.2.2.2.2.2.2.1,x.2.2.2.2.2.2.2.2.2.2.2.2.2.2.2.2.2.2.2.2))[j10]?).bind λx_1 =>
 (((a0.2.2.2.2.2.2.2.2.2.2.2.2.1.set j10 (x.1,x.2.1,1,x.2.2.2.1,x.2.2.2.2.1,x.2.2.2.2.2.1,x.2.2.2.2.2.2.1,x.2.2.2.2.2.2.2.1,x.2.2.2.2.2.2.2.2.1,x.2.2.2.2.2.2.2.2.2.1,x.2.2.2.2.2.2.2.2.2.2.1,x.2.2.2.2.2.2.2.2.2.2.2.1,x.2.2.2.2.2.2.2.2.2.2.2.2.1,x.2.2.2.2.2.2.2.2.2.2.2.2.2.1,x.2.2.2.2.2.2.2.2.2.2.2.2.2.2.1,x.2.2.2.2.2.2.2.2.2.2.2.2.2.2.2.1,x.2.2.2.2.2.2.2.2.2.2.2.2.2.2.2.2.1,x.2.2.2.2.2.2.2.2.2.2.2.2.2.2.2.2.2.1,x.2.2.2.2.2.2.2.2.2.2.2.2.2.2.2.2.2.2.1,x.2.2.2.2.2.2.2.2.2.2.2.2.2.2.2.2.2.2.2.1,x.2.2.2.2.2.2.2.2.2.2.2.2.2.2.2.2.2.2.2.2)).set j10 (x_1.1,x_1.2.1,x_1.2.2.1,x_1.2.2.2.1,x_1.2.2.2.2.1,x_1.2.2.2.2.2.1,x_1.2.2.2.2.2.2.1,x_1.2.2.2.2.2.2.2.1,x_1.2.2.2.2.2.2.2.2.1,x_1.2.2.2.2.2.2.2.2.2.1,x_1.2.2.2.2.2.2.2.2.2.2.1,x_1.2.2.2.2.2.2.2.2.2.2.2.1,x_1.2.2.2.2.2.2.2.2.2.2.2.2.1,x_1.2.2.2.2.2.2.2.2.2.2.2.2.2.1,x_1.2.2.2.2.2.2.2.2.2.2.2.2.2.2.1,x_1.2.2.2.2.2.2.2.2.2.2.2.2.2.2.2.1,x_1.2.2.2.2.2.2.2.2.2.2.2.2.2.2.2.2.1,x_1.2.2.2.2.2.2.2.2.2.2.2.2.2.2.2.2.2.1,x_1.2.2.2.2.2.2.2.2.2.2.2.2.2.2.2.2.2.2.1,0,x_1.2.2.2.2.2.2.2.2.2.2.2.2.2.2.2.2.2.2.2.2))[j10]?).bind λx_2 =>
 some (a0.1,a0.2.1,a0.2.2.1,a0.2.2.2.1,a0.2.2.2.2.1,a0.2.2.2.2.2.1,a0.2.2.2.2.2.2.1,a0.2.2.2.2.2.2.2.1,a0.2.2.2.2.2.2.2.2.1,a0.2.2.2.2.2.2.2.2.2.1,a0.2.2.2.2.2.2.2.2.2.2.1,a0.2.2.2.2.2.2.2.2.2.2.2.1,((a0.2.2.2.2.2.2.2.2.2.2.2.2.1.set j10 (x.1,x.2.1,1,x.2.2.2.1,x.2.2.2.2.1,x.2.2.2.2.2.1,x.2.2.2.2.2.2.1,x.2.2.2.2.2.2.2.1,x.2.2.2.2.2.2.2.2.1,x.2.2.2.2.2.2.2.2.2.1,x.2.2.2.2.2.2.2.2.2.2.1,x.2.2.2.2.2.2.2.2.2.2.2.1,x.2.2.2.2.2.2.2.2.2.2.2.2.1,x.2.2.2.2.2.2.2.2.2.2.2.2.2.1,x.2.2.2.2.2.2.2.2.2.2.2.2.2.2.1,x.2.2.2.2.2.2.2.2.2.2.2.2.2.2.2.1,x.2.2.2.2.2.2.2.2.2.2.2.2.2.2.2.2.1,x.2.2.2.2.2.2.2.2.2.2.2.2.2.2.2.2.2.1,x.2.2.2.2.2.2.2.2.2.2.2.2.2.2.2.2.2.2.1,x.2.2.2.2.2.2.2.2.2.2.2.2.2.2.2.2.2.2.2.1,x.2.2.2.2.2.2.2.2.2.2.2.2.2.2.2.2.2.2.2.2)).set j10 (x_1.1,x_1.2.1,x_1.2.2.1,x_1.2.2.2.1,x_1.2.2.2.2.1,x_1.2.2.2.2.2.1,x_1.2.2.2.2.2.2.1,x_1.2.2.2.2.2.2.2.1,x_1.2.2.2.2.2.2.2.2.1,x_1.2.2.2.2.2.2.2.2.2.1,x_1.2.2.2.2.2.2.2.2.2.2.1,x_1.2.2.2.2.2.2.2.2.2.2.2.1,x_1.2.2.2.2.2.2.2.2.2.2.2.2.1,x_1.2.2.2.2.2.2.2.2.2.2.2.2.2.1,x_1.2.2.2.2.2.2.2.2.2.2.2.2.2.2.1,x_1.2.2.2.2.2.2.2.2.2.2.2.2.2.2.2.1,x_1.2.2.2.2.2.2.2.2.2.2.2.2.2.2.2.2.1,x_1.2.2.2.2.2.2.2.2.2.2.2.2.2.2.2.2.2.1,x_1.2.2.2.2.2.2.2.2.2.2.2.2.2.2.2.2.2.2.1,0,x_1.2.2.2.2.2.2.2.2.2.2.2.2.2.2.2.2.2.2.2.2)).set j10 (x_2.1,x_2.2.1,x_2.2.2.1,x_2.2.2.2.1,x_2.2.2.2.2.1,x_2.2.2.2.2.2.1,x_2.2.2.2.2.2.2.1,x_2.2.2.2.2.2.2.2.1,t18.1,t18.2.1,t18.2.2.1,t18.2.2.2.1,t18.2.2.2.2.1,t18.2.2.2.2.2.1,t18.2.2.2.2.2.2.1,t18.2.2.2.2.2.2.2.1,t18.2.2.2.2.2.2.2.2.1,t18.2.2.2.2.2.2.2.2.2.1,t18.2.2.2.2.2.2.2.2.2.2,x_2.2.2.2.2.2.2.2.2.2.2.2.2.2.2.2.2.2.2.2.1,x_2.2.2.2.2.2.2.2.2.2.2.2.2.2.2.2.2.2.2.2.2),a0.2.2.2.2.2.2.2.2.2.2.2.2.2.1,a0.2.2.2.2.2.2.2.2.2.2.2.2.2.2)
def mu:FL:=(314,⟨[.ptr ul (some true),.val false tu false],[],λa=>fo a.1 a.2⟩)::mt
theorem rH:Gd mu:=tv rG 314 Tryz.f314 [] Tryz.func314
def fp (p0:tB) (i1:Int):Option tB :=
 (ix p0.2.2.2.2.2.2.2.2.2.2.2.2.1.length i1).bind λj16 =>
 (p0.2.2.2.2.2.2.2.2.2.2.2.2.1[j16]?).bind λx18 =>
 (eu p0.2.2.2.2.2.2.2.2.2.2.2.1 x18.2.1).bind λt19 =>
 cond (t19.2==3)
 ((bf p0.2.2.2.2.2.2.2.2.1).bind λt42 =>
 (ch (p0.1,p0.2.1,p0.2.2.1,p0.2.2.2.1,p0.2.2.2.2.1,p0.2.2.2.2.2.1,p0.2.2.2.2.2.2.1,p0.2.2.2.2.2.2.2.1,t42,p0.2.2.2.2.2.2.2.2.2.1,p0.2.2.2.2.2.2.2.2.2.2.1,p0.2.2.2.2.2.2.2.2.2.2.2.1,p0.2.2.2.2.2.2.2.2.2.2.2.2.1,p0.2.2.2.2.2.2.2.2.2.2.2.2.2.1,p0.2.2.2.2.2.2.2.2.2.2.2.2.2.2) i1).bind λt48 =>
 some t48)
 ((cond (t19.2 != 0) (some true) (some (t19.1.1==162))).bind λt56 =>
 cond t56
 ((bf p0.2.2.2.2.2.2.2.1).bind λt63 =>
 (ch (p0.1,p0.2.1,p0.2.2.1,p0.2.2.2.1,p0.2.2.2.2.1,p0.2.2.2.2.2.1,p0.2.2.2.2.2.2.1,t63,p0.2.2.2.2.2.2.2.2.1,p0.2.2.2.2.2.2.2.2.2.1,p0.2.2.2.2.2.2.2.2.2.2.1,p0.2.2.2.2.2.2.2.2.2.2.2.1,p0.2.2.2.2.2.2.2.2.2.2.2.2.1,p0.2.2.2.2.2.2.2.2.2.2.2.2.2.1,p0.2.2.2.2.2.2.2.2.2.2.2.2.2.2) i1).bind λt69 =>
 some t69)
 ((ix p0.2.2.2.2.2.2.2.2.2.2.2.2.1.length i1).bind λj28 =>
 (p0.2.2.2.2.2.2.2.2.2.2.2.2.1[j28]?).bind λx =>
 (fo (p0.1,p0.2.1,p0.2.2.1,p0.2.2.2.1,p0.2.2.2.2.1,p0.2.2.2.2.2.1,p0.2.2.2.2.2.2.1,p0.2.2.2.2.2.2.2.1,p0.2.2.2.2.2.2.2.2.1,p0.2.2.2.2.2.2.2.2.2.1,p0.2.2.2.2.2.2.2.2.2.2.1,p0.2.2.2.2.2.2.2.2.2.2.2.1,p0.2.2.2.2.2.2.2.2.2.2.2.2.1.set j28 (x.1,x.2.1,x.2.2.1,t19.1.1,t19.1.2.1,t19.1.2.2.1,t19.1.2.2.2.1,t19.1.2.2.2.2,x.2.2.2.2.2.2.2.2.1,x.2.2.2.2.2.2.2.2.2.1,x.2.2.2.2.2.2.2.2.2.2.1,x.2.2.2.2.2.2.2.2.2.2.2.1,x.2.2.2.2.2.2.2.2.2.2.2.2.1,x.2.2.2.2.2.2.2.2.2.2.2.2.2.1,x.2.2.2.2.2.2.2.2.2.2.2.2.2.2.1,x.2.2.2.2.2.2.2.2.2.2.2.2.2.2.2.1,x.2.2.2.2.2.2.2.2.2.2.2.2.2.2.2.2.1,x.2.2.2.2.2.2.2.2.2.2.2.2.2.2.2.2.2.1,x.2.2.2.2.2.2.2.2.2.2.2.2.2.2.2.2.2.2.1,x.2.2.2.2.2.2.2.2.2.2.2.2.2.2.2.2.2.2.2.1,x.2.2.2.2.2.2.2.2.2.2.2.2.2.2.2.2.2.2.2.2),p0.2.2.2.2.2.2.2.2.2.2.2.2.2.1,p0.2.2.2.2.2.2.2.2.2.2.2.2.2.2) i1).bind λt32 =>
 some t32))
def mw:FL:=(234,⟨[.ptr ul (some true),.val false tu false],[],λa=>fp a.1 a.2⟩)::mu
theorem rI:Gd mw:=tv rH 234 Tryz.f234 [] Tryz.func234
def aV (p0:tQ):Option Bool :=
 (fm p0).bind λt4 =>
 (ac (t4.length:Int) 1 120).bind λt6 =>
 some t6
def my:FL:=(18,⟨[.val true vk false],[.val false uf (some true)],λa=>aV a⟩)::mw
theorem rJ:Gd my:=tv rI 18 Tryz.f18 [] Tryz.func18
def aL (v0:wQ) (name1:List Int):Option tg :=
 (tJ ([1,3,1]:List Int) name1).bind λzs7 =>
 some (zs7,v0.1,v0.2.1,v0.2.2.1,v0.2.2.2)
def mz:FL:=(187,⟨[.val true yd false,.val false vL false],[.val true tG none],λa=>aL a.1 a.2⟩)::my
theorem rK:Gd mz:=tv rJ 187 Tryz.f187 [] Tryz.func187
def bj (n0:Int):Option wQ :=
 some (2,n0,[],[])
def mC:FL:=(188,⟨[.val false tu false],[.val true yd (some true)],λa=>bj a⟩)::mz
theorem rL:Gd mC:=tv rK 188 Tryz.f188 [] Tryz.func188
def fq (is0:Bool):Option Int :=
 cond is0 (some 1) (some 0)
def mD:FL:=(294,⟨[.val false uf false],[.val false tu (some true)],λa=>fq a⟩)::mC
theorem rM:Gd mD:=tv rL 294 Tryz.f294 [] Tryz.func294
def ev (a0:zN) (b1:zN):Option Bool :=
 cond (a0.1 != b1.1)
 (some (decide (a0.1<b1.1)))
 (cond (a0.2.1 != b1.2.1)
 (some (decide (a0.2.1<b1.2.1)))
 (cond (a0.2.2.2.1 != b1.2.2.2.1)
 (let t4:=decide (a0.2.2.2.1<b1.2.2.2.1)
 some t4)
 (let t4_1:=decide (a0.2.2.2.2<b1.2.2.2.2)
 some t4_1)))
def mE:FL:=(345,⟨[.val true yr false,.val true yr false],[.val false uf (some true)],λa=>ev a.1 a.2⟩)::mD
theorem rN:Gd mE:=tv rM 345 Tryz.f345 [] Tryz.func345
def fr (v0:zN) (cost1:Int):Option (zN×Bool) :=
 (cX v0).bind λt8 =>
 (cond (!t8)
 (some true)
 ((ac cost1 1 1000).bind λt12 =>
 some (!t12))).bind λt14 =>
 cond t14
 (some (v0,false))
 ((cX (v0.1,te (v0.2.1+cost1),te (v0.2.2.1+1),v0.2.2.2.1,v0.2.2.2.2)).bind λt27 =>
 cond (!t27)
 (some (v0,false))
 (some ((v0.1,te (v0.2.1+cost1),te (v0.2.2.1+1),v0.2.2.2.1,v0.2.2.2.2),true)))
def mF:FL:=(364,⟨[.val true yr false,.val false tu false],[.val true yr (some true),.val false uf (some true)],λa=>fr a.1 a.2⟩)::mE
theorem rO:Gd mF:=tv rN 364 Tryz.f364 [] Tryz.func364
def ew (p0:Int) (i1:List Pt) (t7:Int) (t18:Int) (b0:Int) (b1:Int) (b2:Int) (b3:Int) (b4:Int) (b0_1:Int) (b1_1:Int) (b2_1:Int) (b3_1:Int) (b4_1:Int):Option ((Int×Int×Int×Int×Int×Int×Int×Int×Int×Int×Int×Int)⊕(Int×Int×Int×Int×Int×Int×Int×Int×Int×Int×Int)) :=
 cond (decide (t18<(i1.length:Int)))
 ((at? i1 t18).bind λx21 =>
 (cond (!x21.1) (some true) (some (!x21.2.2.1))).bind λt30 =>
 cond t30
 (some (.inl (t7,te (t18+1),b0,b1,b2,b3,b4,b0_1,b1_1,b2_1,b3_1,b4_1)))
 ((fr x21.2.2.2 x21.2.1).bind λt36 =>
 (cond t36.2 (some (decide (t36.1.1<p0))) (some false)).bind λt45 =>
 (cond t45
 ((cond (decide (t7<0))
 (some true)
 ((ev t36.1 (b0_1,b1_1,b2_1,b3_1,b4_1)).bind λt52 =>
 some t52)).bind λt53 =>
 some t53)
 (some false)).bind λt54 =>
 cond t54
 (some (.inl (t18,te (t18+1),t36.1.1,t36.1.2.1,t36.1.2.2.1,p0,0,t36.1.1,t36.1.2.1,t36.1.2.2.1,t36.1.2.2.2.1,t36.1.2.2.2.2)))
 (some (.inl (t7,te (t18+1),b0,b1,b2,b3,b4,b0_1,b1_1,b2_1,b3_1,b4_1)))))
 (some (.inr (t7,b0,b1,b2,b3,b4,b0_1,b1_1,b2_1,b3_1,b4_1)))
def bL (p0:Int) (i1:List Pt):Option (zN×Int) :=
 (loop (λz=>ew p0 i1 z.1 z.2.1 z.2.2.1 z.2.2.2.1 z.2.2.2.2.1 z.2.2.2.2.2.1 z.2.2.2.2.2.2.1 z.2.2.2.2.2.2.2.1 z.2.2.2.2.2.2.2.2.1 z.2.2.2.2.2.2.2.2.2.1 z.2.2.2.2.2.2.2.2.2.2.1 z.2.2.2.2.2.2.2.2.2.2.2) ((-1),0,p0,0,0,p0,0,0,0,0,0,0)).bind λd =>
 some ((d.2.1,d.2.2.1,d.2.2.2.1,d.2.2.2.2.1,d.2.2.2.2.2.1),d.1)
def mG:FL:=(344,⟨[.val false tu false,.val false (.one (.sl vD)) false],[.val true yr (some true),.val false tu (some true)],λa=>bL a.1 a.2⟩)::mF
theorem rP:Gd mG:=tv rO 344 Tryz.f344 [(0,⟨⟨(7,false,[dI])::(18,false,[dI])::us 27 3 (us 41 4 (us 47 7 [])),[(266240,.box [dI,dI,dI,dI,dI]),(525312,.box [dI,dI,dI,dI,dI])]⟩,
 ⟨[(7,false,[dI])],[(266240,.box [dI,dI,dI,dI,dI]),(525312,.box [dI,dI,dI,dI,dI])]⟩,none⟩)] Tryz.func344
def ft (id0:Int) (l1:List Pt) (port2:Int):Option zN :=
 (bL id0 l1).bind λt12 =>
 some (t12.1.1,t12.1.2.1,t12.1.2.2.1,t12.1.2.2.2.1,port2)
def mH:FL:=(346,⟨[.val false tu false,.val false (.one (.sl vD)) false,.val false tu false],[.val true yr (some true)],λa=>ft a.1 a.2.1 a.2.2⟩)::mG
theorem rQ:Gd mH:=tv rP 346 Tryz.f346 [] Tryz.func346
def aX (id0:Int) (l1:List Pt) (port2:Int):Option Int :=
 (ac port2 0 (te ((l1.length:Int)-1))).bind λt13 =>
 (cond (!t13)
 (some true)
 ((at? l1 port2).bind λx18 =>
 some (!x18.1))).bind λt22 =>
 cond t22
 (some 4)
 ((bL id0 l1).bind λt26 =>
 cond (t26.2==port2)
 (some 1)
 ((at? l1 port2).bind λx36 =>
 (cond (!x36.2.2.1)
 (some true)
 ((ft id0 l1 port2).bind λt44 =>
 (at? l1 port2).bind λx47 =>
 (ev t44 x47.2.2.2).bind λt50 =>
 some t50)).bind λt51 =>
 cond t51 (some 2) (some 3)))
def mI:FL:=(295,⟨[.val false tu false,.val false (.one (.sl vD)) false,.val false tu false],[.val false tu (some true)],λa=>aX a.1 a.2.1 a.2.2⟩)::mH
theorem rR:Gd mI:=tv rQ 295 Tryz.f295 [] Tryz.func295
def ci (b0:td) (c1:Int) (p2:Int):Option Int :=
 cond (c1==1)
 ((at? b0.2.2.1 p2).bind λx13 =>
 (fq x13.1).bind λt16 =>
 some t16)
 (cond (c1==2)
 ((at? b0.2.2.1 p2).bind λx22 =>
 some x22.2.1)
 (cond (c1==3)
 ((aX b0.1 b0.2.2.1 p2).bind λt32 =>
 some t32)
 ((at? b0.2.2.2.2.2.1 p2).bind λx37 =>
 some x37)))
def mJ:FL:=(189,⟨[.val true tK false,.val false tu false,.val false tu false],[.val false tu (some true)],λa=>ci a.1 a.2.1 a.2.2⟩)::mI
theorem rS:Gd mJ:=tv rR 189 Tryz.f189 [] Tryz.func189
def mK (p0:td) (t32:Int) (t3:List tg):Option ((Int×List tg)⊕(List tg)) :=
 cond (decide (t32<([p0.2.2.2.2.2.2.1,p0.2.2.2.2.2.2.2.1,p0.2.2.2.2.2.2.2.2.1,p0.2.2.2.2.2.2.2.2.2.1].length:Int)))
 ((ix [p0.2.2.2.2.2.2.1,p0.2.2.2.2.2.2.2.1,p0.2.2.2.2.2.2.2.2.1,p0.2.2.2.2.2.2.2.2.2.1].length t32).bind λj35 =>
 ([p0.2.2.2.2.2.2.1,p0.2.2.2.2.2.2.2.1,p0.2.2.2.2.2.2.2.2.1,p0.2.2.2.2.2.2.2.2.2.1][j35]?).bind λx36 =>
 (bj x36).bind λt39 =>
 (aL t39 [1,te (t32+2)]).bind λt43 =>
 (tJ t3 [t43]).bind λzs45 =>
 some (.inl (te (t32+1),zs45)))
 (some (.inr t3))
def bM (p0:td) (t6:Int) (t54:Int) (t3_3:List tg):Option ((Int×List tg)⊕(List tg)) :=
 cond (decide (t54<(p0.2.2.1.length:Int)))
 ((ci p0 t6 t54).bind λt61 =>
 (bj t61).bind λt62 =>
 (aL t62 [2,t6,te (t54+1)]).bind λt67 =>
 (tJ t3_3 [t67]).bind λzs69 =>
 some (.inl (te (t54+1),zs69)))
 (some (.inr t3_3))
def cj (p0:td) (t6:Int) (t3_2:List tg):Option ((Int×List tg)⊕(List tg)) :=
 cond (decide (t6<=4))
 ((loop (λz=>bM p0 t6 z.1 z.2) (0,t3_2)).bind λd_1 =>
 some (.inl (te (t6+1),d_1)))
 (some (.inr t3_2))
def bN (p0:td) (t8:Int) (t79:Int) (t3_7:List tg):Option ((Int×List tg)⊕(List tg)) :=
 cond (decide (t79<(p0.2.2.2.2.1.length:Int)))
 ((at? p0.2.2.2.2.1 t79).bind λx81 =>
 (ix [1,x81.2.1,x81.2.2].length (te (t8-1))).bind λj91 =>
 ([1,x81.2.1,x81.2.2][j91]?).bind λx92 =>
 (bj x92).bind λt93 =>
 (aL t93 [3,t8,x81.1]).bind λt98 =>
 (tJ t3_7 [t98]).bind λzs100 =>
 some (.inl (te (t79+1),zs100)))
 (some (.inr t3_7))
def ck (p0:td) (t8:Int) (t3_6:List tg):Option ((Int×List tg)⊕(List tg)) :=
 cond (decide (t8<=3))
 ((loop (λz=>bN p0 t8 z.1 z.2) (0,t3_6)).bind λd_3 =>
 some (.inl (te (t8+1),d_3)))
 (some (.inr t3_6))
def bv (p0:td) (t105:Int) (t3_10:List tg):Option ((Int×List tg)⊕(List tg)) :=
 cond (decide (t105<(p0.2.2.2.1.length:Int)))
 ((at? p0.2.2.2.1 t105).bind λx107 =>
 (bj (te (x107.2.2.1+1))).bind λt113 =>
 (aL t113 [4,1,x107.1,x107.2.1]).bind λt119 =>
 (tJ t3_10 [t119]).bind λzs121 =>
 some (.inl (te (t105+1),zs121)))
 (some (.inr t3_10))
def bO (p0:td):Option (List tg) :=
 (bc p0).bind λt14 =>
 cond (!t14)
 (some [])
 ((aL (4,0,p0.2.1,[]) ([1,1]:List Int)).bind λt20 =>
 (loop (λz=>mK p0 z.1 z.2) (0,[t20])).bind λd =>
 (loop (λz=>cj p0 z.1 z.2) (1,d)).bind λd_2 =>
 (loop (λz=>ck p0 z.1 z.2) (1,d_2)).bind λd_4 =>
 (loop (λz=>bv p0 z.1 z.2) (0,d_4)).bind λd_5 =>
 some d_5)
def mL:FL:=(95,⟨[.val true tK false],[.val false (.one (.sl tG)) none],λa=>bO a⟩)::mJ
theorem rT:Gd mL:=tv rS 95 Tryz.f95 [(0,⟨⟨[(3,false,[.own 1000000000]),(32,false,[dI])],[(1000000000,.root tG false)]⟩,
 ⟨[(3,false,[.own 1000000300])],[(1000000300,.root tG false)]⟩,none⟩),
 (2,⟨⟨[(3,false,[.own 1000002000]),(6,false,[dI])],[(1000002000,.root tG false)]⟩,
 ⟨[(3,false,[.own 1000002300])],[(1000002300,.root tG false)]⟩,none⟩),
 (4,⟨⟨[(3,false,[.own 1000004000]),(54,false,[dI])],[(1000004000,.root tG false)]⟩,
 ⟨[(3,false,[.own 1000004300])],[(1000004300,.root tG false)]⟩,none⟩),
 (6,⟨⟨[(3,false,[.own 1000006000]),(8,false,[dI])],[(1000006000,.root tG false)]⟩,
 ⟨[(3,false,[.own 1000006300])],[(1000006300,.root tG false)]⟩,none⟩),
 (8,⟨⟨[(3,false,[.own 1000008000]),(79,false,[dI])],[(1000008000,.root tG false)]⟩,
 ⟨[(3,false,[.own 1000008300])],[(1000008300,.root tG false)]⟩,none⟩),
 (10,⟨⟨[(3,false,[.own 1000010000]),(105,false,[dI])],[(1000010000,.root tG false)]⟩,
 ⟨[(3,false,[.own 1000010300])],[(1000010300,.root tG false)]⟩,none⟩)] Tryz.func95
def bx (o1:List Int) (t8:List tg) (t10:Int) (b0_1:Int) (b1:Int) (b2:List UInt8) (b3:List Int):Option ((Int×Int×Int×List UInt8×List Int)⊕((Int×Int×List UInt8×List Int)⊕(Int×Int×List UInt8×List Int))) :=
 cond (decide (t10<(t8.length:Int)))
 ((at? t8 t10).bind λx12 =>
 (ay x12.1 o1).bind λt17 =>
 cond t17
 (some (.inr (.inr x12.2)))
 (some (.inl (te (t10+1),b0_1,b1,b2,b3))))
 (some (.inr (.inl (b0_1,b1,b2,b3))))
def cl (b0:td) (o1:List Int):Option wQ :=
 (bO b0).bind λt8 =>
 (loop (λz=>bx o1 t8 z.1 z.2.1 z.2.2.1 z.2.2.2.1 z.2.2.2.2) (0,0,0,[],[])).bind (Sum.elim (λd =>
 some (128,0,[],[])) (λr=>some r))
def mM:FL:=(21,⟨[.val true tK false,.val false vL false],[.val true yd none],λa=>cl a.1 a.2⟩)::mL
theorem rU:Gd mM:=tv rT 21 Tryz.f21 [(0,⟨⟨[(10,false,[dI])],[(2048,.box [dI,dI,dS,.own 1000000000]),(1000000000,.root tu true)]⟩,
 ⟨[],[(2048,.box [dI,dI,dS,.own 1000000300]),(1000000300,.root tu true)]⟩,some ⟨[],[(2048,.box [dI,dI,dS,.dat (.sl tu)])]⟩⟩)] Tryz.func21
def ez (a0:List Int) (b1:List Int) (i5:Int):Option (Int⊕(Unit⊕Bool)) :=
 (cond (decide (i5<(a0.length:Int))) (some (decide (i5<(b1.length:Int)))) (some false)).bind λt15 =>
 cond t15
 ((at? a0 i5).bind λx20 =>
 (at? b1 i5).bind λx24 =>
 cond (x20 != x24)
 ((at? a0 i5).bind λx29 =>
 (at? b1 i5).bind λx33 =>
 some (.inr (.inr (decide (x29<x33)))))
 (some (.inl (te (i5+1)))))
 (some (.inr (.inl ())))
def fu (a0:List Int) (b1:List Int):Option Bool :=
 (loop (λz=>ez a0 b1 z) 0).bind (Sum.elim (λd =>
 let t4:=decide ((a0.length:Int)<(b1.length:Int))
 some t4) (λr=>some r))
def mN:FL:=(96,⟨[.val false vL false,.val false vL false],[.val false uf (some true)],λa=>fu a.1 a.2⟩)::mM
theorem rV:Gd mN:=tv rU 96 Tryz.f96 [(0,⟨⟨(5,false,[dI])::us 11 4 [],[]⟩,
 ⟨[],[]⟩,some ⟨[(4,false,[dB])],[]⟩⟩)] Tryz.func96
def cm (o1:List Int) (t8:List tg) (t10:Int) (b1:Int) (b2:Int) (b3:List UInt8) (b0_1:List Int) (b4:List Int):Option ((Int×Int×Int×List UInt8×List Int×List Int)⊕((Int×Int×List UInt8×List Int×List Int)⊕(List Int×Int×Int×List UInt8×List Int))) :=
 cond (decide (t10<(t8.length:Int)))
 ((at? t8 t10).bind λx12 =>
 (fu o1 x12.1).bind λt17 =>
 cond t17
 (some (.inr (.inr x12)))
 (some (.inl (te (t10+1),b1,b2,b3,b0_1,b4))))
 (some (.inr (.inl (b1,b2,b3,b0_1,b4))))
def bz (b0:td) (o1:List Int):Option tg :=
 (bO b0).bind λt8 =>
 (loop (λz=>cm o1 t8 z.1 z.2.1 z.2.2.1 z.2.2.2.1 z.2.2.2.2.1 z.2.2.2.2.2) (0,0,0,[],[],[])).bind (Sum.elim (λd =>
 (bh o1).bind λt21 =>
 some (t21,130,0,[],[])) (λr=>some r))
def mO:FL:=(22,⟨[.val true tK false,.val false vL false],[.val true tG none],λa=>bz a.1 a.2⟩)::mN
theorem rW:Gd mO:=tv rV 22 Tryz.f22 [(0,⟨⟨[(10,false,[dI])],[(2048,.box [.own 1000000000,dI,dI,dS,.own 1000000001]),(1000000000,.root tu true),(1000000001,.root tu true)]⟩,
 ⟨[],[(2048,.box [.own 1000000300,dI,dI,dS,.own 1000000301]),(1000000300,.root tu true),(1000000301,.root tu true)]⟩,some ⟨[],[(2048,.box [.dat (.sl tu),dI,dI,dS,.dat (.sl tu)])]⟩⟩)] Tryz.func22
def eA (p0:td) (t24:List tg) (t26:Int) (t5:List tg):Option ((Int×List tg)⊕(List tg)) :=
 cond (decide (t26<(t24.length:Int)))
 ((at? t24 t26).bind λx28 =>
 (bz p0 x28.1).bind λt34 =>
 (tJ t5 [t34]).bind λzs36 =>
 some (.inl (te (t26+1),zs36)))
 (some (.inr t5))
def eB (t41:List tg) (t43:Int) (t9:List (List Int)):Option ((Int×List (List Int))⊕(List (List Int))) :=
 cond (decide (t43<(t41.length:Int)))
 ((at? t41 t43).bind λx45 =>
 (tJ t9 [x45.1]).bind λzs51 =>
 some (.inl (te (t43+1),zs51)))
 (some (.inr t9))
def dj (p0:td) (l:List (List Int)) (t71:Int) (t5_3:List tg) (l_1:List (List Int)):Option ((Int×List tg×List (List Int))⊕(List tg×List (List Int))) :=
 cond (decide (t71<(l.length:Int)))
 (cond (decide ((t5_3.length:Int)>=10))
 (some (.inr (t5_3,l_1)))
 ((ix l_1.length t71).bind λj80 =>
 (l_1[j80]?).bind λx81 =>
 (bz p0 x81).bind λt82 =>
 (ix l_1.length t71).bind λj87 =>
 (l_1[j87]?).bind λx =>
 (tJ t5_3 [t82]).bind λzs91 =>
 some (.inl (te (t71+1),zs91,l_1.set j87 t82.1))))
 (some (.inr (t5_3,l_1)))
def bP (p0:td) (i1:tQ) (t12:Int) (t5_2:List tg) (l:List (List Int)):Option ((Int×List tg×List (List Int))⊕(List tg×List (List Int))) :=
 (cond (decide (t12<i1.2.2.2.1)) (some (decide ((l.length:Int)>0))) (some false)).bind λt61 =>
 (cond t61 (some (decide ((t5_2.length:Int)<10))) (some false)).bind λt66 =>
 cond t66
 ((loop (λz=>dj p0 l z.1 z.2.1 z.2.2) (0,t5_2,l)).bind λd_2 =>
 some (.inl (te (t12+1),d_2.1,d_2.2)))
 (some (.inr (t5_2,l)))
def gT (p0:td) (i1:tQ):Option (List tg) :=
 let t6:=min2 i1.2.2.1 (i1.2.2.2.2.length:Int)
 (cut i1.2.2.2.2 0 t6).bind λt24 =>
 (loop (λz=>eA p0 t24 z.1 z.2) (0,[])).bind λd =>
 (cut i1.2.2.2.2 t6 (i1.2.2.2.2.length:Int)).bind λt41 =>
 (loop (λz=>eB t41 z.1 z.2) (0,[])).bind λd_1 =>
 (loop (λz=>bP p0 i1 z.1 z.2.1 z.2.2) (0,d,d_1)).bind λd_3 =>
 some d_3.1
def mP:FL:=(79,⟨[.val true tK false,.val true vk false],[.val false (.one (.sl tG)) none],λa=>gT a.1 a.2⟩)::mO
theorem rX:Gd mP:=tv rW 79 Tryz.f79 [(0,⟨⟨[(5,false,[.own 1000000000]),(26,false,[dI])],[(1000000000,.root tG false)]⟩,
 ⟨[(5,false,[.own 1000000300])],[(1000000300,.root tG false)]⟩,none⟩),
 (2,⟨⟨[(9,false,[.own 1000002000]),(43,false,[dI])],[(1000002000,.root vL false)]⟩,
 ⟨[(9,false,[.own 1000002300])],[(1000002300,.root vL false)]⟩,none⟩),
 (4,⟨⟨(5,false,[.own 1000004000])::(12,false,[dI])::us 58 3 (us 63 3 []),[(1000004000,.root tG false),(1000002300,.keep vL false)]⟩,
 ⟨[(5,false,[.own 1000004300])],[(1000004300,.root tG false),(1000002300,.keep vL false)]⟩,none⟩),
 (6,⟨⟨[(5,false,[.own 1000006000]),(71,false,[dI])],[(1000006000,.root tG false),(1000002300,.keep vL false)]⟩,
 ⟨[(5,false,[.own 1000006300])],[(1000006300,.root tG false),(1000002300,.keep vL false)]⟩,none⟩)] Tryz.func79
def aY (o0:List Int) (low1:Int) (high2:Int) (head3:List Int):Option Bool :=
 cond ((o0.length:Int)==(te ((head3.length:Int)+4)))
 ((cut o0 0 (te ((o0.length:Int)-1))).bind λt20 =>
 (tJ ([1,3,1]:List Int) head3).bind λzs23 =>
 (ay t20 zs23).bind λt24 =>
 (cond t24
 ((at? o0 (te ((o0.length:Int)-1))).bind λx31 =>
 (ac x31 low1 high2).bind λt35 =>
 some t35)
 (some false)).bind λt36 =>
 some t36)
 ((some false).bind λt36_1 =>
 some t36_1)
def mQ:FL:=(335,⟨[.val false vL false,.val false tu false,.val false tu false,.val false vL false],[.val false uf (some true)],λa=>aY a.1 a.2.1 a.2.2.1 a.2.2.2⟩)::mP
theorem rY:Gd mQ:=tv rX 335 Tryz.f335 [] Tryz.func335
def gU (b0:td) (o1:List Int):Option Bool :=
 (aY o1 1 1 ([1]:List Int)).bind λt11 =>
 (cond t11
 (some true)
 ((aY o1 1 (b0.2.2.1.length:Int) ([2,2]:List Int)).bind λt16 =>
 some t16)).bind λt17 =>
 (cond t17
 (some true)
 ((aY o1 1 (b0.2.2.1.length:Int) ([2,4]:List Int)).bind λt22 =>
 some t22)).bind λt23 =>
 (cond t23
 (some true)
 ((aY o1 1 99 ([3,1]:List Int)).bind λt27 =>
 some t27)).bind λt28 =>
 cond t28
 (some true)
 ((aY o1 1 99 ([3,2]:List Int)).bind λt31 =>
 (cond t31
 (some true)
 ((aY o1 1 99 ([3,3]:List Int)).bind λt35 =>
 some t35)).bind λt36 =>
 (cond t36
 ((at? o1 5).bind λx41 =>
 (ap (b0.2.2.2.2.1,b0.2.2.2.2.2.1) x41).bind λt43 =>
 some (decide (t43>=0)))
 (some false)).bind λt45 =>
 some t45)
def mR:FL:=(280,⟨[.val true tK false,.val false vL false],[.val false uf (some true)],λa=>gU a.1 a.2⟩)::mQ
theorem rZ:Gd mR:=tv rY 280 Tryz.f280 [] Tryz.func280
def gV (v0:uj) (r1:tC) (k7:Int):Option (Int⊕Int) :=
 (cond (decide (k7<(v0.1.length:Int)))
 ((at? v0.1 k7).bind λx31 =>
 some (decide (x31.1<=r1.1)))
 (some false)).bind λt37 =>
 cond t37 (some (.inl (te (k7+1)))) (some (.inr k7))
def fv (v0:uj) (r1:tC):Option uj :=
 (eg v0).bind λt9 =>
 (ap v0 r1.1).bind λt13 =>
 cond (decide (t13>=0))
 ((ix t9.1.length t13).bind λj20 =>
 (t9.1[j20]?).bind λx =>
 some (t9.1.set j20 r1,t9.2))
 ((loop (λz=>gV v0 r1 z) 0).bind λd =>
 (cut v0.1 0 d).bind λt43 =>
 (tJ [] t43).bind λzs44 =>
 (tJ zs44 [r1]).bind λzs47 =>
 (cut v0.1 d (v0.1.length:Int)).bind λt51 =>
 (tJ zs47 t51).bind λzs52 =>
 some (zs52,t9.2))
def mS:FL:=(360,⟨[.val true vB false,.val true uq false],[.val true vB (some true)],λa=>fv a.1 a.2⟩)::mR
theorem s5:Gd mS:=tv rZ 360 Tryz.f360 [(0,⟨⟨(7,false,[dI])::us 28 9 [],[]⟩,
 ⟨[(7,false,[dI])],[]⟩,none⟩)] Tryz.func360
def fw (v0:uj) (id1:Int):Option uj :=
 (eg v0).bind λt8 =>
 (ap v0 id1).bind λt11 =>
 cond (decide (t11>=0))
 ((cut v0.1 0 t11).bind λt17 =>
 (tJ [] t17).bind λzs18 =>
 (cut v0.1 (te (t11+1)) (v0.1.length:Int)).bind λt23 =>
 (tJ zs18 t23).bind λzs24 =>
 some (zs24,t8.2))
 (some t8)
def mT:FL:=(361,⟨[.val true vB false,.val false tu false],[.val true vB (some true)],λa=>fw a.1 a.2⟩)::mS
theorem s6:Gd mT:=tv s5 361 Tryz.f361 [] Tryz.func361
def gW (p0:td) (i1:Int) (a2:Int) (a3:Int):Option (td×Int) :=
 (ap (p0.2.2.2.2.1,p0.2.2.2.2.2.1) a2).bind λt15 =>
 cond (i1==1)
 ((cond (a3==4) (some (decide (t15<0))) (some false)).bind λt24 =>
 (cond t24 (some (decide ((p0.2.2.2.2.1.length:Int)<6))) (some false)).bind λt33 =>
 cond t33
 ((fv (p0.2.2.2.2.1,p0.2.2.2.2.2.1) (a2,0,0)).bind λt41 =>
 some ((p0.1,p0.2.1,p0.2.2.1,p0.2.2.2.1,t41.1,t41.2,p0.2.2.2.2.2.2.1,p0.2.2.2.2.2.2.2.1,p0.2.2.2.2.2.2.2.2.1,p0.2.2.2.2.2.2.2.2.2.1,p0.2.2.2.2.2.2.2.2.2.2),0))
 ((cond (a3==6) (some (decide (t15>=0))) (some false)).bind λt50 =>
 cond t50
 ((fw (p0.2.2.2.2.1,p0.2.2.2.2.2.1) a2).bind λt57 =>
 some ((p0.1,p0.2.1,p0.2.2.1,p0.2.2.2.1,t57.1,t57.2,p0.2.2.2.2.2.2.1,p0.2.2.2.2.2.2.2.1,p0.2.2.2.2.2.2.2.2.1,p0.2.2.2.2.2.2.2.2.2.1,p0.2.2.2.2.2.2.2.2.2.2),0))
 (some (p0,2))))
 ((fh (p0.2.2.1.length:Int)).bind λt66 =>
 (ac a3 0 t66).bind λt67 =>
 cond (!t67)
 (some (p0,2))
 (cond (i1==2)
 ((ix p0.2.2.2.2.1.length t15).bind λj78 =>
 (p0.2.2.2.2.1[j78]?).bind λx =>
 some ((p0.1,p0.2.1,p0.2.2.1,p0.2.2.2.1,p0.2.2.2.2.1.set j78 (x.1,a3,x.2.2),p0.2.2.2.2.2.1,p0.2.2.2.2.2.2.1,p0.2.2.2.2.2.2.2.1,p0.2.2.2.2.2.2.2.2.1,p0.2.2.2.2.2.2.2.2.2.1,p0.2.2.2.2.2.2.2.2.2.2),0))
 ((ix p0.2.2.2.2.1.length t15).bind λj87 =>
 (p0.2.2.2.2.1[j87]?).bind λx_1 =>
 some ((p0.1,p0.2.1,p0.2.2.1,p0.2.2.2.1,p0.2.2.2.2.1.set j87 (x_1.1,x_1.2.1,a3),p0.2.2.2.2.2.1,p0.2.2.2.2.2.2.1,p0.2.2.2.2.2.2.2.1,p0.2.2.2.2.2.2.2.2.1,p0.2.2.2.2.2.2.2.2.2.1,p0.2.2.2.2.2.2.2.2.2.2),0))))
def mU:FL:=(336,⟨[.ptr tK (some true),.val false tu false,.val false tu false,.val false tu false],[.val false tu (some true)],λa=>gW a.1 a.2.1 a.2.2.1 a.2.2.2⟩)::mT
theorem s7:Gd mU:=tv s6 336 Tryz.f336 [] Tryz.func336
def iH (p0:td) (i1:List Int) (a2:wQ):Option (td×Int) :=
 (at? i1 3).bind λx9 =>
 (cond (x9==1) (some (a2.1 != 4)) (some false)).bind λt17 =>
 (cond t17
 (some true)
 ((cond (!(x9==1)) (some (a2.1 != 2)) (some false)).bind λt25 =>
 some t25)).bind λt26 =>
 cond t26
 (some (p0,1))
 (cond (x9==1)
 (cond (decide ((a2.2.2.1.length:Int)>10))
 (some (p0,2))
 (some ((p0.1,a2.2.2.1,p0.2.2.1,p0.2.2.2.1,p0.2.2.2.2.1,p0.2.2.2.2.2.1,p0.2.2.2.2.2.2.1,p0.2.2.2.2.2.2.2.1,p0.2.2.2.2.2.2.2.2.1,p0.2.2.2.2.2.2.2.2.2.1,p0.2.2.2.2.2.2.2.2.2.2),0)))
 ((at? i1 3).bind λx52 =>
 cond (x52==3)
 ((at? i1 4).bind λx57 =>
 (at? i1 5).bind λx60 =>
 (gW p0 x57 x60 a2.2.1).bind λt64 =>
 some t64)
 ((at? i1 4).bind λx67 =>
 cond (x67==2)
 ((ac a2.2.1 1 1000).bind λt72 =>
 cond (!t72)
 (some (p0,2))
 ((at? i1 5).bind λx79 =>
 (ix p0.2.2.1.length (te (x79-1))).bind λj84 =>
 (p0.2.2.1[j84]?).bind λx =>
 some ((p0.1,p0.2.1,p0.2.2.1.set j84 (x.1,a2.2.1,x.2.2.1,x.2.2.2.1,x.2.2.2.2.1,x.2.2.2.2.2.1,x.2.2.2.2.2.2.1,x.2.2.2.2.2.2.2),p0.2.2.2.1,p0.2.2.2.2.1,p0.2.2.2.2.2.1,p0.2.2.2.2.2.2.1,p0.2.2.2.2.2.2.2.1,p0.2.2.2.2.2.2.2.2.1,p0.2.2.2.2.2.2.2.2.2.1,p0.2.2.2.2.2.2.2.2.2.2),0)))
 ((at? i1 5).bind λx33 =>
 (ix p0.2.2.2.2.2.1.length (te (x33-1))).bind λj38 =>
 (p0.2.2.2.2.2.1[j38]?).bind λx_1 =>
 some ((p0.1,p0.2.1,p0.2.2.1,p0.2.2.2.1,p0.2.2.2.2.1,p0.2.2.2.2.2.1.set j38 a2.2.1,p0.2.2.2.2.2.2.1,p0.2.2.2.2.2.2.2.1,p0.2.2.2.2.2.2.2.2.1,p0.2.2.2.2.2.2.2.2.2.1,p0.2.2.2.2.2.2.2.2.2.2),0)))))
def mV:FL:=(281,⟨[.ptr tK (some true),.val false vL false,.val true yd false],[.val false tu (some true)],λa=>iH a.1 a.2.1 a.2.2⟩)::mU
theorem s8:Gd mV:=tv s7 281 Tryz.f281 [] Tryz.func281
def dk (l0:List tk) (tag1:Int) (mac2:Int) (t11:Int):Option (Int⊕(Unit⊕Int)) :=
 cond (decide (t11<(l0.length:Int)))
 ((at? l0 t11).bind λx14 =>
 (cond (x14.1==tag1) (some (x14.2.1==mac2)) (some false)).bind λt25 =>
 cond t25 (some (.inr (.inr t11))) (some (.inl (te (t11+1)))))
 (some (.inr (.inl ())))
def gX (l0:List tk) (tag1:Int) (mac2:Int):Option Int :=
 (loop (λz=>dk l0 tag1 mac2 z) 0).bind (Sum.elim (λd =>
 some (-1)) (λr=>some r))
def mW:FL:=(337,⟨[.val false (.one (.sl tT)) false,.val false tu false,.val false tu false],[.val false tu (some true)],λa=>gX a.1 a.2.1 a.2.2⟩)::mV
theorem s9:Gd mW:=tv s8 337 Tryz.f337 [(0,⟨⟨(11,false,[dI])::us 21 4 [],[]⟩,
 ⟨[],[]⟩,some ⟨[(6,false,[dI])],[]⟩⟩)] Tryz.func337
def gY (b0:td) (o1:List Int):Option Bool :=
 (aY o1 2 5 ([1]:List Int)).bind λt11 =>
 (cond t11
 (some true)
 ((aY o1 1 (b0.2.2.1.length:Int) ([2,1]:List Int)).bind λt16 =>
 some t16)).bind λt17 =>
 (cond t17
 (some true)
 ((aY o1 1 (b0.2.2.1.length:Int) ([2,3]:List Int)).bind λt22 =>
 some t22)).bind λt23 =>
 cond t23
 (some true)
 ((cond ((o1.length:Int)==7)
 ((cut o1 0 5).bind λt29 =>
 (ay t29 ([1,3,1,4,1]:List Int)).bind λt31 =>
 some t31)
 (some false)).bind λt32 =>
 (cond t32
 ((at? o1 5).bind λx37 =>
 (at? o1 6).bind λx40 =>
 (gX b0.2.2.2.1 x37 x40).bind λt42 =>
 some (decide (t42>=0)))
 (some false)).bind λt44 =>
 some t44)
def mX:FL:=(282,⟨[.val true tK false,.val false vL false],[.val false uf (some true)],λa=>gY a.1 a.2⟩)::mW
theorem sa:Gd mX:=tv s9 282 Tryz.f282 [] Tryz.func282
def dl (b0:td) (x1:tg):Option (td×Int) :=
 (gU b0 x1.1).bind λt11 =>
 cond t11
 ((iH b0 x1.1 x1.2).bind λt17 =>
 some t17)
 ((gY b0 x1.1).bind λt24 =>
 cond t24 (some (b0,4)) (some (b0,3)))
def mY:FL:=(171,⟨[.ptr tK (some true),.val true tG false],[.val false tu (some true)],λa=>dl a.1 a.2⟩)::mX
theorem sc:Gd mY:=tv sa 171 Tryz.f171 [] Tryz.func171
def bm (id0:Int) (l1:List Pt) (bits5:Int) (port6:Int):Option ((Int×Int)⊕Int) :=
 (cond (decide (port6<(l1.length:Int))) (some (decide (port6<6))) (some false)).bind λt15 =>
 cond t15
 ((aX id0 l1 port6).bind λt21 =>
 (cond (t21==1) (some true) (some (t21==2))).bind λt27 =>
 cond t27
 ((shl .i64 1 port6).bind λt30 =>
 some (.inl (AE .i64 bits5 t30,te (port6+1))))
 (some (.inl (bits5,te (port6+1)))))
 (some (.inr bits5))
def gZ (id0:Int) (l1:List Pt):Option Int :=
 (loop (λz=>bm id0 l1 z.1 z.2) (0,0)).bind λd =>
 some d
def mZ:FL:=(283,⟨[.val false tu false,.val false (.one (.sl vD)) false],[.val false tu (some true)],λa=>gZ a.1 a.2⟩)::mY
theorem sd:Gd mZ:=tv sc 283 Tryz.f283 [(0,⟨⟨[(5,false,[dI]),(6,false,[dI]),(13,false,[.undef]),(14,false,[.undef]),(25,false,[.undef]),(26,false,[.undef])],[]⟩,
 ⟨[(5,false,[dI])],[]⟩,none⟩)] Tryz.func283
def hC (bits0:Int) (port1:Int):Option Bool :=
 (ac port1 0 62).bind λt6 =>
 (cond t6
 ((shr .i64 bits0 port1).bind λt10 =>
 some ((wT .i64 t10 1)==1))
 (some false)).bind λt13 =>
 some t13
def na:FL:=(284,⟨[.val false tu false,.val false tu false],[.val false uf (some true)],λa=>hC a.1 a.2⟩)::mZ
theorem se:Gd na:=tv sd 284 Tryz.f284 [] Tryz.func284
def eC (l0:List tk) (port1:Int) (t10:Int) (out5:List tk):Option ((Int×List tk)⊕(List tk)) :=
 cond (decide (t10<(l0.length:Int)))
 ((at? l0 t10).bind λx12 =>
 (cond x12.2.2.2.2 (some true) (some (x12.2.2.1 != port1))).bind λt21 =>
 cond t21
 ((tJ out5 [x12]).bind λzs25 =>
 some (.inl (te (t10+1),zs25)))
 (some (.inl (te (t10+1),out5))))
 (some (.inr out5))
def hN (l0:List tk) (port1:Int):Option (List tk) :=
 (loop (λz=>eC l0 port1 z.1 z.2) (0,[])).bind λd =>
 some d
def nb:FL:=(285,⟨[.val false (.one (.sl tT)) false,.val false tu false],[.val false (.one (.sl tT)) (some true)],λa=>hN a.1 a.2⟩)::na
theorem sf:Gd nb:=tv se 285 Tryz.f285 [(0,⟨⟨(5,false,[.own 1000000000])::(10,false,[dI])::us 17 4 [],[(1000000000,.root tT true)]⟩,
 ⟨[(5,false,[.own 1000000300])],[(1000000300,.root tT true)]⟩,none⟩)] Tryz.func285
def hP (b0:td) (t20:Int) (t26:Int) (b0_1:Int) (b1:List UInt8) (b6:Int) (b7:Int) (b8:Int) (b9:Int) (b10:Int) (b3:List tk):Option ((Int×Int×List UInt8×Int×Int×Int×Int×Int×List tk)⊕(Int×List UInt8×Int×Int×Int×Int×Int×List tk)) :=
 cond (decide (t26<(b0.2.2.1.length:Int)))
 ((hC t20 t26).bind λt31 =>
 cond (!t31)
 ((hN b3 t26).bind λt39 =>
 some (.inl (te (t26+1),b0_1,b1,b6,b7,b8,b9,b10,t39)))
 (some (.inl (te (t26+1),b0_1,b1,b6,b7,b8,b9,b10,b3))))
 (some (.inr (b0_1,b1,b6,b7,b8,b9,b10,b3)))
def bg (b0:td):Option td :=
 (bf b0.2.2.2.2.2.2.2.2.2.2).bind λt9 =>
 (gZ b0.1 b0.2.2.1).bind λt20 =>
 (loop (λz=>hP b0 t20 z.1 z.2.1 z.2.2.1 z.2.2.2.1 z.2.2.2.2.1 z.2.2.2.2.2.1 z.2.2.2.2.2.2.1 z.2.2.2.2.2.2.2.1 z.2.2.2.2.2.2.2.2) (0,b0.1,b0.2.1,b0.2.2.2.2.2.2.1,b0.2.2.2.2.2.2.2.1,b0.2.2.2.2.2.2.2.2.1,b0.2.2.2.2.2.2.2.2.2.1,t9,b0.2.2.2.1)).bind λd =>
 some (d.1,d.2.1,b0.2.2.1,d.2.2.2.2.2.2.2,b0.2.2.2.2.1,b0.2.2.2.2.2.1,d.2.2.1,d.2.2.2.1,d.2.2.2.2.1,d.2.2.2.2.2.1,d.2.2.2.2.2.2.1)
def nc:FL:=(172,⟨[.ptr tK (some true)],[],λa=>bg a⟩)::nb
theorem sg:Gd nc:=tv sf 172 Tryz.f172 [(0,⟨⟨[(26,false,[dI])],[(1,.box [dI,dS,.same 4,.own 1000000000,.same 6,.same 7,dI,dI,dI,dI,dI]),(1000000000,.root tT true)]⟩,
 ⟨[],[(1,.box [dI,dS,.same 4,.own 1000000300,.same 6,.same 7,dI,dI,dI,dI,dI]),(1000000300,.root tT true)]⟩,none⟩)] Tryz.func172
def fx (p0:td) (t25:Int) (x28:tg) (t32:List tg) (t34:Int) (b0_2:Int) (b1_2:List UInt8) (b6_2:Int) (b7_2:Int) (b8_2:Int) (b9_2:Int) (b10_2:Int):Option ((Int×Int×List UInt8×Int×Int×Int×Int×Int)⊕((Int×List UInt8×Int×Int×Int×Int×Int)⊕(Int×Int×Int×List UInt8×Int×Int×Int×Int×Int×List Pt×List tk×List tC×List Int))) :=
 cond (decide (t34<(t32.length:Int)))
 ((at? t32 t34).bind λx36 =>
 (ay x28.1 x36.1).bind λt42 =>
 cond t42
 ((ao p0).bind λt44 =>
 some (.inr (.inr (5,te (t25+1),t44.1,t44.2.1,t44.2.2.2.2.2.2.1,t44.2.2.2.2.2.2.2.1,t44.2.2.2.2.2.2.2.2.1,t44.2.2.2.2.2.2.2.2.2.1,t44.2.2.2.2.2.2.2.2.2.2,t44.2.2.1,t44.2.2.2.1,t44.2.2.2.2.1,t44.2.2.2.2.2.1))))
 (some (.inl (te (t34+1),b0_2,b1_2,b6_2,b7_2,b8_2,b9_2,b10_2))))
 (some (.inr (.inl (b0_2,b1_2,b6_2,b7_2,b8_2,b9_2,b10_2))))
def hU (p0:td) (i1:List tg) (t25:Int) (b0:Int) (b1:List UInt8) (b6:Int) (b7:Int) (b8:Int) (b9:Int) (b10:Int) (b0_1:Int) (b1_1:List UInt8) (b6_1:Int) (b7_1:Int) (b8_1:Int) (b9_1:Int) (b10_1:Int) (b2:List Pt) (b3:List tk) (b4:List tC) (b5:List Int) (b2_1:List Pt) (b3_1:List tk) (b4_1:List tC) (b5_1:List Int):Option ((Int×Int×List UInt8×Int×Int×Int×Int×Int×Int×List UInt8×Int×Int×Int×Int×Int×List Pt×List tk×List tC×List Int×List Pt×List tk×List tC×List Int)⊕((Int×List UInt8×Int×Int×Int×Int×Int×Int×List UInt8×Int×Int×Int×Int×Int×List Pt×List tk×List tC×List Int×List Pt×List tk×List tC×List Int)⊕(Int×Int×Int×List UInt8×Int×Int×Int×Int×Int×List Pt×List tk×List tC×List Int))) :=
 cond (decide (t25<(i1.length:Int)))
 ((at? i1 t25).bind λx28 =>
 (cut i1 0 t25).bind λt32 =>
 (loop (λz=>fx p0 t25 x28 t32 z.1 z.2.1 z.2.2.1 z.2.2.2.1 z.2.2.2.2.1 z.2.2.2.2.2.1 z.2.2.2.2.2.2.1 z.2.2.2.2.2.2.2) (0,b0,b1,b6,b7,b8,b9,b10)).bind (Sum.elim (λd =>
 (dl (b0_1,b1_1,b2_1,b3_1,b4_1,b5_1,b6_1,b7_1,b8_1,b9_1,b10_1) x28).bind λt49 =>
 cond (t49.2 != 0)
 ((ao p0).bind λt53 =>
 some (.inr (.inr (t49.2,te (t25+1),t53.1,t53.2.1,t53.2.2.2.2.2.2.1,t53.2.2.2.2.2.2.2.1,t53.2.2.2.2.2.2.2.2.1,t53.2.2.2.2.2.2.2.2.2.1,t53.2.2.2.2.2.2.2.2.2.2,t53.2.2.1,t53.2.2.2.1,t53.2.2.2.2.1,t53.2.2.2.2.2.1))))
 (some (.inl (te (t25+1),d.1,d.2.1,d.2.2.1,d.2.2.2.1,d.2.2.2.2.1,d.2.2.2.2.2.1,d.2.2.2.2.2.2,t49.1.1,t49.1.2.1,t49.1.2.2.2.2.2.2.1,t49.1.2.2.2.2.2.2.2.1,t49.1.2.2.2.2.2.2.2.2.1,t49.1.2.2.2.2.2.2.2.2.2.1,t49.1.2.2.2.2.2.2.2.2.2.2,b2,b3,b4,b5,t49.1.2.2.1,t49.1.2.2.2.1,t49.1.2.2.2.2.1,t49.1.2.2.2.2.2.1)))) (λr=>some (.inr (.inr r)))))
 (some (.inr (.inl (b0,b1,b6,b7,b8,b9,b10,b0_1,b1_1,b6_1,b7_1,b8_1,b9_1,b10_1,b2,b3,b4,b5,b2_1,b3_1,b4_1,b5_1))))
def eD (p0:td) (i1:List tg):Option (td×Int×Int) :=
 (ao p0).bind λt14 =>
 cond ((i1.length:Int)==0)
 (some (t14,0,0))
 ((bc p0).bind λt20 =>
 cond (!t20)
 (some (t14,3,1))
 ((loop (λz=>hU p0 i1 z.1 z.2.1 z.2.2.1 z.2.2.2.1 z.2.2.2.2.1 z.2.2.2.2.2.1 z.2.2.2.2.2.2.1 z.2.2.2.2.2.2.2.1 z.2.2.2.2.2.2.2.2.1 z.2.2.2.2.2.2.2.2.2.1 z.2.2.2.2.2.2.2.2.2.2.1 z.2.2.2.2.2.2.2.2.2.2.2.1 z.2.2.2.2.2.2.2.2.2.2.2.2.1 z.2.2.2.2.2.2.2.2.2.2.2.2.2.1 z.2.2.2.2.2.2.2.2.2.2.2.2.2.2.1 z.2.2.2.2.2.2.2.2.2.2.2.2.2.2.2.1 z.2.2.2.2.2.2.2.2.2.2.2.2.2.2.2.2.1 z.2.2.2.2.2.2.2.2.2.2.2.2.2.2.2.2.2.1 z.2.2.2.2.2.2.2.2.2.2.2.2.2.2.2.2.2.2.1 z.2.2.2.2.2.2.2.2.2.2.2.2.2.2.2.2.2.2.2.1 z.2.2.2.2.2.2.2.2.2.2.2.2.2.2.2.2.2.2.2.2.1 z.2.2.2.2.2.2.2.2.2.2.2.2.2.2.2.2.2.2.2.2.2.1 z.2.2.2.2.2.2.2.2.2.2.2.2.2.2.2.2.2.2.2.2.2.2) (0,0,[],0,0,0,0,0,t14.1,t14.2.1,t14.2.2.2.2.2.2.1,t14.2.2.2.2.2.2.2.1,t14.2.2.2.2.2.2.2.2.1,t14.2.2.2.2.2.2.2.2.2.1,t14.2.2.2.2.2.2.2.2.2.2,[],[],[],[],t14.2.2.1,t14.2.2.2.1,t14.2.2.2.2.1,t14.2.2.2.2.2.1)).bind (Sum.elim (λd_1 =>
 (ee d_1.2.2.2.2.2.2.2.2.2.2.2.2.2.2.2.2.2.2.2.2 (d_1.2.2.2.2.2.2.2.2.2.2.2.2.2.2.2.2.2.2.1.length:Int)).bind λt63 =>
 cond (!t63)
 ((ao p0).bind λt66 =>
 some (t66,5,(i1.length:Int)))
 ((bg (d_1.2.2.2.2.2.2.2.1,d_1.2.2.2.2.2.2.2.2.1,d_1.2.2.2.2.2.2.2.2.2.2.2.2.2.2.2.2.2.2.1,d_1.2.2.2.2.2.2.2.2.2.2.2.2.2.2.2.2.2.2.2.1,d_1.2.2.2.2.2.2.2.2.2.2.2.2.2.2.2.2.2.2.2.2.1,d_1.2.2.2.2.2.2.2.2.2.2.2.2.2.2.2.2.2.2.2.2.2,d_1.2.2.2.2.2.2.2.2.2.1,d_1.2.2.2.2.2.2.2.2.2.2.1,d_1.2.2.2.2.2.2.2.2.2.2.2.1,d_1.2.2.2.2.2.2.2.2.2.2.2.2.1,d_1.2.2.2.2.2.2.2.2.2.2.2.2.2.1)).bind λt69 =>
 some (t69,0,0))) (λr_1=>some ((r_1.2.2.1,r_1.2.2.2.1,r_1.2.2.2.2.2.2.2.2.2.1,r_1.2.2.2.2.2.2.2.2.2.2.1,r_1.2.2.2.2.2.2.2.2.2.2.2.1,r_1.2.2.2.2.2.2.2.2.2.2.2.2,r_1.2.2.2.2.1,r_1.2.2.2.2.2.1,r_1.2.2.2.2.2.2.1,r_1.2.2.2.2.2.2.2.1,r_1.2.2.2.2.2.2.2.2.1),r_1.1,r_1.2.1)))))
def nd:FL:=(80,⟨[.val true tK false,.val false (.one (.sl tG)) false],[.val true tK (some true),.val false tu (some true),.val false tu (some true)],λa=>eD a.1 a.2⟩)::nc
theorem si:Gd nd:=tv sg 80 Tryz.f80 [(0,⟨⟨[(25,false,[dI])],[(2048,.box [dI,dS,.own 1000000000,.own 1000000001,.own 1000000002,.own 1000000003,dI,dI,dI,dI,dI]),(265216,.box [dI,dS,.own 1000000004,.own 1000000005,.own 1000000006,.own 1000000007,dI,dI,dI,dI,dI]),(1000000000,.root vD true),(1000000001,.root tT true),(1000000002,.root uq true),(1000000003,.root tu true),(1000000004,.root vD true),(1000000005,.root tT true),(1000000006,.root uq true),(1000000007,.root tu true)]⟩,
 ⟨[],[(2048,.box [dI,dS,.own 1000000300,.own 1000000301,.own 1000000302,.own 1000000303,dI,dI,dI,dI,dI]),(265216,.box [dI,dS,.own 1000000304,.own 1000000305,.own 1000000306,.own 1000000307,dI,dI,dI,dI,dI]),(1000000300,.root vD true),(1000000301,.root tT true),(1000000302,.root uq true),(1000000303,.root tu true),(1000000304,.root vD true),(1000000305,.root tT true),(1000000306,.root uq true),(1000000307,.root tu true)]⟩,some ⟨[(5,false,[dI]),(6,false,[dI])],[(2048,.box [dI,dS,.own 1000000600,.own 1000000601,.own 1000000602,.own 1000000603,dI,dI,dI,dI,dI]),(1000000600,.root vD true),(1000000601,.root tT true),(1000000602,.root uq true),(1000000603,.root tu true)]⟩⟩),
 (2,⟨⟨[(34,false,[dI])],[(2048,.box [dI,dS,.same 1000000000,.same 1000000001,.same 1000000002,.same 1000000003,dI,dI,dI,dI,dI])]⟩,
 ⟨[],[(2048,.box [dI,dS,.same 1000000000,.same 1000000001,.same 1000000002,.same 1000000003,dI,dI,dI,dI,dI])]⟩,some ⟨[(5,false,[dI]),(6,false,[dI])],[(2048,.box [dI,dS,.own 1000002600,.own 1000002601,.own 1000002602,.own 1000002603,dI,dI,dI,dI,dI]),(1000002600,.root vD true),(1000002601,.root tT true),(1000002602,.root uq true),(1000002603,.root tu true)]⟩⟩)] Tryz.func80
def fy (p0:td) (i1:tQ) (t54:Int) (b0:Int) (b1:Int) (b2:Int) (b3:Int) (b4:List tg):Option ((Int×Int×Int×Int×Int×List tg)⊕(Int×Int×Int×Int×List tg)) :=
 cond (decide (t54<(i1.2.2.2.2.length:Int)))
 ((at? i1.2.2.2.2 t54).bind λx56 =>
 (bh x56.1).bind λt62 =>
 (cl p0 x56.1).bind λt66 =>
 (tJ b4 [(t62,t66.1,t66.2.1,t66.2.2.1,t66.2.2.2)]).bind λzs69 =>
 some (.inl (te (t54+1),b0,b1,b2,b3,zs69)))
 (some (.inr (b0,b1,b2,b3,b4)))
def ne (i1:tQ) (b0_2:Int) (b1_2:List UInt8) (b6:Int) (b7:Int) (b8:Int) (b9:Int) (b10:Int) (b0_3:Int) (b1_3:Int) (b2_2:Int) (b3_2:Int) (b0_4:Int) (b1_4:List UInt8) (b6_1:Int) (b7_1:Int) (b8_1:Int) (b9_1:Int) (b10_1:Int) (b0_5:Int) (b1_5:Int) (b2_3:Int) (b3_3:Int) (b4_2:List tg) (b2_4:List Pt) (b3_4:List tk) (b4_3:List tC) (b5:List Int) (b4_4:List tg) (b2_5:List Pt) (b3_5:List tk) (b4_5:List tC) (b5_1:List Int):Option ((Int×List UInt8×Int×Int×Int×Int×Int×Int×Int×Int×Int×Int×List UInt8×Int×Int×Int×Int×Int×Int×Int×Int×Int×List tg×List Pt×List tk×List tC×List Int×List tg×List Pt×List tk×List tC×List Int)⊕((Int×List UInt8×Int×Int×Int×Int×Int×Int×Int×Int×Int×Int×List UInt8×Int×Int×Int×Int×Int×Int×Int×Int×Int×List tg×List Pt×List tk×List tC×List Int×List tg×List Pt×List tk×List tC×List Int)⊕(Bool×Int×List UInt8×Int×Int×Int×Int×Int×Int×Int×Int×Int×List tg×List Pt×List tk×List tC×List Int))) :=
 (cond (i1.1==165) (some (decide ((b4_2.length:Int)>0))) (some false)).bind λt109 =>
 cond t109
 ((cut b4_2 0 (te ((b4_2.length:Int)-1))).bind λt116 =>
 (aV (b0_5,b1_5,b2_3,b3_3,t116)).bind λt119 =>
 cond t119
 (some (.inr (.inr (true,b0_4,b1_4,b6_1,b7_1,b8_1,b9_1,b10_1,b0_5,b1_5,b2_3,b3_3,t116,b2_5,b3_5,b4_5,b5_1))))
 (some (.inl (b0_2,b1_2,b6,b7,b8,b9,b10,b0_3,b1_3,b2_2,b3_2,b0_4,b1_4,b6_1,b7_1,b8_1,b9_1,b10_1,b0_5,b1_5,b2_3,b3_3,t116,b2_4,b3_4,b4_3,b5,b4_4,b2_5,b3_5,b4_5,b5_1))))
 (some (.inr (.inl (b0_2,b1_2,b6,b7,b8,b9,b10,b0_3,b1_3,b2_2,b3_2,b0_4,b1_4,b6_1,b7_1,b8_1,b9_1,b10_1,b0_5,b1_5,b2_3,b3_3,b4_2,b2_4,b3_4,b4_3,b5,b4_4,b2_5,b3_5,b4_5,b5_1))))
def fA (p0:td) (i1:tQ) (t77:Int) (b0_10:Int) (b1_10:Int) (b2_10:Int) (b3_10:Int) (b4_10:List tg):Option ((Int×Int×Int×Int×Int×List tg)⊕(Int×Int×Int×Int×List tg)) :=
 cond (decide (t77<(i1.2.2.2.2.length:Int)))
 ((at? i1.2.2.2.2 t77).bind λx79 =>
 (bz p0 x79.1).bind λt86 =>
 (tJ b4_10 [t86]).bind λzs88 =>
 some (.inl (te (t77+1),b0_10,b1_10,b2_10,b3_10,zs88)))
 (some (.inr (b0_10,b1_10,b2_10,b3_10,b4_10)))
def ng (i1:tQ) (b0_12:Int) (b1_12:List UInt8) (b6_4:Int) (b7_4:Int) (b8_4:Int) (b9_4:Int) (b10_4:Int) (b0_13:Int) (b1_13:Int) (b2_12:Int) (b3_12:Int) (b0_14:Int) (b1_14:List UInt8) (b6_5:Int) (b7_5:Int) (b8_5:Int) (b9_5:Int) (b10_5:Int) (b0_15:Int) (b1_15:Int) (b2_13:Int) (b3_13:Int) (b4_12:List tg) (b2_14:List Pt) (b3_14:List tk) (b4_13:List tC) (b5_4:List Int) (b4_14:List tg) (b2_15:List Pt) (b3_15:List tk) (b4_15:List tC) (b5_5:List Int):Option ((Int×List UInt8×Int×Int×Int×Int×Int×Int×Int×Int×Int×Int×List UInt8×Int×Int×Int×Int×Int×Int×Int×Int×Int×List tg×List Pt×List tk×List tC×List Int×List tg×List Pt×List tk×List tC×List Int)⊕((Int×List UInt8×Int×Int×Int×Int×Int×Int×Int×Int×Int×Int×List UInt8×Int×Int×Int×Int×Int×Int×Int×Int×Int×List tg×List Pt×List tk×List tC×List Int×List tg×List Pt×List tk×List tC×List Int)⊕(Bool×Int×List UInt8×Int×Int×Int×Int×Int×Int×Int×Int×Int×List tg×List Pt×List tk×List tC×List Int))) :=
 (cond (i1.1==165) (some (decide ((b4_12.length:Int)>0))) (some false)).bind λt109_1 =>
 cond t109_1
 ((cut b4_12 0 (te ((b4_12.length:Int)-1))).bind λt116_1 =>
 (aV (b0_15,b1_15,b2_13,b3_13,t116_1)).bind λt119_1 =>
 cond t119_1
 (some (.inr (.inr (true,b0_14,b1_14,b6_5,b7_5,b8_5,b9_5,b10_5,b0_15,b1_15,b2_13,b3_13,t116_1,b2_15,b3_15,b4_15,b5_5))))
 (some (.inl (b0_12,b1_12,b6_4,b7_4,b8_4,b9_4,b10_4,b0_13,b1_13,b2_12,b3_12,b0_14,b1_14,b6_5,b7_5,b8_5,b9_5,b10_5,b0_15,b1_15,b2_13,b3_13,t116_1,b2_14,b3_14,b4_13,b5_4,b4_14,b2_15,b3_15,b4_15,b5_5))))
 (some (.inr (.inl (b0_12,b1_12,b6_4,b7_4,b8_4,b9_4,b10_4,b0_13,b1_13,b2_12,b3_12,b0_14,b1_14,b6_5,b7_5,b8_5,b9_5,b10_5,b0_15,b1_15,b2_13,b3_13,b4_12,b2_14,b3_14,b4_13,b5_4,b4_14,b2_15,b3_15,b4_15,b5_5))))
def fB (i1:tQ) (b0_20:Int) (b1_20:List UInt8) (b6_8:Int) (b7_8:Int) (b8_8:Int) (b9_8:Int) (b10_8:Int) (b0_21:Int) (b1_21:Int) (b2_20:Int) (b3_20:Int) (b0_22:Int) (b1_22:List UInt8) (b6_9:Int) (b7_9:Int) (b8_9:Int) (b9_9:Int) (b10_9:Int) (b0_23:Int) (b1_23:Int) (b2_21:Int) (b3_21:Int) (b4_20:List tg) (b2_22:List Pt) (b3_22:List tk) (b4_21:List tC) (b5_8:List Int) (b4_22:List tg) (b2_23:List Pt) (b3_23:List tk) (b4_23:List tC) (b5_9:List Int):Option ((Int×List UInt8×Int×Int×Int×Int×Int×Int×Int×Int×Int×Int×List UInt8×Int×Int×Int×Int×Int×Int×Int×Int×Int×List tg×List Pt×List tk×List tC×List Int×List tg×List Pt×List tk×List tC×List Int)⊕((Int×List UInt8×Int×Int×Int×Int×Int×Int×Int×Int×Int×Int×List UInt8×Int×Int×Int×Int×Int×Int×Int×Int×Int×List tg×List Pt×List tk×List tC×List Int×List tg×List Pt×List tk×List tC×List Int)⊕(Bool×Int×List UInt8×Int×Int×Int×Int×Int×Int×Int×Int×Int×List tg×List Pt×List tk×List tC×List Int))) :=
 (cond (i1.1==165) (some (decide ((b4_20.length:Int)>0))) (some false)).bind λt109_2 =>
 cond t109_2
 ((cut b4_20 0 (te ((b4_20.length:Int)-1))).bind λt116_2 =>
 (aV (b0_23,b1_23,b2_21,b3_21,t116_2)).bind λt119_2 =>
 cond t119_2
 (some (.inr (.inr (true,b0_22,b1_22,b6_9,b7_9,b8_9,b9_9,b10_9,b0_23,b1_23,b2_21,b3_21,t116_2,b2_23,b3_23,b4_23,b5_9))))
 (some (.inl (b0_20,b1_20,b6_8,b7_8,b8_8,b9_8,b10_8,b0_21,b1_21,b2_20,b3_20,b0_22,b1_22,b6_9,b7_9,b8_9,b9_9,b10_9,b0_23,b1_23,b2_21,b3_21,t116_2,b2_22,b3_22,b4_21,b5_8,b4_22,b2_23,b3_23,b4_23,b5_9))))
 (some (.inr (.inl (b0_20,b1_20,b6_8,b7_8,b8_8,b9_8,b10_8,b0_21,b1_21,b2_20,b3_20,b0_22,b1_22,b6_9,b7_9,b8_9,b9_9,b10_9,b0_23,b1_23,b2_21,b3_21,b4_20,b2_22,b3_22,b4_21,b5_8,b4_22,b2_23,b3_23,b4_23,b5_9))))
def nh (i1:tQ) (b0_28:Int) (b1_28:List UInt8) (b6_12:Int) (b7_12:Int) (b8_12:Int) (b9_12:Int) (b10_12:Int) (b0_29:Int) (b1_29:Int) (b2_28:Int) (b3_28:Int) (b0_30:Int) (b1_30:List UInt8) (b6_13:Int) (b7_13:Int) (b8_13:Int) (b9_13:Int) (b10_13:Int) (b0_31:Int) (b1_31:Int) (b2_29:Int) (b3_29:Int) (b4_28:List tg) (b2_30:List Pt) (b3_30:List tk) (b4_29:List tC) (b5_12:List Int) (b4_30:List tg) (b2_31:List Pt) (b3_31:List tk) (b4_31:List tC) (b5_13:List Int):Option ((Int×List UInt8×Int×Int×Int×Int×Int×Int×Int×Int×Int×Int×List UInt8×Int×Int×Int×Int×Int×Int×Int×Int×Int×List tg×List Pt×List tk×List tC×List Int×List tg×List Pt×List tk×List tC×List Int)⊕((Int×List UInt8×Int×Int×Int×Int×Int×Int×Int×Int×Int×Int×List UInt8×Int×Int×Int×Int×Int×Int×Int×Int×Int×List tg×List Pt×List tk×List tC×List Int×List tg×List Pt×List tk×List tC×List Int)⊕(Bool×Int×List UInt8×Int×Int×Int×Int×Int×Int×Int×Int×Int×List tg×List Pt×List tk×List tC×List Int))) :=
 (cond (i1.1==165) (some (decide ((b4_28.length:Int)>0))) (some false)).bind λt109_3 =>
 cond t109_3
 ((cut b4_28 0 (te ((b4_28.length:Int)-1))).bind λt116_3 =>
 (aV (b0_31,b1_31,b2_29,b3_29,t116_3)).bind λt119_3 =>
 cond t119_3
 (some (.inr (.inr (true,b0_30,b1_30,b6_13,b7_13,b8_13,b9_13,b10_13,b0_31,b1_31,b2_29,b3_29,t116_3,b2_31,b3_31,b4_31,b5_13))))
 (some (.inl (b0_28,b1_28,b6_12,b7_12,b8_12,b9_12,b10_12,b0_29,b1_29,b2_28,b3_28,b0_30,b1_30,b6_13,b7_13,b8_13,b9_13,b10_13,b0_31,b1_31,b2_29,b3_29,t116_3,b2_30,b3_30,b4_29,b5_12,b4_30,b2_31,b3_31,b4_31,b5_13))))
 (some (.inr (.inl (b0_28,b1_28,b6_12,b7_12,b8_12,b9_12,b10_12,b0_29,b1_29,b2_28,b3_28,b0_30,b1_30,b6_13,b7_13,b8_13,b9_13,b10_13,b0_31,b1_31,b2_29,b3_29,b4_28,b2_30,b3_30,b4_29,b5_12,b4_30,b2_31,b3_31,b4_31,b5_13))))
def dq (p0:td) (i1:tQ):Option (td×tQ×Bool) :=
 (ao p0).bind λt14 =>
 (bc p0).bind λt16 =>
 (cond (!t16)
 (some true)
 ((cY i1).bind λt20 =>
 some (!t20))).bind λt22 =>
 (cond t22 (some true) (some (i1.1==162))).bind λt27 =>
 cond t27
 (some (t14,(0,0,0,0,[]),false))
 (cond (i1.1==160)
 ((loop (λz=>fy p0 i1 z.1 z.2.1 z.2.2.1 z.2.2.2.1 z.2.2.2.2.1 z.2.2.2.2.2) (0,162,i1.2.1,0,0,[])).bind λd =>
 (aV d).bind λt98 =>
 cond t98
 (some (t14,d,true))
 ((loop (λz=>ne i1 z.1 z.2.1 z.2.2.1 z.2.2.2.1 z.2.2.2.2.1 z.2.2.2.2.2.1 z.2.2.2.2.2.2.1 z.2.2.2.2.2.2.2.1 z.2.2.2.2.2.2.2.2.1 z.2.2.2.2.2.2.2.2.2.1 z.2.2.2.2.2.2.2.2.2.2.1 z.2.2.2.2.2.2.2.2.2.2.2.1 z.2.2.2.2.2.2.2.2.2.2.2.2.1 z.2.2.2.2.2.2.2.2.2.2.2.2.2.1 z.2.2.2.2.2.2.2.2.2.2.2.2.2.2.1 z.2.2.2.2.2.2.2.2.2.2.2.2.2.2.2.1 z.2.2.2.2.2.2.2.2.2.2.2.2.2.2.2.2.1 z.2.2.2.2.2.2.2.2.2.2.2.2.2.2.2.2.2.1 z.2.2.2.2.2.2.2.2.2.2.2.2.2.2.2.2.2.2.1 z.2.2.2.2.2.2.2.2.2.2.2.2.2.2.2.2.2.2.2.1 z.2.2.2.2.2.2.2.2.2.2.2.2.2.2.2.2.2.2.2.2.1 z.2.2.2.2.2.2.2.2.2.2.2.2.2.2.2.2.2.2.2.2.2.1 z.2.2.2.2.2.2.2.2.2.2.2.2.2.2.2.2.2.2.2.2.2.2.1 z.2.2.2.2.2.2.2.2.2.2.2.2.2.2.2.2.2.2.2.2.2.2.2.1 z.2.2.2.2.2.2.2.2.2.2.2.2.2.2.2.2.2.2.2.2.2.2.2.2.1 z.2.2.2.2.2.2.2.2.2.2.2.2.2.2.2.2.2.2.2.2.2.2.2.2.2.1 z.2.2.2.2.2.2.2.2.2.2.2.2.2.2.2.2.2.2.2.2.2.2.2.2.2.2.1 z.2.2.2.2.2.2.2.2.2.2.2.2.2.2.2.2.2.2.2.2.2.2.2.2.2.2.2.1 z.2.2.2.2.2.2.2.2.2.2.2.2.2.2.2.2.2.2.2.2.2.2.2.2.2.2.2.2.1 z.2.2.2.2.2.2.2.2.2.2.2.2.2.2.2.2.2.2.2.2.2.2.2.2.2.2.2.2.2.1 z.2.2.2.2.2.2.2.2.2.2.2.2.2.2.2.2.2.2.2.2.2.2.2.2.2.2.2.2.2.2.1 z.2.2.2.2.2.2.2.2.2.2.2.2.2.2.2.2.2.2.2.2.2.2.2.2.2.2.2.2.2.2.2) (0,[],0,0,0,0,0,0,0,0,0,t14.1,t14.2.1,t14.2.2.2.2.2.2.1,t14.2.2.2.2.2.2.2.1,t14.2.2.2.2.2.2.2.2.1,t14.2.2.2.2.2.2.2.2.2.1,t14.2.2.2.2.2.2.2.2.2.2,d.1,d.2.1,d.2.2.1,d.2.2.2.1,d.2.2.2.2,[],[],[],[],[],t14.2.2.1,t14.2.2.2.1,t14.2.2.2.2.1,t14.2.2.2.2.2.1)).bind (Sum.elim (λd_1 =>
 (ao p0).bind λt123 =>
 some (t123,(162,i1.2.1,7,0,[]),true)) (λr=>some ((r.2.1,r.2.2.1,r.2.2.2.2.2.2.2.2.2.2.2.2.2.1,r.2.2.2.2.2.2.2.2.2.2.2.2.2.2.1,r.2.2.2.2.2.2.2.2.2.2.2.2.2.2.2.1,r.2.2.2.2.2.2.2.2.2.2.2.2.2.2.2.2,r.2.2.2.1,r.2.2.2.2.1,r.2.2.2.2.2.1,r.2.2.2.2.2.2.1,r.2.2.2.2.2.2.2.1),(r.2.2.2.2.2.2.2.2.1,r.2.2.2.2.2.2.2.2.2.1,r.2.2.2.2.2.2.2.2.2.2.1,r.2.2.2.2.2.2.2.2.2.2.2.1,r.2.2.2.2.2.2.2.2.2.2.2.2.1),r.1)))))
 (cond (i1.1==161)
 ((loop (λz=>fA p0 i1 z.1 z.2.1 z.2.2.1 z.2.2.2.1 z.2.2.2.2.1 z.2.2.2.2.2) (0,162,i1.2.1,0,0,[])).bind λd_2 =>
 (aV d_2).bind λt98_1 =>
 cond t98_1
 (some (t14,d_2,true))
 ((loop (λz=>ng i1 z.1 z.2.1 z.2.2.1 z.2.2.2.1 z.2.2.2.2.1 z.2.2.2.2.2.1 z.2.2.2.2.2.2.1 z.2.2.2.2.2.2.2.1 z.2.2.2.2.2.2.2.2.1 z.2.2.2.2.2.2.2.2.2.1 z.2.2.2.2.2.2.2.2.2.2.1 z.2.2.2.2.2.2.2.2.2.2.2.1 z.2.2.2.2.2.2.2.2.2.2.2.2.1 z.2.2.2.2.2.2.2.2.2.2.2.2.2.1 z.2.2.2.2.2.2.2.2.2.2.2.2.2.2.1 z.2.2.2.2.2.2.2.2.2.2.2.2.2.2.2.1 z.2.2.2.2.2.2.2.2.2.2.2.2.2.2.2.2.1 z.2.2.2.2.2.2.2.2.2.2.2.2.2.2.2.2.2.1 z.2.2.2.2.2.2.2.2.2.2.2.2.2.2.2.2.2.2.1 z.2.2.2.2.2.2.2.2.2.2.2.2.2.2.2.2.2.2.2.1 z.2.2.2.2.2.2.2.2.2.2.2.2.2.2.2.2.2.2.2.2.1 z.2.2.2.2.2.2.2.2.2.2.2.2.2.2.2.2.2.2.2.2.2.1 z.2.2.2.2.2.2.2.2.2.2.2.2.2.2.2.2.2.2.2.2.2.2.1 z.2.2.2.2.2.2.2.2.2.2.2.2.2.2.2.2.2.2.2.2.2.2.2.1 z.2.2.2.2.2.2.2.2.2.2.2.2.2.2.2.2.2.2.2.2.2.2.2.2.1 z.2.2.2.2.2.2.2.2.2.2.2.2.2.2.2.2.2.2.2.2.2.2.2.2.2.1 z.2.2.2.2.2.2.2.2.2.2.2.2.2.2.2.2.2.2.2.2.2.2.2.2.2.2.1 z.2.2.2.2.2.2.2.2.2.2.2.2.2.2.2.2.2.2.2.2.2.2.2.2.2.2.2.1 z.2.2.2.2.2.2.2.2.2.2.2.2.2.2.2.2.2.2.2.2.2.2.2.2.2.2.2.2.1 z.2.2.2.2.2.2.2.2.2.2.2.2.2.2.2.2.2.2.2.2.2.2.2.2.2.2.2.2.2.1 z.2.2.2.2.2.2.2.2.2.2.2.2.2.2.2.2.2.2.2.2.2.2.2.2.2.2.2.2.2.2.1 z.2.2.2.2.2.2.2.2.2.2.2.2.2.2.2.2.2.2.2.2.2.2.2.2.2.2.2.2.2.2.2) (0,[],0,0,0,0,0,0,0,0,0,t14.1,t14.2.1,t14.2.2.2.2.2.2.1,t14.2.2.2.2.2.2.2.1,t14.2.2.2.2.2.2.2.2.1,t14.2.2.2.2.2.2.2.2.2.1,t14.2.2.2.2.2.2.2.2.2.2,d_2.1,d_2.2.1,d_2.2.2.1,d_2.2.2.2.1,d_2.2.2.2.2,[],[],[],[],[],t14.2.2.1,t14.2.2.2.1,t14.2.2.2.2.1,t14.2.2.2.2.2.1)).bind (Sum.elim (λd_3 =>
 (ao p0).bind λt123_1 =>
 some (t123_1,(162,i1.2.1,7,0,[]),true)) (λr_1=>some ((r_1.2.1,r_1.2.2.1,r_1.2.2.2.2.2.2.2.2.2.2.2.2.2.1,r_1.2.2.2.2.2.2.2.2.2.2.2.2.2.2.1,r_1.2.2.2.2.2.2.2.2.2.2.2.2.2.2.2.1,r_1.2.2.2.2.2.2.2.2.2.2.2.2.2.2.2.2,r_1.2.2.2.1,r_1.2.2.2.2.1,r_1.2.2.2.2.2.1,r_1.2.2.2.2.2.2.1,r_1.2.2.2.2.2.2.2.1),(r_1.2.2.2.2.2.2.2.2.1,r_1.2.2.2.2.2.2.2.2.2.1,r_1.2.2.2.2.2.2.2.2.2.2.1,r_1.2.2.2.2.2.2.2.2.2.2.2.1,r_1.2.2.2.2.2.2.2.2.2.2.2.2.1),r_1.1)))))
 (cond (i1.1==165)
 ((gT p0 i1).bind λt95 =>
 (aV (162,i1.2.1,0,0,t95)).bind λt98_2 =>
 cond t98_2
 (some (t14,(162,i1.2.1,0,0,t95),true))
 ((loop (λz=>fB i1 z.1 z.2.1 z.2.2.1 z.2.2.2.1 z.2.2.2.2.1 z.2.2.2.2.2.1 z.2.2.2.2.2.2.1 z.2.2.2.2.2.2.2.1 z.2.2.2.2.2.2.2.2.1 z.2.2.2.2.2.2.2.2.2.1 z.2.2.2.2.2.2.2.2.2.2.1 z.2.2.2.2.2.2.2.2.2.2.2.1 z.2.2.2.2.2.2.2.2.2.2.2.2.1 z.2.2.2.2.2.2.2.2.2.2.2.2.2.1 z.2.2.2.2.2.2.2.2.2.2.2.2.2.2.1 z.2.2.2.2.2.2.2.2.2.2.2.2.2.2.2.1 z.2.2.2.2.2.2.2.2.2.2.2.2.2.2.2.2.1 z.2.2.2.2.2.2.2.2.2.2.2.2.2.2.2.2.2.1 z.2.2.2.2.2.2.2.2.2.2.2.2.2.2.2.2.2.2.1 z.2.2.2.2.2.2.2.2.2.2.2.2.2.2.2.2.2.2.2.1 z.2.2.2.2.2.2.2.2.2.2.2.2.2.2.2.2.2.2.2.2.1 z.2.2.2.2.2.2.2.2.2.2.2.2.2.2.2.2.2.2.2.2.2.1 z.2.2.2.2.2.2.2.2.2.2.2.2.2.2.2.2.2.2.2.2.2.2.1 z.2.2.2.2.2.2.2.2.2.2.2.2.2.2.2.2.2.2.2.2.2.2.2.1 z.2.2.2.2.2.2.2.2.2.2.2.2.2.2.2.2.2.2.2.2.2.2.2.2.1 z.2.2.2.2.2.2.2.2.2.2.2.2.2.2.2.2.2.2.2.2.2.2.2.2.2.1 z.2.2.2.2.2.2.2.2.2.2.2.2.2.2.2.2.2.2.2.2.2.2.2.2.2.2.1 z.2.2.2.2.2.2.2.2.2.2.2.2.2.2.2.2.2.2.2.2.2.2.2.2.2.2.2.1 z.2.2.2.2.2.2.2.2.2.2.2.2.2.2.2.2.2.2.2.2.2.2.2.2.2.2.2.2.1 z.2.2.2.2.2.2.2.2.2.2.2.2.2.2.2.2.2.2.2.2.2.2.2.2.2.2.2.2.2.1 z.2.2.2.2.2.2.2.2.2.2.2.2.2.2.2.2.2.2.2.2.2.2.2.2.2.2.2.2.2.2.1 z.2.2.2.2.2.2.2.2.2.2.2.2.2.2.2.2.2.2.2.2.2.2.2.2.2.2.2.2.2.2.2) (0,[],0,0,0,0,0,0,0,0,0,t14.1,t14.2.1,t14.2.2.2.2.2.2.1,t14.2.2.2.2.2.2.2.1,t14.2.2.2.2.2.2.2.2.1,t14.2.2.2.2.2.2.2.2.2.1,t14.2.2.2.2.2.2.2.2.2.2,162,i1.2.1,0,0,t95,[],[],[],[],[],t14.2.2.1,t14.2.2.2.1,t14.2.2.2.2.1,t14.2.2.2.2.2.1)).bind (Sum.elim (λd_4 =>
 (ao p0).bind λt123_2 =>
 some (t123_2,(162,i1.2.1,7,0,[]),true)) (λr_2=>some ((r_2.2.1,r_2.2.2.1,r_2.2.2.2.2.2.2.2.2.2.2.2.2.2.1,r_2.2.2.2.2.2.2.2.2.2.2.2.2.2.2.1,r_2.2.2.2.2.2.2.2.2.2.2.2.2.2.2.2.1,r_2.2.2.2.2.2.2.2.2.2.2.2.2.2.2.2.2,r_2.2.2.2.1,r_2.2.2.2.2.1,r_2.2.2.2.2.2.1,r_2.2.2.2.2.2.2.1,r_2.2.2.2.2.2.2.2.1),(r_2.2.2.2.2.2.2.2.2.1,r_2.2.2.2.2.2.2.2.2.2.1,r_2.2.2.2.2.2.2.2.2.2.2.1,r_2.2.2.2.2.2.2.2.2.2.2.2.1,r_2.2.2.2.2.2.2.2.2.2.2.2.2.1),r_2.1)))))
 ((eD p0 i1.2.2.2.2).bind λt39 =>
 (ei i1.2.2.2.2).bind λt47 =>
 (aV (162,i1.2.1,t39.2.1,t39.2.2,t47)).bind λt98_3 =>
 cond t98_3
 (some (t39.1,(162,i1.2.1,t39.2.1,t39.2.2,t47),true))
 ((loop (λz=>nh i1 z.1 z.2.1 z.2.2.1 z.2.2.2.1 z.2.2.2.2.1 z.2.2.2.2.2.1 z.2.2.2.2.2.2.1 z.2.2.2.2.2.2.2.1 z.2.2.2.2.2.2.2.2.1 z.2.2.2.2.2.2.2.2.2.1 z.2.2.2.2.2.2.2.2.2.2.1 z.2.2.2.2.2.2.2.2.2.2.2.1 z.2.2.2.2.2.2.2.2.2.2.2.2.1 z.2.2.2.2.2.2.2.2.2.2.2.2.2.1 z.2.2.2.2.2.2.2.2.2.2.2.2.2.2.1 z.2.2.2.2.2.2.2.2.2.2.2.2.2.2.2.1 z.2.2.2.2.2.2.2.2.2.2.2.2.2.2.2.2.1 z.2.2.2.2.2.2.2.2.2.2.2.2.2.2.2.2.2.1 z.2.2.2.2.2.2.2.2.2.2.2.2.2.2.2.2.2.2.1 z.2.2.2.2.2.2.2.2.2.2.2.2.2.2.2.2.2.2.2.1 z.2.2.2.2.2.2.2.2.2.2.2.2.2.2.2.2.2.2.2.2.1 z.2.2.2.2.2.2.2.2.2.2.2.2.2.2.2.2.2.2.2.2.2.1 z.2.2.2.2.2.2.2.2.2.2.2.2.2.2.2.2.2.2.2.2.2.2.1 z.2.2.2.2.2.2.2.2.2.2.2.2.2.2.2.2.2.2.2.2.2.2.2.1 z.2.2.2.2.2.2.2.2.2.2.2.2.2.2.2.2.2.2.2.2.2.2.2.2.1 z.2.2.2.2.2.2.2.2.2.2.2.2.2.2.2.2.2.2.2.2.2.2.2.2.2.1 z.2.2.2.2.2.2.2.2.2.2.2.2.2.2.2.2.2.2.2.2.2.2.2.2.2.2.1 z.2.2.2.2.2.2.2.2.2.2.2.2.2.2.2.2.2.2.2.2.2.2.2.2.2.2.2.1 z.2.2.2.2.2.2.2.2.2.2.2.2.2.2.2.2.2.2.2.2.2.2.2.2.2.2.2.2.1 z.2.2.2.2.2.2.2.2.2.2.2.2.2.2.2.2.2.2.2.2.2.2.2.2.2.2.2.2.2.1 z.2.2.2.2.2.2.2.2.2.2.2.2.2.2.2.2.2.2.2.2.2.2.2.2.2.2.2.2.2.2.1 z.2.2.2.2.2.2.2.2.2.2.2.2.2.2.2.2.2.2.2.2.2.2.2.2.2.2.2.2.2.2.2) (0,[],0,0,0,0,0,0,0,0,0,t39.1.1,t39.1.2.1,t39.1.2.2.2.2.2.2.1,t39.1.2.2.2.2.2.2.2.1,t39.1.2.2.2.2.2.2.2.2.1,t39.1.2.2.2.2.2.2.2.2.2.1,t39.1.2.2.2.2.2.2.2.2.2.2,162,i1.2.1,t39.2.1,t39.2.2,t47,[],[],[],[],[],t39.1.2.2.1,t39.1.2.2.2.1,t39.1.2.2.2.2.1,t39.1.2.2.2.2.2.1)).bind (Sum.elim (λd_5 =>
 (ao p0).bind λt123_3 =>
 some (t123_3,(162,i1.2.1,7,0,[]),true)) (λr_3=>some ((r_3.2.1,r_3.2.2.1,r_3.2.2.2.2.2.2.2.2.2.2.2.2.2.1,r_3.2.2.2.2.2.2.2.2.2.2.2.2.2.2.1,r_3.2.2.2.2.2.2.2.2.2.2.2.2.2.2.2.1,r_3.2.2.2.2.2.2.2.2.2.2.2.2.2.2.2.2,r_3.2.2.2.1,r_3.2.2.2.2.1,r_3.2.2.2.2.2.1,r_3.2.2.2.2.2.2.1,r_3.2.2.2.2.2.2.2.1),(r_3.2.2.2.2.2.2.2.2.1,r_3.2.2.2.2.2.2.2.2.2.1,r_3.2.2.2.2.2.2.2.2.2.2.1,r_3.2.2.2.2.2.2.2.2.2.2.2.1,r_3.2.2.2.2.2.2.2.2.2.2.2.2.1),r_3.1))))))))
def ni:FL:=(13,⟨[.val true tK false,.val true vk false],[.val true tK (some true),.val true vk none,.val false uf (some true)],λa=>dq a.1 a.2⟩)::nd
theorem sj:Gd ni:=tv si 13 Tryz.f13 [(1,⟨⟨[(54,false,[dI])],[(1052672,.box [dI,dI,dI,dI,.own 1000001000]),(1000001000,.root tG false)]⟩,
 ⟨[],[(1052672,.box [dI,dI,dI,dI,.own 1000001300]),(1000001300,.root tG false)]⟩,none⟩),
 (3,⟨⟨[(77,false,[dI])],[(1052672,.box [dI,dI,dI,dI,.own 1000003000]),(1000003000,.root tG false)]⟩,
 ⟨[],[(1052672,.box [dI,dI,dI,dI,.own 1000003300]),(1000003300,.root tG false)]⟩,none⟩),
 (5,⟨⟨us 105 4 [],[(3072,.box [dI,dS,.own 1000005000,.own 1000005001,.own 1000005002,.own 1000005003,dI,dI,dI,dI,dI]),(4096,.box [dI,dI,dI,dI,.own 1000005004]),(265216,.box [dI,dS,.own 1000005005,.own 1000005006,.own 1000005007,.own 1000005008,dI,dI,dI,dI,dI]),(1052672,.box [dI,dI,dI,dI,.dat (.sl tG)]),(1000005000,.root vD true),(1000005001,.root tT true),(1000005002,.root uq true),(1000005003,.root tu true),(1000005004,.root tG true),(1000005005,.root vD true),(1000005006,.root tT true),(1000005007,.root uq true),(1000005008,.root tu true)]⟩,
 ⟨[],[(3072,.box [dI,dS,.own 1000005300,.own 1000005301,.own 1000005302,.own 1000005303,dI,dI,dI,dI,dI]),(4096,.box [dI,dI,dI,dI,.own 1000005304]),(265216,.box [dI,dS,.own 1000005305,.own 1000005306,.own 1000005307,.own 1000005308,dI,dI,dI,dI,dI]),(1052672,.box [dI,dI,dI,dI,.dat (.sl tG)]),(1000005300,.root vD true),(1000005301,.root tT true),(1000005302,.root uq true),(1000005303,.root tu true),(1000005304,.root tG true),(1000005305,.root vD true),(1000005306,.root tT true),(1000005307,.root uq true),(1000005308,.root tu true)]⟩,some ⟨[(6,false,[dB])],[(3072,.box [dI,dS,.own 1000005600,.own 1000005601,.own 1000005602,.own 1000005603,dI,dI,dI,dI,dI]),(4096,.box [dI,dI,dI,dI,.dat (.sl tG)]),(1000005600,.root vD true),(1000005601,.root tT true),(1000005602,.root uq true),(1000005603,.root tu true)]⟩⟩)] Tryz.func13
def fC (p0:tQ):Option tQ :=
 (ei p0.2.2.2.2).bind λt8 =>
 (aV (162,p0.2.1,6,1,t8)).bind λt11 =>
 cond (!t11) (some (162,p0.2.1,7,0,[])) (some (162,p0.2.1,6,1,t8))
def nj:FL:=(315,⟨[.val true vk false],[.val true vk (some true)],λa=>fC a⟩)::ni
theorem sk:Gd nj:=tv sj 315 Tryz.f315 [] Tryz.func315
def fD (p0:tB) (i1:Int):Option (tB×List v9) :=
 (ix p0.2.2.2.2.2.2.2.2.2.2.2.2.1.length i1).bind λj12 =>
 (p0.2.2.2.2.2.2.2.2.2.2.2.2.1[j12]?).bind λx13 =>
 cond (x13.2.2.2.1 != 163)
 ((dq (x13.2.2.2.2.2.2.2.2.1,x13.2.2.2.2.2.2.2.2.2.1,x13.2.2.2.2.2.2.2.2.2.2.1,x13.2.2.2.2.2.2.2.2.2.2.2.1,x13.2.2.2.2.2.2.2.2.2.2.2.2.1,x13.2.2.2.2.2.2.2.2.2.2.2.2.2.1,x13.2.2.2.2.2.2.2.2.2.2.2.2.2.2.1,x13.2.2.2.2.2.2.2.2.2.2.2.2.2.2.2.1,x13.2.2.2.2.2.2.2.2.2.2.2.2.2.2.2.2.1,x13.2.2.2.2.2.2.2.2.2.2.2.2.2.2.2.2.2.1,x13.2.2.2.2.2.2.2.2.2.2.2.2.2.2.2.2.2.2.1) (x13.2.2.2.1,x13.2.2.2.2.1,x13.2.2.2.2.2.1,x13.2.2.2.2.2.2.1,x13.2.2.2.2.2.2.2.1)).bind λt41 =>
 (ch p0 i1).bind λt81 =>
 some (t81,[(x13.1,t41.2.1.1,t41.2.1.2.1,t41.2.1.2.2.1,t41.2.1.2.2.2.1,t41.2.1.2.2.2.2)]))
 (let t46:=p0.2.2.2.2.2.2.2.2.2.2.1==x13.2.2.2.2.2.2.2.2.2.2.2.2.2.2.2.2.2.2.1
 cond t46
 ((dq (p0.1,p0.2.1,p0.2.2.1,p0.2.2.2.1,p0.2.2.2.2.1,p0.2.2.2.2.2.1,p0.2.2.2.2.2.2.1,p0.2.2.2.2.2.2.2.1,p0.2.2.2.2.2.2.2.2.1,p0.2.2.2.2.2.2.2.2.2.1,p0.2.2.2.2.2.2.2.2.2.2.1) (x13.2.2.2.1,x13.2.2.2.2.1,x13.2.2.2.2.2.1,x13.2.2.2.2.2.2.1,x13.2.2.2.2.2.2.2.1)).bind λt64 =>
 (ch (t64.1.1,t64.1.2.1,t64.1.2.2.1,t64.1.2.2.2.1,t64.1.2.2.2.2.1,t64.1.2.2.2.2.2.1,t64.1.2.2.2.2.2.2.1,t64.1.2.2.2.2.2.2.2.1,t64.1.2.2.2.2.2.2.2.2.1,t64.1.2.2.2.2.2.2.2.2.2.1,t64.1.2.2.2.2.2.2.2.2.2.2,p0.2.2.2.2.2.2.2.2.2.2.2.1,p0.2.2.2.2.2.2.2.2.2.2.2.2.1,p0.2.2.2.2.2.2.2.2.2.2.2.2.2.1,p0.2.2.2.2.2.2.2.2.2.2.2.2.2.2) i1).bind λt81_1 =>
 some (t81_1,[(x13.1,t64.2.1.1,t64.2.1.2.1,t64.2.1.2.2.1,t64.2.1.2.2.2.1,t64.2.1.2.2.2.2)]))
 (let t71:=decide (x13.2.2.2.2.2.2.2.2.2.2.2.2.2.2.2.2.2.2.2.2>=3)
 cond t71
 ((fC (x13.2.2.2.1,x13.2.2.2.2.1,x13.2.2.2.2.2.1,x13.2.2.2.2.2.2.1,x13.2.2.2.2.2.2.2.1)).bind λt77 =>
 (ch p0 i1).bind λt81_2 =>
 some (t81_2,[(x13.1,t77.1,t77.2.1,t77.2.2.1,t77.2.2.2.1,t77.2.2.2.2)]))
 ((ix p0.2.2.2.2.2.2.2.2.2.2.2.2.1.length i1).bind λj22 =>
 (p0.2.2.2.2.2.2.2.2.2.2.2.2.1[j22]?).bind λx24 =>
 (ix p0.2.2.2.2.2.2.2.2.2.2.2.2.1.length i1).bind λj26 =>
 (p0.2.2.2.2.2.2.2.2.2.2.2.2.1[j26]?).bind λx =>
 (fo (p0.1,p0.2.1,p0.2.2.1,p0.2.2.2.1,p0.2.2.2.2.1,p0.2.2.2.2.2.1,p0.2.2.2.2.2.2.1,p0.2.2.2.2.2.2.2.1,p0.2.2.2.2.2.2.2.2.1,p0.2.2.2.2.2.2.2.2.2.1,p0.2.2.2.2.2.2.2.2.2.2.1,p0.2.2.2.2.2.2.2.2.2.2.2.1,p0.2.2.2.2.2.2.2.2.2.2.2.2.1.set j26 (x.1,x.2.1,x.2.2.1,x.2.2.2.1,x.2.2.2.2.1,x.2.2.2.2.2.1,x.2.2.2.2.2.2.1,x.2.2.2.2.2.2.2.1,x.2.2.2.2.2.2.2.2.1,x.2.2.2.2.2.2.2.2.2.1,x.2.2.2.2.2.2.2.2.2.2.1,x.2.2.2.2.2.2.2.2.2.2.2.1,x.2.2.2.2.2.2.2.2.2.2.2.2.1,x.2.2.2.2.2.2.2.2.2.2.2.2.2.1,x.2.2.2.2.2.2.2.2.2.2.2.2.2.2.1,x.2.2.2.2.2.2.2.2.2.2.2.2.2.2.2.1,x.2.2.2.2.2.2.2.2.2.2.2.2.2.2.2.2.1,x.2.2.2.2.2.2.2.2.2.2.2.2.2.2.2.2.2.1,x.2.2.2.2.2.2.2.2.2.2.2.2.2.2.2.2.2.2.1,x.2.2.2.2.2.2.2.2.2.2.2.2.2.2.2.2.2.2.2.1,te (x24.2.2.2.2.2.2.2.2.2.2.2.2.2.2.2.2.2.2.2.2+1)),p0.2.2.2.2.2.2.2.2.2.2.2.2.2.1,p0.2.2.2.2.2.2.2.2.2.2.2.2.2.2) i1).bind λt30 =>
 some (t30,[]))))
def nk:FL:=(235,⟨[.ptr ul (some true),.val false tu false],[.val false (.one (.sl xC)) none],λa=>fD a.1 a.2⟩)::nj
theorem sm:Gd nk:=tv sk 235 Tryz.f235 [] Tryz.func235
def cR (a0:tB) (k1:Int):Option (tB×List v9) :=
 (ix a0.2.2.2.2.2.2.2.2.2.2.2.2.1.length k1).bind λj11 =>
 (a0.2.2.2.2.2.2.2.2.2.2.2.2.1[j11]?).bind λx19 =>
 cond (x19.2.2.1==0)
 ((fp a0 k1).bind λt23 =>
 some (t23,[]))
 ((a0.2.2.2.2.2.2.2.2.2.2.2.2.1[j11]?).bind λx28 =>
 cond (x28.2.2.1==2)
 ((fD a0 k1).bind λt32 =>
 some t32)
 ((a0.2.2.2.2.2.2.2.2.2.2.2.2.1[j11]?).bind λx37 =>
 (a0.2.2.2.2.2.2.2.2.2.2.2.2.1[j11]?).bind λx42 =>
 let t33:=decide (x37.2.2.2.2.2.2.2.2.2.2.2.2.2.2.2.2.2.2.2.1<(x42.2.2.2.2.2.2.2.1.length:Int))
 cond t33
 ((a0.2.2.2.2.2.2.2.2.2.2.2.2.1[j11]?).bind λx48 =>
 (a0.2.2.2.2.2.2.2.2.2.2.2.2.1[j11]?).bind λx =>
 some ((a0.1,a0.2.1,a0.2.2.1,a0.2.2.2.1,a0.2.2.2.2.1,a0.2.2.2.2.2.1,a0.2.2.2.2.2.2.1,a0.2.2.2.2.2.2.2.1,a0.2.2.2.2.2.2.2.2.1,a0.2.2.2.2.2.2.2.2.2.1,a0.2.2.2.2.2.2.2.2.2.2.1,a0.2.2.2.2.2.2.2.2.2.2.2.1,a0.2.2.2.2.2.2.2.2.2.2.2.2.1.set j11 (x.1,x.2.1,x.2.2.1,x.2.2.2.1,x.2.2.2.2.1,x.2.2.2.2.2.1,x.2.2.2.2.2.2.1,x.2.2.2.2.2.2.2.1,x.2.2.2.2.2.2.2.2.1,x.2.2.2.2.2.2.2.2.2.1,x.2.2.2.2.2.2.2.2.2.2.1,x.2.2.2.2.2.2.2.2.2.2.2.1,x.2.2.2.2.2.2.2.2.2.2.2.2.1,x.2.2.2.2.2.2.2.2.2.2.2.2.2.1,x.2.2.2.2.2.2.2.2.2.2.2.2.2.2.1,x.2.2.2.2.2.2.2.2.2.2.2.2.2.2.2.1,x.2.2.2.2.2.2.2.2.2.2.2.2.2.2.2.2.1,x.2.2.2.2.2.2.2.2.2.2.2.2.2.2.2.2.2.1,x.2.2.2.2.2.2.2.2.2.2.2.2.2.2.2.2.2.2.1,te (x48.2.2.2.2.2.2.2.2.2.2.2.2.2.2.2.2.2.2.2.1+1),x.2.2.2.2.2.2.2.2.2.2.2.2.2.2.2.2.2.2.2.2),a0.2.2.2.2.2.2.2.2.2.2.2.2.2.1,a0.2.2.2.2.2.2.2.2.2.2.2.2.2.2),[]))
 ((a0.2.2.2.2.2.2.2.2.2.2.2.2.1[j11]?).bind λx_1 =>
 some ((a0.1,a0.2.1,a0.2.2.1,a0.2.2.2.1,a0.2.2.2.2.1,a0.2.2.2.2.2.1,a0.2.2.2.2.2.2.1,a0.2.2.2.2.2.2.2.1,a0.2.2.2.2.2.2.2.2.1,a0.2.2.2.2.2.2.2.2.2.1,a0.2.2.2.2.2.2.2.2.2.2.1,a0.2.2.2.2.2.2.2.2.2.2.2.1,a0.2.2.2.2.2.2.2.2.2.2.2.2.1.set j11 (x_1.1,x_1.2.1,2,x_1.2.2.2.1,x_1.2.2.2.2.1,x_1.2.2.2.2.2.1,x_1.2.2.2.2.2.2.1,x_1.2.2.2.2.2.2.2.1,x_1.2.2.2.2.2.2.2.2.1,x_1.2.2.2.2.2.2.2.2.2.1,x_1.2.2.2.2.2.2.2.2.2.2.1,x_1.2.2.2.2.2.2.2.2.2.2.2.1,x_1.2.2.2.2.2.2.2.2.2.2.2.2.1,x_1.2.2.2.2.2.2.2.2.2.2.2.2.2.1,x_1.2.2.2.2.2.2.2.2.2.2.2.2.2.2.1,x_1.2.2.2.2.2.2.2.2.2.2.2.2.2.2.2.1,x_1.2.2.2.2.2.2.2.2.2.2.2.2.2.2.2.2.1,x_1.2.2.2.2.2.2.2.2.2.2.2.2.2.2.2.2.2.1,x_1.2.2.2.2.2.2.2.2.2.2.2.2.2.2.2.2.2.2.1,x_1.2.2.2.2.2.2.2.2.2.2.2.2.2.2.2.2.2.2.2.1,x_1.2.2.2.2.2.2.2.2.2.2.2.2.2.2.2.2.2.2.2.2),a0.2.2.2.2.2.2.2.2.2.2.2.2.2.1,a0.2.2.2.2.2.2.2.2.2.2.2.2.2.2),[]))))
def nl:FL:=(132,⟨[.ptr ul (some true),.val false tu false],[.val false (.one (.sl xC)) none],λa=>cR a.1 a.2⟩)::nk
theorem sn:Gd nl:=tv sm 132 Tryz.f132 [] Tryz.func132
def fE (n1:Int) (i8:Int) (b0:Int) (b1:List UInt8) (b6:Int) (b7:Int) (b8:Int) (b9:Int) (b10:Int) (b11:List UInt8) (b13:Int) (b14:Int) (all7:List v9) (b2:List Pt) (b3:List tk) (b4:List tC) (b5:List Int) (b12:List um):Option ((Int×Int×List UInt8×Int×Int×Int×Int×Int×List UInt8×Int×Int×List v9×List Pt×List tk×List tC×List Int×List um)⊕(Int×List UInt8×Int×Int×Int×Int×Int×List UInt8×Int×Int×List v9×List Pt×List tk×List tC×List Int×List um)) :=
 (cond (decide (i8<n1)) (some (decide ((b12.length:Int)>0))) (some false)).bind λt29 =>
 cond t29
 ((cR (b0,b1,b2,b3,b4,b5,b6,b7,b8,b9,b10,b11,b12,b13,b14) 0).bind λt32 =>
 (tJ all7 t32.2).bind λzs35 =>
 some (.inl (te (i8+1),t32.1.1,t32.1.2.1,t32.1.2.2.2.2.2.2.1,t32.1.2.2.2.2.2.2.2.1,t32.1.2.2.2.2.2.2.2.2.1,t32.1.2.2.2.2.2.2.2.2.2.1,t32.1.2.2.2.2.2.2.2.2.2.2.1,t32.1.2.2.2.2.2.2.2.2.2.2.2.1,t32.1.2.2.2.2.2.2.2.2.2.2.2.2.2.1,t32.1.2.2.2.2.2.2.2.2.2.2.2.2.2.2,zs35,t32.1.2.2.1,t32.1.2.2.2.1,t32.1.2.2.2.2.1,t32.1.2.2.2.2.2.1,t32.1.2.2.2.2.2.2.2.2.2.2.2.2.1)))
 (some (.inr (b0,b1,b6,b7,b8,b9,b10,b11,b13,b14,all7,b2,b3,b4,b5,b12)))
def cV (a0:tB) (n1:Int):Option (tB×List v9) :=
 (dW a0).bind λt11 =>
 (cQ a0).bind λt13 =>
 (cond (!t13)
 (some true)
 ((ac n1 0 500).bind λt17 =>
 some (!t17))).bind λt19 =>
 cond t19
 (some (t11,[]))
 ((loop (λz=>fE n1 z.1 z.2.1 z.2.2.1 z.2.2.2.1 z.2.2.2.2.1 z.2.2.2.2.2.1 z.2.2.2.2.2.2.1 z.2.2.2.2.2.2.2.1 z.2.2.2.2.2.2.2.2.1 z.2.2.2.2.2.2.2.2.2.1 z.2.2.2.2.2.2.2.2.2.2.1 z.2.2.2.2.2.2.2.2.2.2.2.1 z.2.2.2.2.2.2.2.2.2.2.2.2.1 z.2.2.2.2.2.2.2.2.2.2.2.2.2.1 z.2.2.2.2.2.2.2.2.2.2.2.2.2.2.1 z.2.2.2.2.2.2.2.2.2.2.2.2.2.2.2.1 z.2.2.2.2.2.2.2.2.2.2.2.2.2.2.2.2) (0,t11.1,t11.2.1,t11.2.2.2.2.2.2.1,t11.2.2.2.2.2.2.2.1,t11.2.2.2.2.2.2.2.2.1,t11.2.2.2.2.2.2.2.2.2.1,t11.2.2.2.2.2.2.2.2.2.2.1,t11.2.2.2.2.2.2.2.2.2.2.2.1,t11.2.2.2.2.2.2.2.2.2.2.2.2.2.1,t11.2.2.2.2.2.2.2.2.2.2.2.2.2.2,[],t11.2.2.1,t11.2.2.2.1,t11.2.2.2.2.1,t11.2.2.2.2.2.1,t11.2.2.2.2.2.2.2.2.2.2.2.2.1)).bind λd =>
 some ((d.1,d.2.1,d.2.2.2.2.2.2.2.2.2.2.2.1,d.2.2.2.2.2.2.2.2.2.2.2.2.1,d.2.2.2.2.2.2.2.2.2.2.2.2.2.1,d.2.2.2.2.2.2.2.2.2.2.2.2.2.2.1,d.2.2.1,d.2.2.2.1,d.2.2.2.2.1,d.2.2.2.2.2.1,d.2.2.2.2.2.2.1,d.2.2.2.2.2.2.2.1,d.2.2.2.2.2.2.2.2.2.2.2.2.2.2.2,d.2.2.2.2.2.2.2.2.1,d.2.2.2.2.2.2.2.2.2.1),d.2.2.2.2.2.2.2.2.2.2.1))
def nn:FL:=(39,⟨[.val true ul false,.val false tu false],[.val true ul (some true),.val false (.one (.sl xC)) none],λa=>cV a.1 a.2⟩)::nl
theorem so:Gd nn:=tv sn 39 Tryz.f39 [(0,⟨⟨(7,false,[.own 1000000000])::(8,false,[dI])::us 25 4 [],[(265216,.box [dI,dS,.own 1000000001,.own 1000000002,.own 1000000003,.own 1000000004,dI,dI,dI,dI,dI,dS,.own 1000000005,dI,dI]),(1000000000,.root xC false),(1000000001,.root vD true),(1000000002,.root tT true),(1000000003,.root uq true),(1000000004,.root tu true),(1000000005,.root ye true)]⟩,
 ⟨[(7,false,[.own 1000000300])],[(265216,.box [dI,dS,.own 1000000301,.own 1000000302,.own 1000000303,.own 1000000304,dI,dI,dI,dI,dI,dS,.own 1000000305,dI,dI]),(1000000300,.root xC false),(1000000301,.root vD true),(1000000302,.root tT true),(1000000303,.root uq true),(1000000304,.root tu true),(1000000305,.root ye true)]⟩,none⟩)] Tryz.func39
def dt (code0:List Int) (h3_1:Int) (i4:Int):Option ((Int×Int)⊕Int) :=
 (cond (decide (i4<(code0.length:Int))) (some (decide (i4<4000))) (some false)).bind λt15 =>
 cond t15
 ((at? code0 i4).bind λx22 =>
 let h3_2:=wT .i64 (te ((te ((te (h3_1*137))+(te (x22))))+11)) 1073741823
 some (.inl (h3_2,te (i4+1))))
 (some (.inr h3_1))
def ce (code0:List Int):Option tD :=
 let h3:=te (762762+(code0.length:Int))
 (loop (λz=>dt code0 z.1 z.2) (h3,0)).bind λd =>
 some (code0,0,d)
def np:FL:=(73,⟨[.val false uG false],[.ptr uK none],λa=>ce a⟩)::nn
theorem sq:Gd np:=tv so 73 Tryz.f73 [(0,⟨⟨[(3,false,[dI]),(4,false,[dI]),(13,false,[.undef]),(14,false,[.undef])],[]⟩,
 ⟨[(3,false,[dI])],[]⟩,none⟩)] Tryz.func73
def aI (code0:List Int) (most1:Int):Option Int :=
 let n5:=te (3+(te ((code0.length:Int).tdiv 12)))
 cond (decide (n5>most1)) (some most1) (some n5)
def nq:FL:=(127,⟨[.val false uG false,.val false tu false],[.val false tu (some true)],λa=>aI a.1 a.2⟩)::np
theorem sr:Gd nq:=tv sq 127 Tryz.f127 [] Tryz.func127
def ae (x0:Int) (least1:Int) (most2:Int):Option Bool :=
 (cond (decide (x0>=least1)) (some (decide (x0<=most2))) (some false)).bind λt14 =>
 some t14
def nr:FL:=(103,⟨[.val false tu false,.val false tu false,.val false tu false],[.val false uf (some true)],λa=>ae a.1 a.2.1 a.2.2⟩)::nq
theorem su:Gd nr:=tv sr 103 Tryz.f103 [] Tryz.func103
def eN (v0:zN):Option Bool :=
 (ae v0.1 1 99).bind λt5 =>
 (cond t5
 ((ae v0.2.1 0 100000).bind λt9 =>
 some t9)
 (some false)).bind λt10 =>
 (cond t10
 ((ae v0.2.2.1 0 10).bind λt14 =>
 some t14)
 (some false)).bind λt15 =>
 (cond t15
 ((ae v0.2.2.2.1 1 99).bind λt19 =>
 some t19)
 (some false)).bind λt20 =>
 (cond t20
 ((ae v0.2.2.2.2 0 7).bind λt24 =>
 some t24)
 (some false)).bind λt25 =>
 some t25
def nu:FL:=(247,⟨[.val true yr false],[.val false uf (some true)],λa=>eN a⟩)::nr
theorem sv:Gd nu:=tv su 247 Tryz.f247 [] Tryz.func247
def fF (p0:Pt):Option Bool :=
 (ae p0.2.1 1 1000).bind λt5 =>
 (cond (!t5)
 (some true)
 ((cond (!p0.1) (some p0.2.2.1) (some false)).bind λt14 =>
 some t14)).bind λt15 =>
 cond t15
 (some false)
 (cond (!p0.2.2.1)
 (let t2:=p0.2.2.2.1==0&&(p0.2.2.2.2.1==0&&(p0.2.2.2.2.2.1==0&&(p0.2.2.2.2.2.2.1==0&&(p0.2.2.2.2.2.2.2==0))))
 some t2)
 ((eN p0.2.2.2).bind λt25 =>
 some t25))
def nv:FL:=(147,⟨[.val true vD false],[.val false uf (some true)],λa=>fF a⟩)::nu
theorem sw:Gd nv:=tv sv 147 Tryz.f147 [] Tryz.func147
def cr (e0:tk):Option Bool :=
 (ae e0.1 1 99).bind λt5 =>
 (cond t5
 ((ae e0.2.1 1 9999).bind λt9 =>
 some t9)
 (some false)).bind λt10 =>
 (cond t10
 ((ae e0.2.2.1 0 7).bind λt14 =>
 some t14)
 (some false)).bind λt15 =>
 (cond t15
 ((ae e0.2.2.2.1 0 4).bind λt19 =>
 some t19)
 (some false)).bind λt20 =>
 (cond t20
 ((cond (!e0.2.2.2.2) (some true) (some (e0.2.2.2.1==0))).bind λt29 =>
 some t29)
 (some false)).bind λt30 =>
 some t30
def nx:FL:=(248,⟨[.val true tT false],[.val false uf (some true)],λa=>cr a⟩)::nv
theorem sx:Gd nx:=tv sw 248 Tryz.f248 [] Tryz.func248
def bR (e0:tk) (tag1:Int) (mac2:Int):Option Bool :=
 cond (e0.1 != tag1) (some (decide (e0.1<tag1))) (some (decide (e0.2.1<mac2)))
def ny:FL:=(249,⟨[.val true tT false,.val false tu false,.val false tu false],[.val false uf (some true)],λa=>bR a.1 a.2.1 a.2.2⟩)::nx
theorem sy:Gd ny:=tv sx 249 Tryz.f249 [] Tryz.func249
def iI (l0:List tk) (i3:Int):Option (Int⊕(Unit⊕Bool)) :=
 cond (decide (i3<(l0.length:Int)))
 ((at? l0 i3).bind λx12 =>
 (cr x12).bind λt14 =>
 (cond (!t14)
 (some true)
 ((cond (decide (i3>0))
 ((at? l0 (te (i3-1))).bind λx23 =>
 (at? l0 i3).bind λx27 =>
 (at? l0 i3).bind λx32 =>
 (bR x23 x27.1 x32.2.1).bind λt35 =>
 some (!t35))
 (some false)).bind λt37 =>
 some t37)).bind λt38 =>
 cond t38 (some (.inr (.inr false))) (some (.inl (te (i3+1)))))
 (some (.inr (.inl ())))
def cq (l0:List tk):Option Bool :=
 (loop (λz=>iI l0 z) 0).bind (Sum.elim (λd =>
 let t2:=decide ((l0.length:Int)<=12)
 some t2) (λr=>some r))
def nz:FL:=(148,⟨[.val false (.one (.sl tT)) false],[.val false uf (some true)],λa=>cq a⟩)::ny
theorem sA:Gd nz:=tv sy 148 Tryz.f148 [(0,⟨⟨(3,false,[dI])::us 17 21 [],[]⟩,
 ⟨[],[]⟩,some ⟨[(2,false,[dB])],[]⟩⟩)] Tryz.func148
def sB (v0:uj) (id1:Int) (i5:Int):Option (Int⊕(Unit⊕Int)) :=
 cond (decide (i5<(v0.1.length:Int)))
 ((at? v0.1 i5).bind λx16 =>
 cond (x16.1==id1) (some (.inr (.inr i5))) (some (.inl (te (i5+1)))))
 (some (.inr (.inl ())))
def bn (v0:uj) (id1:Int):Option Int :=
 (loop (λz=>sB v0 id1 z) 0).bind (Sum.elim (λd =>
 some (-1)) (λr=>some r))
def nA:FL:=(250,⟨[.val true vB false,.val false tu false],[.val false tu (some true)],λa=>bn a.1 a.2⟩)::nz
theorem sC:Gd nA:=tv sA 250 Tryz.f250 [(0,⟨⟨[(5,false,[dI])],[]⟩,
 ⟨[],[]⟩,some ⟨[(4,false,[dI])],[]⟩⟩)] Tryz.func250
def iJ (p0:uj) (t27:Int) (t6:Int):Option (Int⊕(Unit⊕Bool)) :=
 cond (decide (t6<(p0.1.length:Int)))
 ((at? p0.1 t6).bind λx39 =>
 (ae x39.1 1 99).bind λt43 =>
 (cond (!t43)
 (some true)
 ((ae x39.2.1 0 (te (t27-1))).bind λt49 =>
 some (!t49))).bind λt51 =>
 (cond t51
 (some true)
 ((ae x39.2.2 0 (te (t27-1))).bind λt56 =>
 some (!t56))).bind λt58 =>
 (cond t58 (some true) (some ((wT .i64 x39.2.2 x39.2.1) != x39.2.2))).bind λt68 =>
 (cond t68
 (some true)
 ((cond (decide (t6>0))
 ((at? p0.1 (te (t6-1))).bind λx77 =>
 some (decide (x77.1>=x39.1)))
 (some false)).bind λt83 =>
 some t83)).bind λt84 =>
 cond t84 (some (.inr (.inr false))) (some (.inl (te (t6+1)))))
 (some (.inr (.inl ())))
def nB (p0:uj) (t8:Int):Option (Int⊕(Unit⊕Bool)) :=
 cond (decide (t8<(p0.2.length:Int)))
 ((at? p0.2 t8).bind λx96 =>
 (bn p0 x96).bind λt98 =>
 cond (decide (t98<0)) (some (.inr (.inr false))) (some (.inl (te (t8+1)))))
 (some (.inr (.inl ())))
def aN (p0:uj) (i1:Int):Option Bool :=
 (ae i1 1 6).bind λt10 =>
 (cond (!t10) (some true) (some ((p0.2.length:Int) != i1))).bind λt18 =>
 (cond t18 (some true) (some (decide ((p0.1.length:Int)>6)))).bind λt24 =>
 cond t24
 (some false)
 ((shl .i64 1 (IntKind.u64.wrap (i1))).bind λt27 =>
 (loop (λz=>iJ p0 t27 z) 0).bind (Sum.elim (λd =>
 (loop (λz=>nB p0 z) 0).bind (Sum.elim (λd_1 =>
 some true) (λr=>some r))) (λr_1=>some r_1)))
def nC:FL:=(149,⟨[.val true vB false,.val false tu false],[.val false uf (some true)],λa=>aN a.1 a.2⟩)::nA
theorem sD:Gd nC:=tv sC 149 Tryz.f149 [(0,⟨⟨(6,false,[dI])::us 46 5 (us 53 5 (us 60 8 (us 70 14 []))),[]⟩,
 ⟨[],[]⟩,some ⟨[(4,false,[dB])],[]⟩⟩),
 (2,⟨⟨[(8,false,[dI])],[]⟩,
 ⟨[],[]⟩,some ⟨[(4,false,[dB])],[]⟩⟩)] Tryz.func149
def hZ (b0:td):Option Bool :=
 (ae b0.2.2.2.2.2.2.1 0 1000000).bind λt5 =>
 (cond t5
 ((ae b0.2.2.2.2.2.2.2.1 0 1000000).bind λt9 =>
 some t9)
 (some false)).bind λt10 =>
 (cond t10
 ((ae b0.2.2.2.2.2.2.2.2.1 0 1000000).bind λt14 =>
 some t14)
 (some false)).bind λt15 =>
 (cond t15
 ((ae b0.2.2.2.2.2.2.2.2.2.1 0 1000000).bind λt19 =>
 some t19)
 (some false)).bind λt20 =>
 (cond t20
 ((ae b0.2.2.2.2.2.2.2.2.2.2 0 1000000).bind λt24 =>
 some t24)
 (some false)).bind λt25 =>
 some t25
def nD:FL:=(150,⟨[.val true tK false],[.val false uf (some true)],λa=>hZ a⟩)::nC
theorem sE:Gd nD:=tv sD 150 Tryz.f150 [] Tryz.func150
def iK (b0:td) (i3:Int):Option (Int⊕(Unit⊕Bool)) :=
 cond (decide (i3<(b0.2.2.1.length:Int)))
 ((at? b0.2.2.1 i3).bind λx14 =>
 (fF x14).bind λt16 =>
 cond (!t16) (some (.inr (.inr false))) (some (.inl (te (i3+1)))))
 (some (.inr (.inl ())))
def aZ (b0:td):Option Bool :=
 (loop (λz=>iK b0 z) 0).bind (Sum.elim (λd =>
 (ae b0.1 1 99).bind λt20 =>
 (cond t20 (some (decide ((b0.2.1.length:Int)<=10))) (some false)).bind λt26 =>
 (cond t26
 ((ae (b0.2.2.1.length:Int) 1 6).bind λt31 =>
 some t31)
 (some false)).bind λt32 =>
 (cond t32
 ((cq b0.2.2.2.1).bind λt36 =>
 some t36)
 (some false)).bind λt37 =>
 (cond t37
 ((aN (b0.2.2.2.2.1,b0.2.2.2.2.2.1) (b0.2.2.1.length:Int)).bind λt44 =>
 some t44)
 (some false)).bind λt45 =>
 (cond t45
 ((hZ b0).bind λt48 =>
 some t48)
 (some false)).bind λt49 =>
 some t49) (λr=>some r))
def nE:FL:=(64,⟨[.val true tK false],[.val false uf (some true)],λa=>aZ a⟩)::nD
theorem sF:Gd nE:=tv sE 64 Tryz.f64 [(0,⟨⟨[(3,false,[dI])],[]⟩,
 ⟨[],[]⟩,some ⟨[(2,false,[dB])],[]⟩⟩)] Tryz.func64
def aw (n0:Int):Option Int :=
 cond (decide (n0>2147483647))
 (some 2147483647)
 (cond (decide (n0<(-2147483648))) (some (-2147483648)) (some n0))
def nF:FL:=(198,⟨[.val false tu false],[.val false tu (some true)],λa=>aw a⟩)::nE
theorem sG:Gd nF:=tv sF 198 Tryz.f198 [] Tryz.func198
def sH (o0:List Int) (i3:Int):Option (Int⊕(Unit⊕Bool)) :=
 cond (decide (i3<(o0.length:Int)))
 ((at? o0 i3).bind λx12 =>
 (ae x12 0 100000).bind λt14 =>
 cond (!t14) (some (.inr (.inr false))) (some (.inl (te (i3+1)))))
 (some (.inr (.inl ())))
def bD (o0:List Int):Option Bool :=
 (loop (λz=>sH o0 z) 0).bind (Sum.elim (λd =>
 (ae (o0.length:Int) 1 10).bind λt18 =>
 some t18) (λr=>some r))
def nG:FL:=(286,⟨[.val false vL false],[.val false uf (some true)],λa=>bD a⟩)::nF
theorem sI:Gd nG:=tv sG 286 Tryz.f286 [(0,⟨⟨[(3,false,[dI])],[]⟩,
 ⟨[],[]⟩,some ⟨[(2,false,[dB])],[]⟩⟩)] Tryz.func286
def bo (p0:wQ):Option Bool :=
 cond (p0.1==5)
 (cond (p0.1==5)
 ((cond (p0.2.1==0) (some (p0.2.2.1==[])) (some false)).bind λt16 =>
 (cond t16 (some ((p0.2.2.2.length:Int)==0)) (some false)).bind λt22 =>
 some t22)
 (cond (p0.1==2)
 ((aw p0.2.1).bind λt27 =>
 (cond (t27==p0.2.1) (some (p0.2.2.1==[])) (some false)).bind λt35 =>
 (cond t35 (some ((p0.2.2.2.length:Int)==0)) (some false)).bind λt41 =>
 some t41)
 (cond (p0.1==4)
 ((cond (decide ((p0.2.2.1.length:Int)<=20)) (some (p0.2.1==0)) (some false)).bind λt52 =>
 (cond t52 (some ((p0.2.2.2.length:Int)==0)) (some false)).bind λt58 =>
 some t58)
 (cond (p0.1==6)
 ((bD p0.2.2.2).bind λt63 =>
 (cond t63 (some (p0.2.1==0)) (some false)).bind λt68 =>
 (cond t68 (some (p0.2.2.1==[])) (some false)).bind λt73 =>
 some t73)
 (some false)))))
 (cond (p0.1==128)
 (cond (p0.1==128)
 ((cond (p0.2.1==0) (some (p0.2.2.1==[])) (some false)).bind λt16_1 =>
 (cond t16_1 (some ((p0.2.2.2.length:Int)==0)) (some false)).bind λt22_1 =>
 some t22_1)
 (cond (p0.1==2)
 ((aw p0.2.1).bind λt27_1 =>
 (cond (t27_1==p0.2.1) (some (p0.2.2.1==[])) (some false)).bind λt35_1 =>
 (cond t35_1 (some ((p0.2.2.2.length:Int)==0)) (some false)).bind λt41_1 =>
 some t41_1)
 (cond (p0.1==4)
 ((cond (decide ((p0.2.2.1.length:Int)<=20)) (some (p0.2.1==0)) (some false)).bind λt52_1 =>
 (cond t52_1 (some ((p0.2.2.2.length:Int)==0)) (some false)).bind λt58_1 =>
 some t58_1)
 (cond (p0.1==6)
 ((bD p0.2.2.2).bind λt63_1 =>
 (cond t63_1 (some (p0.2.1==0)) (some false)).bind λt68_1 =>
 (cond t68_1 (some (p0.2.2.1==[])) (some false)).bind λt73_1 =>
 some t73_1)
 (some false)))))
 (cond (p0.1==130)
 ((cond (p0.2.1==0) (some (p0.2.2.1==[])) (some false)).bind λt16_2 =>
 (cond t16_2 (some ((p0.2.2.2.length:Int)==0)) (some false)).bind λt22_2 =>
 some t22_2)
 (cond (p0.1==2)
 ((aw p0.2.1).bind λt27_2 =>
 (cond (t27_2==p0.2.1) (some (p0.2.2.1==[])) (some false)).bind λt35_2 =>
 (cond t35_2 (some ((p0.2.2.2.length:Int)==0)) (some false)).bind λt41_2 =>
 some t41_2)
 (cond (p0.1==4)
 ((cond (decide ((p0.2.2.1.length:Int)<=20)) (some (p0.2.1==0)) (some false)).bind λt52_2 =>
 (cond t52_2 (some ((p0.2.2.2.length:Int)==0)) (some false)).bind λt58_2 =>
 some t58_2)
 (cond (p0.1==6)
 ((bD p0.2.2.2).bind λt63_2 =>
 (cond t63_2 (some (p0.2.1==0)) (some false)).bind λt68_2 =>
 (cond t68_2 (some (p0.2.2.1==[])) (some false)).bind λt73_2 =>
 some t73_2)
 (some false))))))
def nH:FL:=(287,⟨[.val true yd false],[.val false uf (some true)],λa=>bo a⟩)::nG
theorem sJ:Gd nH:=tv sI 287 Tryz.f287 [] Tryz.func287
def iL (k0:Int):Option Bool :=
 (cond (k0==160) (some true) (some (k0==161))).bind λt8 =>
 (cond t8 (some true) (some (k0==162))).bind λt12 =>
 (cond t12 (some true) (some (k0==163))).bind λt16 =>
 (cond t16 (some true) (some (k0==165))).bind λt20 =>
 some t20
def nI:FL:=(288,⟨[.val false tu false],[.val false uf (some true)],λa=>iL a⟩)::nH
theorem sK:Gd nI:=tv sJ 288 Tryz.f288 [] Tryz.func288
def i0 (p0:tQ) (t3:Int):Option (Int⊕(Unit⊕Bool)) :=
 cond (decide (t3<(p0.2.2.2.2.length:Int)))
 ((at? p0.2.2.2.2 t3).bind λx14 =>
 (bD x14.1).bind λt17 =>
 (cond (!t17)
 (some true)
 ((at? p0.2.2.2.2 t3).bind λx23 =>
 (bo x23.2).bind λt26 =>
 some (!t26))).bind λt28 =>
 cond t28 (some (.inr (.inr false))) (some (.inl (te (t3+1)))))
 (some (.inr (.inl ())))
def bC (p0:tQ):Option Bool :=
 (loop (λz=>i0 p0 z) 0).bind (Sum.elim (λd =>
 (cond (p0.1 != 162) (some (p0.1 != 165)) (some false)).bind λt36 =>
 (cond t36
 ((cond (p0.2.2.1 != 0) (some true) (some (p0.2.2.2.1 != 0))).bind λt45 =>
 some t45)
 (some false)).bind λt46 =>
 cond t46
 (some false)
 ((iL p0.1).bind λt49 =>
 (cond t49
 ((aw p0.2.1).bind λt53 =>
 some (t53==p0.2.1))
 (some false)).bind λt57 =>
 (cond t57
 ((ae p0.2.2.1 0 1000).bind λt61 =>
 some t61)
 (some false)).bind λt62 =>
 (cond t62
 ((ae p0.2.2.2.1 0 1000).bind λt66 =>
 some t66)
 (some false)).bind λt67 =>
 (cond t67 (some (decide ((p0.2.2.2.2.length:Int)<=10))) (some false)).bind λt73 =>
 some t73)) (λr=>some r))
def nJ:FL:=(174,⟨[.val true vk false],[.val false uf (some true)],λa=>bC a⟩)::nI
theorem sL:Gd nJ:=tv sK 174 Tryz.f174 [(0,⟨⟨(3,false,[dI])::us 20 8 [],[]⟩,
 ⟨[],[]⟩,some ⟨[(2,false,[dB])],[]⟩⟩)] Tryz.func174
def iM (p0:tQ):Option Bool :=
 (bC p0).bind λt4 =>
 (cond t4 (some (p0.1 != 162)) (some false)).bind λt9 =>
 some t9
def nK:FL:=(246,⟨[.val true vk false],[.val false uf (some true)],λa=>iM a⟩)::nJ
theorem sM:Gd nK:=tv sL 246 Tryz.f246 [] Tryz.func246
def fG (j0:um) (last1:Int):Option Bool :=
 (ae j0.1 1 last1).bind λt8 =>
 (cond (!t8)
 (some true)
 ((ae j0.2.2.1 0 2).bind λt13 =>
 some (!t13))).bind λt15 =>
 (cond t15
 (some true)
 ((ae j0.2.2.2.2.2.2.2.2.2.2.2.2.2.2.2.2.2.2.2.2 0 3).bind λt19 =>
 some (!t19))).bind λt21 =>
 (cond t21
 (some true)
 ((ae j0.2.2.2.2.2.2.2.2.2.2.2.2.2.2.2.2.2.2.2.1 0 (j0.2.2.2.2.2.2.2.1.length:Int)).bind λt29 =>
 some (!t29))).bind λt31 =>
 cond t31
 (some false)
 ((cond (j0.2.2.1==0)
 (some true)
 ((iM (j0.2.2.2.1,j0.2.2.2.2.1,j0.2.2.2.2.2.1,j0.2.2.2.2.2.2.1,j0.2.2.2.2.2.2.2.1)).bind λt38 =>
 (cond t38
 ((aZ (j0.2.2.2.2.2.2.2.2.1,j0.2.2.2.2.2.2.2.2.2.1,j0.2.2.2.2.2.2.2.2.2.2.1,j0.2.2.2.2.2.2.2.2.2.2.2.1,j0.2.2.2.2.2.2.2.2.2.2.2.2.1,j0.2.2.2.2.2.2.2.2.2.2.2.2.2.1,j0.2.2.2.2.2.2.2.2.2.2.2.2.2.2.1,j0.2.2.2.2.2.2.2.2.2.2.2.2.2.2.2.1,j0.2.2.2.2.2.2.2.2.2.2.2.2.2.2.2.2.1,j0.2.2.2.2.2.2.2.2.2.2.2.2.2.2.2.2.2.1,j0.2.2.2.2.2.2.2.2.2.2.2.2.2.2.2.2.2.2.1)).bind λt42 =>
 some t42)
 (some false)).bind λt43 =>
 some t43)).bind λt44 =>
 some t44)
def nL:FL:=(144,⟨[.val true ye false,.val false tu false],[.val false uf (some true)],λa=>fG a.1 a.2⟩)::nK
theorem sN:Gd nL:=tv sM 144 Tryz.f144 [] Tryz.func144
def iN (p0:tB) (t3:Int):Option (Int⊕(Unit⊕Bool)) :=
 cond (decide (t3<(p0.2.2.2.2.2.2.2.2.2.2.2.2.1.length:Int)))
 ((at? p0.2.2.2.2.2.2.2.2.2.2.2.2.1 t3).bind λx14 =>
 (fG x14 p0.2.2.2.2.2.2.2.2.2.2.2.2.2.2).bind λt18 =>
 (cond (!t18)
 (some true)
 ((cond (decide (t3>0))
 ((at? p0.2.2.2.2.2.2.2.2.2.2.2.2.1 (te (t3-1))).bind λx28 =>
 (at? p0.2.2.2.2.2.2.2.2.2.2.2.2.1 t3).bind λx34 =>
 some (decide (x28.1>=x34.1)))
 (some false)).bind λt38 =>
 some t38)).bind λt39 =>
 cond t39 (some (.inr (.inr false))) (some (.inl (te (t3+1)))))
 (some (.inr (.inl ())))
def cc (p0:tB):Option Bool :=
 (loop (λz=>iN p0 z) 0).bind (Sum.elim (λd =>
 (aZ (p0.1,p0.2.1,p0.2.2.1,p0.2.2.2.1,p0.2.2.2.2.1,p0.2.2.2.2.2.1,p0.2.2.2.2.2.2.1,p0.2.2.2.2.2.2.2.1,p0.2.2.2.2.2.2.2.2.1,p0.2.2.2.2.2.2.2.2.2.1,p0.2.2.2.2.2.2.2.2.2.2.1)).bind λt42 =>
 (cond t42
 (some (decide ((p0.2.2.2.2.2.2.2.2.2.2.2.1.length:Int)<=20)))
 (some false)).bind λt48 =>
 (cond t48
 (some (decide ((p0.2.2.2.2.2.2.2.2.2.2.2.2.1.length:Int)<=6)))
 (some false)).bind λt54 =>
 (cond t54
 ((ae p0.2.2.2.2.2.2.2.2.2.2.2.2.2.1 0 1000000).bind λt58 =>
 some t58)
 (some false)).bind λt59 =>
 (cond t59
 ((ae p0.2.2.2.2.2.2.2.2.2.2.2.2.2.2 0 1000000).bind λt63 =>
 some t63)
 (some false)).bind λt64 =>
 some t64) (λr=>some r))
def nM:FL:=(57,⟨[.val true ul false],[.val false uf (some true)],λa=>cc a⟩)::nL
theorem sO:Gd nM:=tv sN 57 Tryz.f57 [(0,⟨⟨(3,false,[dI])::us 21 18 [],[]⟩,
 ⟨[],[]⟩,some ⟨[(2,false,[dB])],[]⟩⟩)] Tryz.func57
def bS (l0:List tk):Option (List tk) :=
 (tJ ([]:List tk) l0).bind λzs5 =>
 some zs5
def nN:FL:=(175,⟨[.val false (.one (.sl tT)) false],[.val false (.one (.sl tT)) (some true)],λa=>bS a⟩)::nM
theorem sP:Gd nN:=tv sO 175 Tryz.f175 [] Tryz.func175
def aO (v0:uj):Option uj :=
 (tJ ([]:List tC) v0.1).bind λzs6 =>
 (tJ ([]:List Int) v0.2).bind λzs10 =>
 some (zs6,zs10)
def nO:FL:=(176,⟨[.val true vB false],[.val true vB (some true)],λa=>aO a⟩)::nN
theorem sQ:Gd nO:=tv sP 176 Tryz.f176 [] Tryz.func176
def am (b0:td):Option td :=
 (tJ ([]:List Pt) b0.2.2.1).bind λzs8 =>
 (bS b0.2.2.2.1).bind λt12 =>
 (aO (b0.2.2.2.2.1,b0.2.2.2.2.2.1)).bind λt16 =>
 some (b0.1,b0.2.1,zs8,t12,t16.1,t16.2,b0.2.2.2.2.2.2.1,b0.2.2.2.2.2.2.2.1,b0.2.2.2.2.2.2.2.2.1,b0.2.2.2.2.2.2.2.2.2.1,b0.2.2.2.2.2.2.2.2.2.2)
def nP:FL:=(83,⟨[.val true tK false],[.val true tK (some true)],λa=>am a⟩)::nO
theorem sR:Gd nP:=tv sQ 83 Tryz.f83 [] Tryz.func83
def eE (l0:List tg) (i4:Int) (out3:List tg):Option ((Int×List tg)⊕(List tg)) :=
 cond (decide (i4<(l0.length:Int)))
 ((at? l0 i4).bind λx15 =>
 (tJ ([]:List Int) x15.2.2.2.2).bind λzs21 =>
 (at? l0 i4).bind λx27 =>
 (tJ ([]:List Int) x27.1).bind λzs30 =>
 (tJ out3 [(zs30,x15.2.1,x15.2.2.1,x15.2.2.2.1,zs21)]).bind λzs34 =>
 some (.inl (te (i4+1),zs34)))
 (some (.inr out3))
def cH (l0:List tg):Option (List tg) :=
 (loop (λz=>eE l0 z.1 z.2) (0,([]:List tg))).bind λd =>
 some d
def nQ:FL:=(85,⟨[.val false (.one (.sl tG)) false],[.val false (.one (.sl tG)) (some true)],λa=>cH a⟩)::nP
theorem sS:Gd nQ:=tv sR 85 Tryz.f85 [(0,⟨⟨[(3,false,[.own 1000000000]),(4,false,[dI])],[(1000000000,.root tG true)]⟩,
 ⟨[(3,false,[.own 1000000300])],[(1000000300,.root tG true)]⟩,none⟩)] Tryz.func85
def fH (p0:tQ):Option tQ :=
 (cH p0.2.2.2.2).bind λt7 =>
 some (p0.1,p0.2.1,p0.2.2.1,p0.2.2.2.1,t7)
def nR:FL:=(241,⟨[.val true vk false],[.val true vk (some true)],λa=>fH a⟩)::nQ
theorem sT:Gd nR:=tv sS 241 Tryz.f241 [] Tryz.func241
def fJ (a0:tB) (i4:Int) (b0:Int) (b1:List UInt8) (b6:Int) (b7:Int) (b8:Int) (b9:Int) (b10:Int) (b11:List UInt8) (b13:Int) (b14:Int) (b12:List um):Option ((Int×Int×List UInt8×Int×Int×Int×Int×Int×List UInt8×Int×Int×List um)⊕(Int×List UInt8×Int×Int×Int×Int×Int×List UInt8×Int×Int×List um)) :=
 cond (decide (i4<(a0.2.2.2.2.2.2.2.2.2.2.2.2.1.length:Int)))
 ((at? a0.2.2.2.2.2.2.2.2.2.2.2.2.1 i4).bind λx26 =>
 (tJ ([]:List Int) x26.2.1).bind λzs31 =>
 (fH (x26.2.2.2.1,x26.2.2.2.2.1,x26.2.2.2.2.2.1,x26.2.2.2.2.2.2.1,x26.2.2.2.2.2.2.2.1)).bind λt35 =>
 (am (x26.2.2.2.2.2.2.2.2.1,x26.2.2.2.2.2.2.2.2.2.1,x26.2.2.2.2.2.2.2.2.2.2.1,x26.2.2.2.2.2.2.2.2.2.2.2.1,x26.2.2.2.2.2.2.2.2.2.2.2.2.1,x26.2.2.2.2.2.2.2.2.2.2.2.2.2.1,x26.2.2.2.2.2.2.2.2.2.2.2.2.2.2.1,x26.2.2.2.2.2.2.2.2.2.2.2.2.2.2.2.1,x26.2.2.2.2.2.2.2.2.2.2.2.2.2.2.2.2.1,x26.2.2.2.2.2.2.2.2.2.2.2.2.2.2.2.2.2.1,x26.2.2.2.2.2.2.2.2.2.2.2.2.2.2.2.2.2.2.1)).bind λt39 =>
 (tJ b12 [(x26.1,zs31,x26.2.2.1,t35.1,t35.2.1,t35.2.2.1,t35.2.2.2.1,t35.2.2.2.2,t39.1,t39.2.1,t39.2.2.1,t39.2.2.2.1,t39.2.2.2.2.1,t39.2.2.2.2.2.1,t39.2.2.2.2.2.2.1,t39.2.2.2.2.2.2.2.1,t39.2.2.2.2.2.2.2.2.1,t39.2.2.2.2.2.2.2.2.2.1,t39.2.2.2.2.2.2.2.2.2.2,x26.2.2.2.2.2.2.2.2.2.2.2.2.2.2.2.2.2.2.2.1,x26.2.2.2.2.2.2.2.2.2.2.2.2.2.2.2.2.2.2.2.2)]).bind λzs45 =>
 some (.inl (te (i4+1),b0,b1,b6,b7,b8,b9,b10,b11,b13,b14,zs45)))
 (some (.inr (b0,b1,b6,b7,b8,b9,b10,b11,b13,b14,b12)))
def dU (a0:tB):Option tB :=
 (am (a0.1,a0.2.1,a0.2.2.1,a0.2.2.2.1,a0.2.2.2.2.1,a0.2.2.2.2.2.1,a0.2.2.2.2.2.2.1,a0.2.2.2.2.2.2.2.1,a0.2.2.2.2.2.2.2.2.1,a0.2.2.2.2.2.2.2.2.2.1,a0.2.2.2.2.2.2.2.2.2.2.1)).bind λt8 =>
 (loop (λz=>fJ a0 z.1 z.2.1 z.2.2.1 z.2.2.2.1 z.2.2.2.2.1 z.2.2.2.2.2.1 z.2.2.2.2.2.2.1 z.2.2.2.2.2.2.2.1 z.2.2.2.2.2.2.2.2.1 z.2.2.2.2.2.2.2.2.2.1 z.2.2.2.2.2.2.2.2.2.2.1 z.2.2.2.2.2.2.2.2.2.2.2) (0,t8.1,t8.2.1,t8.2.2.2.2.2.2.1,t8.2.2.2.2.2.2.2.1,t8.2.2.2.2.2.2.2.2.1,t8.2.2.2.2.2.2.2.2.2.1,t8.2.2.2.2.2.2.2.2.2.2,a0.2.2.2.2.2.2.2.2.2.2.2.1,a0.2.2.2.2.2.2.2.2.2.2.2.2.2.1,a0.2.2.2.2.2.2.2.2.2.2.2.2.2.2,[])).bind λd =>
 some (d.1,d.2.1,t8.2.2.1,t8.2.2.2.1,t8.2.2.2.2.1,t8.2.2.2.2.2.1,d.2.2.1,d.2.2.2.1,d.2.2.2.2.1,d.2.2.2.2.2.1,d.2.2.2.2.2.2.1,d.2.2.2.2.2.2.2.1,d.2.2.2.2.2.2.2.2.2.2,d.2.2.2.2.2.2.2.2.1,d.2.2.2.2.2.2.2.2.2.1)
def nS:FL:=(139,⟨[.val true ul false],[.val true ul (some true)],λa=>dU a⟩)::nR
theorem sU:Gd nS:=tv sT 139 Tryz.f139 [(0,⟨⟨[(4,false,[dI])],[(273408,.box [dI,dS,.same 265218,.same 265219,.same 265220,.same 265221,dI,dI,dI,dI,dI,dS,.own 1000000000,dI,dI]),(1000000000,.root ye true)]⟩,
 ⟨[],[(273408,.box [dI,dS,.same 265218,.same 265219,.same 265220,.same 265221,dI,dI,dI,dI,dI,dS,.own 1000000300,dI,dI]),(1000000300,.root ye true)]⟩,none⟩)] Tryz.func139
def bp (n0:Int):Option Int :=
 cond (decide (n0>=1000000)) (some n0) (some (te (n0+1)))
def nT:FL:=(143,⟨[.val false tu false],[.val false tu (some true)],λa=>bp a⟩)::nS
theorem sV:Gd nT:=tv sU 143 Tryz.f143 [] Tryz.func143
def bb (a0:tB) (b1:List Int):Option tB :=
 (dU a0).bind λt7 =>
 (cc a0).bind λt9 =>
 (cond (!t9)
 (some true)
 (some (decide ((a0.2.2.2.2.2.2.2.2.2.2.2.2.1.length:Int)>=6)))).bind λt16 =>
 (cond t16
 (some true)
 (some (decide (a0.2.2.2.2.2.2.2.2.2.2.2.2.2.2>=1000000)))).bind λt21 =>
 cond t21
 ((cc a0).bind λt23 =>
 cond t23
 ((bp a0.2.2.2.2.2.2.2.2.2.2.2.2.2.1).bind λt26 =>
 some (t7.1,t7.2.1,t7.2.2.1,t7.2.2.2.1,t7.2.2.2.2.1,t7.2.2.2.2.2.1,t7.2.2.2.2.2.2.1,t7.2.2.2.2.2.2.2.1,t7.2.2.2.2.2.2.2.2.1,t7.2.2.2.2.2.2.2.2.2.1,t7.2.2.2.2.2.2.2.2.2.2.1,t7.2.2.2.2.2.2.2.2.2.2.2.1,t7.2.2.2.2.2.2.2.2.2.2.2.2.1,t26,t7.2.2.2.2.2.2.2.2.2.2.2.2.2.2))
 (some t7))
 ((tJ ([]:List Int) b1).bind λzs39 =>
 (tJ t7.2.2.2.2.2.2.2.2.2.2.2.2.1 ([(te (a0.2.2.2.2.2.2.2.2.2.2.2.2.2.2+1),zs39,0,0,0,0,0,[],0,[],[],[],[],[],0,0,0,0,0,0,0)])).bind λzs42 =>
 some (t7.1,t7.2.1,t7.2.2.1,t7.2.2.2.1,t7.2.2.2.2.1,t7.2.2.2.2.2.1,t7.2.2.2.2.2.2.1,t7.2.2.2.2.2.2.2.1,t7.2.2.2.2.2.2.2.2.1,t7.2.2.2.2.2.2.2.2.2.1,t7.2.2.2.2.2.2.2.2.2.2.1,t7.2.2.2.2.2.2.2.2.2.2.2.1,zs42,t7.2.2.2.2.2.2.2.2.2.2.2.2.2.1,te (a0.2.2.2.2.2.2.2.2.2.2.2.2.2.2+1)))
def nU:FL:=(56,⟨[.val true ul false,.val false uG false],[.val true ul (some true)],λa=>bb a.1 a.2⟩)::nT
theorem sW:Gd nU:=tv sV 56 Tryz.f56 [] Tryz.func56
def du (c0:tD):Option (tD×Int) :=
 let x3:=wT .i64 (M6 .i64 ((te ((te (c0.2.2*6364136223846793005))+1442695040888963407)).fdiv (2^33)) ((te ((te (c0.2.2*6364136223846793005))+1442695040888963407)).fdiv (2^47))) 255
 cond (decide (c0.2.1<(c0.1.length:Int)))
 ((at? c0.1 c0.2.1).bind λx44 =>
 let x3_1:=wT .i64 (te (x3+(te (x44)))) 255
 some ((c0.1,te (c0.2.1+1),te ((te (c0.2.2*6364136223846793005))+1442695040888963407)),x3_1))
 (some ((c0.1,c0.2.1,te ((te (c0.2.2*6364136223846793005))+1442695040888963407)),x3))
def nV:FL:=(190,⟨[.ptr uK none],[.val false tu (some true)],λa=>du a⟩)::nU
theorem sX:Gd nV:=tv sW 190 Tryz.f190 [] Tryz.func190
def aa (c0:tD) (n1:Int):Option (tD×Int) :=
 cond (decide (n1<=0))
 (some (c0,0))
 (cond (decide (n1<=256))
 ((du c0).bind λt13 =>
 (rem t13.2 n1).bind λt15 =>
 some (t13.1,t15))
 ((du c0).bind λt17 =>
 (du t17.1).bind λt19 =>
 (du t19.1).bind λt21 =>
 (rem (te ((te ((te (t17.2*65536))+(te (t19.2*256))))+t21.2)) n1).bind λt30 =>
 some (t21.1,t30)))
def nW:FL:=(97,⟨[.ptr uK none,.val false tu false],[.val false tu (some true)],λa=>aa a.1 a.2⟩)::nV
theorem sY:Gd nW:=tv sX 97 Tryz.f97 [] Tryz.func97
def bA (c0:tD) (n1:Int):Option (tD×Bool) :=
 (aa c0 n1).bind λt7 =>
 some (t7.1,t7.2==0)
def nX:FL:=(100,⟨[.ptr uK none,.val false tu false],[.val false uf (some true)],λa=>bA a.1 a.2⟩)::nW
theorem sZ:Gd nX:=tv sY 100 Tryz.f100 [] Tryz.func100
def ah (c0:tD) (list1:List Int):Option (tD×Int) :=
 (aa c0 (list1.length:Int)).bind λt9 =>
 (at? list1 t9.2).bind λx10 =>
 some (t9.1,x10)
def iP:FL:=(138,⟨[.ptr uK none,.val false vL false],[.val false tu (some true)],λa=>ah a.1 a.2⟩)::nX
theorem nZ:Gd iP:=tv sZ 138 Tryz.f138 [] Tryz.func138
def aM (c0:tD) (list1:List (List UInt8)):Option (tD×List UInt8) :=
 (aa c0 (list1.length:Int)).bind λt9 =>
 (at? list1 t9.2).bind λx10 =>
 some (t9.1,x10)
end
end Go.V.W
