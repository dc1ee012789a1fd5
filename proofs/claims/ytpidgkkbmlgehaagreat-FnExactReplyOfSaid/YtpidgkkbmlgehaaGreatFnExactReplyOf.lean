/- The law FnExactReplyOf: part of the proof that for every input it returns true. No condition. -/
import Derived.Test.YtpidgkkbmlgehaaGreatV4
import Derived.Test.YtpidgkkbmlgehaaGreatProg
import Derived.Test.YtpidgkkbmlgehaaGreatChecked
import Derived.KernelRfl
set_option linter.unusedVariables false
set_option linter.unusedSimpArgs false
namespace Go.V.W
open Go.Proofs
noncomputable section
def us:Nat->Nat->List (Nat×Bool×List q8)->List (Nat×Bool×List q8)|_,0,l=>l|a,n+1,l=>(a,false,[.undef])::us (a+1) n l
@[reducible] def oR:Cs:=.one (.int .i64)
@[reducible] def pL:Cs:=.one .bool
@[reducible] def sf:Cs:=.one (.sl (.one (.int .u8)))
@[reducible] def qu:Cs:=.one (.sl (.one (.int .i64)))
@[reducible] def LL:Cs:=.one .str
@[reducible] def dI:q8:=.dat (.int .i64)
@[reducible] def dB:q8:=.dat .bool
@[reducible] def dS:q8:=.dat .str
@[reducible] def sv:Cs:=.cons (.int .i64) (.cons (.int .i64) (.cons .str qu))
@[reducible] def oV:Cs:=.cons (.sl oR) (.cons (.int .i64) (.cons (.int .i64) (.cons .str qu)))
@[reducible] def qx:Cs:=.cons (.int .i64) (.cons (.int .i64) (.cons (.int .i64) (.cons (.int .i64) (.one (.sl oV)))))
@[reducible] def sN:Cs:=.cons (.int .i64) (.cons (.int .i64) (.cons (.int .i64) (.cons (.int .i64) oR)))
@[reducible] def qj:Cs:=.cons .bool (.cons (.int .i64) (.cons .bool (.cons (.int .i64) (.cons (.int .i64) (.cons (.int .i64) (.cons (.int .i64) oR))))))
@[reducible] def pd:Cs:=.cons (.int .i64) (.cons (.int .i64) (.cons (.int .i64) (.cons (.int .i64) pL)))
@[reducible] def pE:Cs:=.cons (.int .i64) (.cons (.int .i64) oR)
@[reducible] def qO:Cs:=.cons (.sl pE) qu
@[reducible] def p4:Cs:=.cons (.int .i64) (.cons .str (.cons (.sl qj) (.cons (.sl pd) (.cons (.sl pE) (.cons (.sl oR) (.cons (.int .i64) (.cons (.int .i64) (.cons (.int .i64) (.cons (.int .i64) oR)))))))))
abbrev rk:Type:=Int×Int×List UInt8×List Int
abbrev oK:Type:=List Int×Int×Int×List UInt8×List Int
abbrev ph:Type:=Int×Int×Int×Int×List oK
abbrev u4:Type:=Int×Int×Int×Int×Int
abbrev Pt:Type:=Bool×Int×Bool×Int×Int×Int×Int×Int
abbrev oT:Type:=Int×Int×Int×Int×Bool
abbrev oZ:Type:=Int×Int×Int
abbrev pU:Type:=List oZ×List Int
abbrev oI:Type:=Int×List UInt8×List Pt×List oT×List oZ×List Int×Int×Int×Int×Int×Int
def tis:List (Nat×pc):=[(2,⟨false,.one (.int .i64),[],0⟩),
 (3,⟨false,.one (.int .i64),[],0⟩),
 (4,⟨false,.one .bool,[],0⟩),
 (5,⟨false,.one (.int .u8),[],0⟩),
 (6,⟨false,.one (.int .u8),[],0⟩),
 (9,⟨false,.one .str,[],0⟩),
 (10,⟨false,.one .str,[],0⟩),
 (11,⟨false,.one .str,[],0⟩),
 (12,⟨false,.one (.int .u64),[],0⟩),
 (21,⟨false,.one (.int .i32),[],0⟩),
 (22,⟨false,.one (.sl (.one (.int .u8))),[],5⟩),
 (24,⟨false,.one (.sl qj),[],131⟩),
 (25,⟨false,.one (.sl pd),[],133⟩),
 (26,⟨false,.one (.sl pE),[],219⟩),
 (27,⟨false,.one (.sl oR),[],3⟩),
 (28,⟨true,qO,[(26,0),(27,1)],0⟩),
 (29,⟨true,qO,[(26,0),(27,1)],0⟩),
 (30,⟨true,p4,[(3,0),(9,1),(24,2),(25,3),(29,4),(3,6),(3,7),(3,8),(3,9),(3,10)],0⟩),
 (31,⟨true,p4,[(3,0),(9,1),(24,2),(25,3),(29,4),(3,6),(3,7),(3,8),(3,9),(3,10)],0⟩),
 (32,⟨false,.one (.sl oV),[],46⟩),
 (33,⟨true,qx,[(3,0),(3,1),(3,2),(3,3),(32,4)],0⟩),
 (34,⟨true,qx,[(3,0),(3,1),(3,2),(3,3),(32,4)],0⟩),
 (43,⟨true,sv,[(3,0),(3,1),(9,2),(27,3)],0⟩),
 (44,⟨true,sv,[(3,0),(3,1),(9,2),(27,3)],0⟩),
 (45,⟨true,oV,[(27,0),(44,1)],0⟩),
 (46,⟨true,oV,[(27,0),(44,1)],0⟩),
 (51,⟨false,.one (.sl qj),[],241⟩),
 (52,⟨false,.one (.sl pd),[],243⟩),
 (53,⟨false,.one (.sl pE),[],308⟩),
 (54,⟨true,qO,[(53,0),(27,1)],0⟩),
 (55,⟨true,qO,[(53,0),(27,1)],0⟩),
 (56,⟨true,p4,[(3,0),(9,1),(51,2),(52,3),(55,4),(3,6),(3,7),(3,8),(3,9),(3,10)],0⟩),
 (57,⟨true,p4,[(3,0),(9,1),(51,2),(52,3),(55,4),(3,6),(3,7),(3,8),(3,9),(3,10)],0⟩),
 (58,⟨false,.one (.sl (.cons (.int .i64) (.cons (.int .i64) (.cons .bool (.cons (.sl (.one (.int .u8))) (.cons (.int .i64) (.cons (.int .i64) (.cons (.int .i64) (.cons (.sl (.one (.int .u8))) (.cons (.int .i64) (.cons (.int .i64) (.cons (.int .i64) (.cons (.int .i64) oR))))))))))))),[],152⟩),
 (63,⟨false,.one (.sl (.cons (.int .i64) (.cons (.int .i64) (.cons .bool (.cons (.sl (.one (.int .u8))) (.cons (.int .i64) (.cons (.int .i64) (.cons (.int .i64) (.cons (.sl (.one (.int .u8))) (.cons (.int .i64) (.cons (.int .i64) (.cons (.int .i64) (.cons (.int .i64) oR))))))))))))),[],101⟩),
 (69,⟨false,.one (.sl (.cons (.int .i64) (.cons (.sl (.one (.int .u8))) (.cons (.int .i64) (.cons (.int .i64) (.cons (.int .i64) (.cons (.int .i64) (.cons (.int .i64) (.cons (.sl oV) (.cons (.int .i64) (.cons .str (.cons (.sl qj) (.cons (.sl pd) (.cons (.sl pE) (.cons (.sl oR) (.cons (.int .i64) (.cons (.int .i64) (.cons (.int .i64) (.cons (.int .i64) (.cons (.int .i64) (.cons (.int .i64) oR))))))))))))))))))))),[],174⟩),
 (70,⟨true,.cons (.int .i64) (.cons .str (.cons (.sl qj) (.cons (.sl pd) (.cons (.sl pE) (.cons (.sl oR) (.cons (.int .i64) (.cons (.int .i64) (.cons (.int .i64) (.cons (.int .i64) (.cons (.int .i64) (.cons .str (.cons (.sl (.cons (.int .i64) (.cons (.sl (.one (.int .u8))) (.cons (.int .i64) (.cons (.int .i64) (.cons (.int .i64) (.cons (.int .i64) (.cons (.int .i64) (.cons (.sl oV) (.cons (.int .i64) (.cons .str (.cons (.sl qj) (.cons (.sl pd) (.cons (.sl pE) (.cons (.sl oR) (.cons (.int .i64) (.cons (.int .i64) (.cons (.int .i64) (.cons (.int .i64) (.cons (.int .i64) (.cons (.int .i64) oR))))))))))))))))))))) (.cons (.int .i64) oR))))))))))))),[(31,0),(9,11),(69,12),(3,13),(3,14)],0⟩),
 (71,⟨true,.cons (.int .i64) (.cons .str (.cons (.sl qj) (.cons (.sl pd) (.cons (.sl pE) (.cons (.sl oR) (.cons (.int .i64) (.cons (.int .i64) (.cons (.int .i64) (.cons (.int .i64) (.cons (.int .i64) (.cons .str (.cons (.sl (.cons (.int .i64) (.cons (.sl (.one (.int .u8))) (.cons (.int .i64) (.cons (.int .i64) (.cons (.int .i64) (.cons (.int .i64) (.cons (.int .i64) (.cons (.sl oV) (.cons (.int .i64) (.cons .str (.cons (.sl qj) (.cons (.sl pd) (.cons (.sl pE) (.cons (.sl oR) (.cons (.int .i64) (.cons (.int .i64) (.cons (.int .i64) (.cons (.int .i64) (.cons (.int .i64) (.cons (.int .i64) oR))))))))))))))))))))) (.cons (.int .i64) oR))))))))))))),[(31,0),(9,11),(69,12),(3,13),(3,14)],0⟩),
 (75,⟨false,.one (.sl (.cons (.int .i64) (.cons (.int .i64) (.cons (.int .i64) (.cons (.int .i64) (.cons (.int .i64) (.one (.sl oV)))))))),[],81⟩),
 (80,⟨true,.cons (.int .i64) (.cons (.int .i64) (.cons (.int .i64) (.cons (.int .i64) (.cons (.int .i64) (.one (.sl oV)))))),[(3,0),(34,1)],0⟩),
 (81,⟨true,.cons (.int .i64) (.cons (.int .i64) (.cons (.int .i64) (.cons (.int .i64) (.cons (.int .i64) (.one (.sl oV)))))),[(3,0),(34,1)],0⟩),
 (92,⟨false,.one (.sl (.cons (.int .i64) (.cons (.int .i64) (.cons (.int .i64) (.cons (.int .i64) sf))))),[],190⟩),
 (96,⟨true,.cons (.int .i64) (.cons (.int .i64) (.cons (.int .i64) sf)),[(3,0),(3,1),(3,2),(22,3)],0⟩),
 (97,⟨true,.cons (.int .i64) (.cons (.int .i64) (.cons (.int .i64) sf)),[(3,0),(3,1),(3,2),(22,3)],0⟩),
 (98,⟨true,sN,[(3,0),(3,1),(3,2),(3,3),(3,4)],0⟩),
 (99,⟨true,sN,[(3,0),(3,1),(3,2),(3,3),(3,4)],0⟩),
 (100,⟨true,.cons (.int .i64) (.cons (.int .i64) (.cons .bool (.cons (.sl (.one (.int .u8))) (.cons (.int .i64) (.cons (.int .i64) (.cons (.int .i64) (.cons (.sl (.one (.int .u8))) (.cons (.int .i64) (.cons (.int .i64) (.cons (.int .i64) (.cons (.int .i64) oR))))))))))),[(3,0),(3,1),(4,2),(22,3),(97,4),(99,8)],0⟩),
 (101,⟨true,.cons (.int .i64) (.cons (.int .i64) (.cons .bool (.cons (.sl (.one (.int .u8))) (.cons (.int .i64) (.cons (.int .i64) (.cons (.int .i64) (.cons (.sl (.one (.int .u8))) (.cons (.int .i64) (.cons (.int .i64) (.cons (.int .i64) (.cons (.int .i64) oR))))))))))),[(3,0),(3,1),(4,2),(22,3),(97,4),(99,8)],0⟩),
 (108,⟨false,.one (.sl oV),[],284⟩),
 (109,⟨true,qx,[(3,0),(3,1),(3,2),(3,3),(108,4)],0⟩),
 (110,⟨true,qx,[(3,0),(3,1),(3,2),(3,3),(108,4)],0⟩),
 (130,⟨true,qj,[(4,0),(3,1),(4,2),(99,3)],0⟩),
 (131,⟨true,qj,[(4,0),(3,1),(4,2),(99,3)],0⟩),
 (132,⟨true,pd,[(3,0),(3,1),(3,2),(3,3),(4,4)],0⟩),
 (133,⟨true,pd,[(3,0),(3,1),(3,2),(3,3),(4,4)],0⟩),
 (149,⟨true,.cons (.int .i64) (.cons (.int .i64) (.cons (.int .i64) sf)),[(3,0),(3,1),(3,2),(22,3)],0⟩),
 (150,⟨true,sN,[(3,0),(3,1),(3,2),(3,3),(3,4)],0⟩),
 (151,⟨true,.cons (.int .i64) (.cons (.int .i64) (.cons .bool (.cons (.sl (.one (.int .u8))) (.cons (.int .i64) (.cons (.int .i64) (.cons (.int .i64) (.cons (.sl (.one (.int .u8))) (.cons (.int .i64) (.cons (.int .i64) (.cons (.int .i64) (.cons (.int .i64) oR))))))))))),[(3,0),(3,1),(4,2),(22,3),(149,4),(150,8)],0⟩),
 (152,⟨true,.cons (.int .i64) (.cons (.int .i64) (.cons .bool (.cons (.sl (.one (.int .u8))) (.cons (.int .i64) (.cons (.int .i64) (.cons (.int .i64) (.cons (.sl (.one (.int .u8))) (.cons (.int .i64) (.cons (.int .i64) (.cons (.int .i64) (.cons (.int .i64) oR))))))))))),[(3,0),(3,1),(4,2),(22,3),(149,4),(150,8)],0⟩),
 (173,⟨true,.cons (.int .i64) (.cons (.sl (.one (.int .u8))) (.cons (.int .i64) (.cons (.int .i64) (.cons (.int .i64) (.cons (.int .i64) (.cons (.int .i64) (.cons (.sl oV) (.cons (.int .i64) (.cons .str (.cons (.sl qj) (.cons (.sl pd) (.cons (.sl pE) (.cons (.sl oR) (.cons (.int .i64) (.cons (.int .i64) (.cons (.int .i64) (.cons (.int .i64) (.cons (.int .i64) (.cons (.int .i64) oR))))))))))))))))))),[(3,0),(22,1),(3,2),(34,3),(31,8),(3,19),(3,20)],0⟩),
 (174,⟨true,.cons (.int .i64) (.cons (.sl (.one (.int .u8))) (.cons (.int .i64) (.cons (.int .i64) (.cons (.int .i64) (.cons (.int .i64) (.cons (.int .i64) (.cons (.sl oV) (.cons (.int .i64) (.cons .str (.cons (.sl qj) (.cons (.sl pd) (.cons (.sl pE) (.cons (.sl oR) (.cons (.int .i64) (.cons (.int .i64) (.cons (.int .i64) (.cons (.int .i64) (.cons (.int .i64) (.cons (.int .i64) oR))))))))))))))))))),[(3,0),(22,1),(3,2),(34,3),(31,8),(3,19),(3,20)],0⟩),
 (185,⟨false,.one (.sl LL),[],9⟩),
 (189,⟨true,.cons (.int .i64) (.cons (.int .i64) (.cons (.int .i64) (.cons (.int .i64) sf))),[(3,0),(97,1)],0⟩),
 (190,⟨true,.cons (.int .i64) (.cons (.int .i64) (.cons (.int .i64) (.cons (.int .i64) sf))),[(3,0),(97,1)],0⟩),
 (201,⟨true,.cons (.sl (.one (.int .u8))) (.cons (.int .i64) oR),[(22,0),(3,1),(3,2)],0⟩),
 (202,⟨true,.cons (.sl (.one (.int .u8))) (.cons (.int .i64) oR),[(22,0),(3,1),(3,2)],0⟩),
 (214,⟨false,.one (.sl qu),[],27⟩),
 (218,⟨true,pE,[(3,0),(3,1),(3,2)],0⟩),
 (219,⟨true,pE,[(3,0),(3,1),(3,2)],0⟩),
 (240,⟨true,qj,[(4,0),(3,1),(4,2),(150,3)],0⟩),
 (241,⟨true,qj,[(4,0),(3,1),(4,2),(150,3)],0⟩),
 (243,⟨true,pd,[(3,0),(3,1),(3,2),(3,3),(4,4)],0⟩),
 (260,⟨true,.cons (.sl (.one (.int .u8))) (.cons (.int .i64) pL),[(22,0),(3,1),(4,2)],0⟩),
 (261,⟨true,.cons (.sl (.one (.int .u8))) (.cons (.int .i64) pL),[(22,0),(3,1),(4,2)],0⟩),
 (270,⟨false,.one (.int .u64),[],0⟩),
 (282,⟨true,sv,[(3,0),(3,1),(9,2),(27,3)],0⟩),
 (283,⟨true,oV,[(27,0),(282,1)],0⟩),
 (284,⟨true,oV,[(27,0),(282,1)],0⟩),
 (308,⟨true,pE,[(3,0),(3,1),(3,2)],0⟩),
 (313,⟨true,.cons (.sl (.one (.int .u8))) (.cons (.int .i64) pL),[(22,0),(3,1),(4,2)],0⟩),
 (314,⟨true,.cons (.sl (.one (.int .u8))) (.cons (.int .i64) pL),[(22,0),(3,1),(4,2)],0⟩),
 (343,⟨false,.one (.int .i8),[],0⟩),
 (351,⟨false,.one (.int .u32),[],0⟩),
 (352,⟨false,.one (.int .u8),[],0⟩),
 (353,⟨false,.one (.int .u8),[],0⟩),
 (356,⟨false,.one (.int .i32),[],0⟩),
 (357,⟨false,.one (.int .i32),[],0⟩)]
theorem tisT:qH Tryz.prog tis:=qH.of_all (by kernel_rfl)
theorem LR:Dr Tryz.prog tis:=Dr.of_all (by kernel_rfl)
theorem tisD:Deep Tryz.prog tis:=Deep.of_all (by kernel_rfl)
theorem vI:Tryz.prog.follows .mixedOrders=true:=by kernel_rfl
def qP (fn:Func):Code:=match fn.body with|some c=>c|none=>.skip
theorem kU:rF Tryz.prog ⟨tis,[],[],false⟩:=⟨tisT,LR,(λf F h=>by cases h),(λf M h=>by cases h),(λh=>by cases h)⟩
theorem Mo {l : List (FuncId×Fn)} (g : rF Tryz.prog ⟨tis, l, [], false⟩) (n : FuncId) (f : Func) (ann : List (Nat×oP)) (F : Fn) (h1 : Tryz.prog.funcs[n]?=some f) (h2 : (f.name == "runtime.NumGoroutine")=false := by kernel_rfl) (h3 : f.body=some (qP f) := by kernel_rfl) (h4 : A3 ⟨tis, l, [], false⟩ ann f (qP f) F.ps F.rs=F.den := by kernel_rfl) : wg Tryz.prog n F := by
 have h:=DO (ann:=ann) (ps:=F.ps) (rs:=F.rs) g vI h1 h2 h3;rw[h4]at h;exact h
abbrev FL:=List (FuncId×Fn)
def Gd (l:FL):Prop:=rF Tryz.prog ⟨tis,l,[],false⟩
theorem oX {l : List (FuncId×Fn)} (g : Gd l) (n : FuncId) (f : Func) (ann : List (Nat×oP)) {F : Fn} (h1 : Tryz.prog.funcs[n]?=some f) (h2 : (f.name == "runtime.NumGoroutine")=false := by kernel_rfl) (h3 : f.body=some (qP f) := by kernel_rfl) (h4 : A3 ⟨tis, l, [], false⟩ ann f (qP f) F.ps F.rs=F.den := by kernel_rfl) : Gd ((n, F)::l) := rF.cons g (Mo g n f ann F h1 h2 h3 h4)
def aa (n0:Int) (low1:Int) (high2:Int):Option Bool :=
 (cond (decide (n0>=low1)) (some (decide (n0<=high2))) (some false)).bind λt14 =>
 some t14
def fT:FL:=(90,⟨[.val false oR false,.val false oR false,.val false oR false],[.val false pL (some true)],λa=>aa a.1 a.2.1 a.2.2⟩)::[]
theorem kV:Gd fT:=oX kU 90 Tryz.f90 [] Tryz.func90
def au (o0:List Int) (t7:Int):Option (Int⊕(Unit⊕Bool)) :=
 cond (decide (t7<(o0.length:Int)))
 ((at? o0 t7).bind λx9 =>
 (aa x9 0 100000).bind λt12 =>
 cond (!t12) (some (.inr (.inr false))) (some (.inl (oL (t7+1)))))
 (some (.inr (.inl ())))
def af (o0:List Int):Option Bool :=
 (loop (λz=>au o0 z) 0).bind (Sum.elim (λd =>
 (aa (o0.length:Int) 1 10).bind λt17 =>
 some t17) (λr=>some r))
def fU:FL:=(91,⟨[.val false qu false],[.val false pL (some true)],λa=>af a⟩)::fT
theorem kW:Gd fU:=oX kV 91 Tryz.f91 [(0,⟨⟨[(7,false,[dI])],[]⟩,
 ⟨[],[]⟩,some ⟨[(2,false,[dB])],[]⟩⟩)] Tryz.func91
def bI (a0:List Int) (b1:List Int) (t13:Int):Option (Int⊕(Unit⊕Bool)) :=
 cond (decide (t13<(a0.length:Int)))
 ((at? a0 t13).bind λx18 =>
 (at? b1 t13).bind λx22 =>
 cond (x18 != x22) (some (.inr (.inr false))) (some (.inl (oL (t13+1)))))
 (some (.inr (.inl ())))
def aq (a0:List Int) (b1:List Int):Option Bool :=
 cond ((a0.length:Int) != (b1.length:Int))
 (some false)
 ((loop (λz=>bI a0 b1 z) 0).bind (Sum.elim (λd =>
 some true) (λr=>some r)))
def fV:FL:=(19,⟨[.val false qu false,.val false qu false],[.val false pL (some true)],λa=>aq a.1 a.2⟩)::fU
theorem kX:Gd fV:=oX kW 19 Tryz.f19 [(0,⟨⟨[(13,false,[dI])],[]⟩,
 ⟨[],[]⟩,some ⟨[(4,false,[dB])],[]⟩⟩)] Tryz.func19
def aE (a0:rk) (b1:rk):Option Bool :=
 (cond (a0.1==b1.1) (some (a0.2.1==b1.2.1)) (some false)).bind λt16 =>
 (cond t16 (some (a0.2.2.1==b1.2.2.1)) (some false)).bind λt23 =>
 (cond t23
 ((aq a0.2.2.2 b1.2.2.2).bind λt29 =>
 some t29)
 (some false)).bind λt30 =>
 some t30
def fW:FL:=(20,⟨[.val true sv false,.val true sv false],[.val false pL (some true)],λa=>aE a.1 a.2⟩)::fV
theorem kY:Gd fW:=oX kX 20 Tryz.f20 [] Tryz.func20
def ao (n0:Int):Option Bool :=
 (aa n0 (-2147483648) 2147483647).bind λt4 =>
 some t4
def fX:FL:=(93,⟨[.val false oR false],[.val false pL (some true)],λa=>ao a⟩)::fW
theorem kZ:Gd fX:=oX kY 93 Tryz.f93 [] Tryz.func93
def ai (v0:rk):Option Bool :=
 cond (v0.1==2)
 ((ao v0.2.1).bind λt17 =>
 (cond t17
 ((aE v0 (v0.1,v0.2.1,[],[])).bind λt43 =>
 some t43)
 (some false)).bind λt44 =>
 some t44)
 (cond (v0.1==4)
 (let ok4:=decide ((v0.2.2.1.length:Int)<=20)
 (cond ok4
 ((aE v0 (v0.1,0,v0.2.2.1,[])).bind λt43_1 =>
 some t43_1)
 (some false)).bind λt44_1 =>
 some t44_1)
 (cond (v0.1==6)
 ((af v0.2.2.2).bind λt34 =>
 (cond t34
 ((aE v0 (v0.1,0,[],v0.2.2.2)).bind λt43_2 =>
 some t43_2)
 (some false)).bind λt44_2 =>
 some t44_2)
 (cond (v0.1==5)
 (cond (v0.1==5)
 (((aE v0 (v0.1,0,[],[])).bind λt43_3 =>
 some t43_3).bind λt44_3 =>
 some t44_3)
 (some false))
 (cond (v0.1==128)
 (cond (v0.1==128)
 (((aE v0 (v0.1,0,[],[])).bind λt43_4 =>
 some t43_4).bind λt44_4 =>
 some t44_4)
 (some false))
 (cond (v0.1==130)
 (((aE v0 (v0.1,0,[],[])).bind λt43_5 =>
 some t43_5).bind λt44_5 =>
 some t44_5)
 (some false))))))
def fY:FL:=(92,⟨[.val true sv false],[.val false pL (some true)],λa=>ai a⟩)::fX
theorem l6:Gd fY:=oX kZ 92 Tryz.f92 [] Tryz.func92
def dt (p0:ph) (t35:Int):Option (Int⊕(Unit⊕Bool)) :=
 cond (decide (t35<(p0.2.2.2.2.length:Int)))
 ((at? p0.2.2.2.2 t35).bind λx38 =>
 (cond (decide (t35>=10))
 (some true)
 ((af x38.1).bind λt45 =>
 some (!t45))).bind λt47 =>
 (cond t47
 (some true)
 ((ai x38.2).bind λt51 =>
 some (!t51))).bind λt53 =>
 cond t53 (some (.inr (.inr false))) (some (.inl (oL (t35+1)))))
 (some (.inr (.inl ())))
def fZ (p0:ph) (t35_1:Int):Option (Int⊕(Unit⊕Bool)) :=
 cond (decide (t35_1<(p0.2.2.2.2.length:Int)))
 ((at? p0.2.2.2.2 t35_1).bind λx38_1 =>
 (cond (decide (t35_1>=10))
 (some true)
 ((af x38_1.1).bind λt45_1 =>
 some (!t45_1))).bind λt47_1 =>
 (cond t47_1
 (some true)
 ((ai x38_1.2).bind λt51_1 =>
 some (!t51_1))).bind λt53_1 =>
 cond t53_1 (some (.inr (.inr false))) (some (.inl (oL (t35_1+1)))))
 (some (.inr (.inl ())))
def ga (p0:ph) (t35_2:Int):Option (Int⊕(Unit⊕Bool)) :=
 cond (decide (t35_2<(p0.2.2.2.2.length:Int)))
 ((at? p0.2.2.2.2 t35_2).bind λx38_2 =>
 (cond (decide (t35_2>=10))
 (some true)
 ((af x38_2.1).bind λt45_2 =>
 some (!t45_2))).bind λt47_2 =>
 (cond t47_2
 (some true)
 ((ai x38_2.2).bind λt51_2 =>
 some (!t51_2))).bind λt53_2 =>
 cond t53_2 (some (.inr (.inr false))) (some (.inl (oL (t35_2+1)))))
 (some (.inr (.inl ())))
def gb (p0:ph) (t35_3:Int):Option (Int⊕(Unit⊕Bool)) :=
 cond (decide (t35_3<(p0.2.2.2.2.length:Int)))
 ((at? p0.2.2.2.2 t35_3).bind λx38_3 =>
 (cond (decide (t35_3>=10))
 (some true)
 ((af x38_3.1).bind λt45_3 =>
 some (!t45_3))).bind λt47_3 =>
 (cond t47_3
 (some true)
 ((ai x38_3.2).bind λt51_3 =>
 some (!t51_3))).bind λt53_3 =>
 cond t53_3 (some (.inr (.inr false))) (some (.inl (oL (t35_3+1)))))
 (some (.inr (.inl ())))
def gd (p0:ph) (t35_4:Int):Option (Int⊕(Unit⊕Bool)) :=
 cond (decide (t35_4<(p0.2.2.2.2.length:Int)))
 ((at? p0.2.2.2.2 t35_4).bind λx38_4 =>
 (cond (decide (t35_4>=10))
 (some true)
 ((af x38_4.1).bind λt45_4 =>
 some (!t45_4))).bind λt47_4 =>
 (cond t47_4
 (some true)
 ((ai x38_4.2).bind λt51_4 =>
 some (!t51_4))).bind λt53_4 =>
 cond t53_4 (some (.inr (.inr false))) (some (.inl (oL (t35_4+1)))))
 (some (.inr (.inl ())))
def ge (p0:ph) (t35_5:Int):Option (Int⊕(Unit⊕Bool)) :=
 cond (decide (t35_5<(p0.2.2.2.2.length:Int)))
 ((at? p0.2.2.2.2 t35_5).bind λx38_5 =>
 (cond (decide (t35_5>=10))
 (some true)
 ((af x38_5.1).bind λt45_5 =>
 some (!t45_5))).bind λt47_5 =>
 (cond t47_5
 (some true)
 ((ai x38_5.2).bind λt51_5 =>
 some (!t51_5))).bind λt53_5 =>
 cond t53_5 (some (.inr (.inr false))) (some (.inl (oL (t35_5+1)))))
 (some (.inr (.inl ())))
def gg (p0:ph) (t35_6:Int):Option (Int⊕(Unit⊕Bool)) :=
 cond (decide (t35_6<(p0.2.2.2.2.length:Int)))
 ((at? p0.2.2.2.2 t35_6).bind λx38_6 =>
 (cond (decide (t35_6>=10))
 (some true)
 ((af x38_6.1).bind λt45_6 =>
 some (!t45_6))).bind λt47_6 =>
 (cond t47_6
 (some true)
 ((ai x38_6.2).bind λt51_6 =>
 some (!t51_6))).bind λt53_6 =>
 cond t53_6 (some (.inr (.inr false))) (some (.inl (oL (t35_6+1)))))
 (some (.inr (.inl ())))
def gh (p0:ph) (t35_7:Int):Option (Int⊕(Unit⊕Bool)) :=
 cond (decide (t35_7<(p0.2.2.2.2.length:Int)))
 ((at? p0.2.2.2.2 t35_7).bind λx38_7 =>
 (cond (decide (t35_7>=10))
 (some true)
 ((af x38_7.1).bind λt45_7 =>
 some (!t45_7))).bind λt47_7 =>
 (cond t47_7
 (some true)
 ((ai x38_7.2).bind λt51_7 =>
 some (!t51_7))).bind λt53_7 =>
 cond t53_7 (some (.inr (.inr false))) (some (.inl (oL (t35_7+1)))))
 (some (.inr (.inl ())))
def gi (p0:ph) (t35_8:Int):Option (Int⊕(Unit⊕Bool)) :=
 cond (decide (t35_8<(p0.2.2.2.2.length:Int)))
 ((at? p0.2.2.2.2 t35_8).bind λx38_8 =>
 (cond (decide (t35_8>=10))
 (some true)
 ((af x38_8.1).bind λt45_8 =>
 some (!t45_8))).bind λt47_8 =>
 (cond t47_8
 (some true)
 ((ai x38_8.2).bind λt51_8 =>
 some (!t51_8))).bind λt53_8 =>
 cond t53_8 (some (.inr (.inr false))) (some (.inl (oL (t35_8+1)))))
 (some (.inr (.inl ())))
def co (p0:ph):Option Bool :=
 cond (p0.1==160)
 (cond (p0.1==160)
 ((cond (p0.2.2.1 != 0) (some true) (some (p0.2.2.2.1 != 0))).bind λt18 =>
 cond t18
 (some false)
 ((loop (λz=>dt p0 z) 0).bind (Sum.elim (λd =>
 (ao p0.2.1).bind λt57 =>
 some t57) (λr=>some r))))
 (cond (p0.1==162)
 (cond (p0.1==162)
 ((aa p0.2.2.1 0 1000).bind λt24 =>
 (cond (!t24)
 (some true)
 ((aa p0.2.2.2.1 0 1000).bind λt29 =>
 some (!t29))).bind λt31 =>
 cond t31
 (some false)
 ((loop (λz=>fZ p0 z) 0).bind (Sum.elim (λd_1 =>
 (ao p0.2.1).bind λt57_1 =>
 some t57_1) (λr_1=>some r_1))))
 (some false))
 (cond (p0.1==165)
 ((aa p0.2.2.1 0 1000).bind λt24_1 =>
 (cond (!t24_1)
 (some true)
 ((aa p0.2.2.2.1 0 1000).bind λt29_1 =>
 some (!t29_1))).bind λt31_1 =>
 cond t31_1
 (some false)
 ((loop (λz=>ga p0 z) 0).bind (Sum.elim (λd_2 =>
 (ao p0.2.1).bind λt57_2 =>
 some t57_2) (λr_2=>some r_2))))
 (some false))))
 (cond (p0.1==161)
 (cond (p0.1==161)
 ((cond (p0.2.2.1 != 0) (some true) (some (p0.2.2.2.1 != 0))).bind λt18_1 =>
 cond t18_1
 (some false)
 ((loop (λz=>gb p0 z) 0).bind (Sum.elim (λd_3 =>
 (ao p0.2.1).bind λt57_3 =>
 some t57_3) (λr_3=>some r_3))))
 (cond (p0.1==162)
 (cond (p0.1==162)
 ((aa p0.2.2.1 0 1000).bind λt24_2 =>
 (cond (!t24_2)
 (some true)
 ((aa p0.2.2.2.1 0 1000).bind λt29_2 =>
 some (!t29_2))).bind λt31_2 =>
 cond t31_2
 (some false)
 ((loop (λz=>gd p0 z) 0).bind (Sum.elim (λd_4 =>
 (ao p0.2.1).bind λt57_4 =>
 some t57_4) (λr_4=>some r_4))))
 (some false))
 (cond (p0.1==165)
 ((aa p0.2.2.1 0 1000).bind λt24_3 =>
 (cond (!t24_3)
 (some true)
 ((aa p0.2.2.2.1 0 1000).bind λt29_3 =>
 some (!t29_3))).bind λt31_3 =>
 cond t31_3
 (some false)
 ((loop (λz=>ge p0 z) 0).bind (Sum.elim (λd_5 =>
 (ao p0.2.1).bind λt57_5 =>
 some t57_5) (λr_5=>some r_5))))
 (some false))))
 (cond (p0.1==163)
 ((cond (p0.2.2.1 != 0) (some true) (some (p0.2.2.2.1 != 0))).bind λt18_2 =>
 cond t18_2
 (some false)
 ((loop (λz=>gg p0 z) 0).bind (Sum.elim (λd_6 =>
 (ao p0.2.1).bind λt57_6 =>
 some t57_6) (λr_6=>some r_6))))
 (cond (p0.1==162)
 (cond (p0.1==162)
 ((aa p0.2.2.1 0 1000).bind λt24_4 =>
 (cond (!t24_4)
 (some true)
 ((aa p0.2.2.2.1 0 1000).bind λt29_4 =>
 some (!t29_4))).bind λt31_4 =>
 cond t31_4
 (some false)
 ((loop (λz=>gh p0 z) 0).bind (Sum.elim (λd_7 =>
 (ao p0.2.1).bind λt57_7 =>
 some t57_7) (λr_7=>some r_7))))
 (some false))
 (cond (p0.1==165)
 ((aa p0.2.2.1 0 1000).bind λt24_5 =>
 (cond (!t24_5)
 (some true)
 ((aa p0.2.2.2.1 0 1000).bind λt29_5 =>
 some (!t29_5))).bind λt31_5 =>
 cond t31_5
 (some false)
 ((loop (λz=>gi p0 z) 0).bind (Sum.elim (λd_8 =>
 (ao p0.2.1).bind λt57_8 =>
 some t57_8) (λr_8=>some r_8))))
 (some false)))))
def gj:FL:=(17,⟨[.val true qx false],[.val false pL (some true)],λa=>co a⟩)::fY
theorem l7:Gd gj:=oX l6 17 Tryz.f17 [(1,⟨⟨(35,false,[dI])::us 43 4 (us 49 4 []),[]⟩,
 ⟨[],[]⟩,some ⟨[(2,false,[dB])],[]⟩⟩)] Tryz.func17
def bg (tag0:Int) (body1:List Int):Option ((List Int)×Bool) :=
 (aa tag0 0 255).bind λt8 =>
 (cond (!t8) (some true) (some (decide ((body1.length:Int)>250)))).bind λt14 =>
 cond t14
 (some ([],false))
 (cond (decide ((body1.length:Int)>=128))
 ((pw [IntKind.u8.wrap (tag0)] ([129]:List Int)).bind λzs23 =>
 (pw zs23 [IntKind.u8.wrap ((body1.length:Int))]).bind λzs29 =>
 (pw zs29 body1).bind λzs31 =>
 some (zs31,true))
 ((pw [IntKind.u8.wrap (tag0)] [IntKind.u8.wrap ((body1.length:Int))]).bind λzs29_1 =>
 (pw zs29_1 body1).bind λzs31_1 =>
 some (zs31_1,true)))
def gk:FL:=(182,⟨[.val false oR false,.val false sf false],[.val false sf (some true),.val false pL (some true)],λa=>bg a.1 a.2⟩)::gj
theorem l8:Gd gk:=oX l7 182 Tryz.f182 [] Tryz.func182
def cp (b0:List Int):Option (List Int) :=
 (pw [] b0).bind λzs4 =>
 some zs4
def gl:FL:=(131,⟨[.val false sf false],[.val false sf (some true)],λa=>cp a⟩)::gk
theorem l9:Gd gl:=oX l8 131 Tryz.f131 [] Tryz.func131
def aF (b0:List Int) (tag1:Int) (body2:List Int):Option (List Int) :=
 (bg tag1 body2).bind λt12 =>
 (cp b0).bind λt16 =>
 (pw t16 t12.1).bind λzs18 =>
 some zs18
def gm:FL:=(184,⟨[.val false sf false,.val false oR false,.val false sf false],[.val false sf (some true)],λa=>aF a.1 a.2.1 a.2.2⟩)::gl
theorem la:Gd gm:=oX l9 184 Tryz.f184 [] Tryz.func184
def aU (x14:Int) (k6:Int):Option (Int⊕Int) :=
 (shr .i64 x14 (oL (7*k6))).bind λt19 =>
 cond (decide (t19>127)) (some (.inl (oL (k6+1)))) (some (.inr k6))
def bh (x14:Int) (k6_2:Int) (out3_1:List Int):Option ((Int×List Int)⊕(List Int)) :=
 cond (decide (k6_2>0))
 ((shr .i64 x14 (oL (7*k6_2))).bind λt31 =>
 (pw out3_1 [IntKind.u8.wrap (oL ((tO .i64 t31 127)+128))]).bind λzs36 =>
 some (.inl (oL (k6_2-1),zs36)))
 (some (.inr out3_1))
def bJ (o0:List Int) (t12:Int) (out3:List Int):Option ((Int×List Int)⊕(List Int)) :=
 cond (decide (t12<(o0.length:Int)))
 ((at? o0 t12).bind λx14 =>
 (loop (λz=>aU x14 z) 0).bind λd =>
 (loop (λz=>bh x14 z.1 z.2) (d,out3)).bind λd_1 =>
 (pw d_1 [IntKind.u8.wrap (tO .i64 x14 127)]).bind λzs42 =>
 some (.inl (oL (t12+1),zs42)))
 (some (.inr out3))
def bK (o0:List Int):Option (List Int) :=
 (af o0).bind λt8 =>
 cond (!t8)
 (some [])
 ((loop (λz=>bJ o0 z.1 z.2) (0,[])).bind λd_2 =>
 some d_2)
def gn:FL:=(185,⟨[.val false qu false],[.val false sf (some true)],λa=>bK a⟩)::gm
theorem lb:Gd gn:=oX la 185 Tryz.f185 [(0,⟨⟨[(3,false,[.own 1000000000]),(12,false,[dI])],[(1000000000,.root (.one (.int .u8)) true)]⟩,
 ⟨[(3,false,[.own 1000000300])],[(1000000300,.root (.one (.int .u8)) true)]⟩,none⟩),
 (2,⟨⟨[(6,false,[dI])],[]⟩,
 ⟨[(6,false,[dI])],[]⟩,none⟩),
 (4,⟨⟨[(3,false,[.own 1000004000]),(6,false,[dI])],[(1000004000,.root (.one (.int .u8)) true)]⟩,
 ⟨[(3,false,[.own 1000004300])],[(1000004300,.root (.one (.int .u8)) true)]⟩,none⟩)] Tryz.func185
def av (n0_1:Int) (k3:Int):Option (Int⊕Int) :=
 (cond (decide (k3<4))
 ((shl .i64 (-1) (oL ((oL (8*k3))-1))).bind λt16 =>
 (shl .i64 1 (oL ((oL (8*k3))-1))).bind λt20 =>
 (aa n0_1 t16 (oL (t20-1))).bind λt22 =>
 some (!t22))
 (some false)).bind λt24 =>
 cond t24 (some (.inl (oL (k3+1)))) (some (.inr k3))
def ap (n0_1:Int) (i5:Int) (out4:List Int):Option ((Int×List Int)⊕(List Int)) :=
 cond (decide (i5>=0))
 ((shr .i64 n0_1 (oL (8*i5))).bind λt37 =>
 (pw out4 [IntKind.u8.wrap (t37)]).bind λzs40 =>
 some (.inl (oL (i5-1),zs40)))
 (some (.inr out4))
def cq (n0:Int):Option (List Int) :=
 let n0_1:=max2 (-2147483648) (min2 n0 2147483647)
 (loop (λz=>av n0_1 z) 1).bind λd =>
 (loop (λz=>ap n0_1 z.1 z.2) (oL (d-1),[])).bind λd_1 =>
 some d_1
def gp:FL:=(293,⟨[.val false oR false],[.val false sf (some true)],λa=>cq a⟩)::gn
theorem lc:Gd gp:=oX lb 293 Tryz.f293 [(0,⟨⟨(3,false,[dI])::us 12 12 [],[]⟩,
 ⟨[(3,false,[dI])],[]⟩,none⟩),
 (2,⟨⟨[(4,false,[.own 1000002000]),(5,false,[dI])],[(1000002000,.root (.one (.int .u8)) true)]⟩,
 ⟨[(4,false,[.own 1000002300])],[(1000002300,.root (.one (.int .u8)) true)]⟩,none⟩)] Tryz.func293
def du (b0:List Int) (v1:rk):Option (List Int) :=
 (ai v1).bind λt7 =>
 cond (!t7)
 ((cp b0).bind λt10 =>
 some t10)
 (cond (v1.1==2)
 ((cq v1.2.1).bind λt17 =>
 (aF b0 v1.1 t17).bind λt32 =>
 some t32)
 (cond (v1.1==4)
 ((aF b0 v1.1 (tv v1.2.2.1)).bind λt32_1 =>
 some t32_1)
 (cond (v1.1==6)
 ((bK v1.2.2.2).bind λt27 =>
 (aF b0 v1.1 t27).bind λt32_2 =>
 some t32_2)
 ((aF b0 v1.1 []).bind λt32_3 =>
 some t32_3))))
def gq:FL:=(183,⟨[.val false sf false,.val true sv false],[.val false sf (some true)],λa=>du a.1 a.2⟩)::gp
theorem ld:Gd gq:=oX lc 183 Tryz.f183 [] Tryz.func183
def bL (out0:List Int) (tag1:Int) (n2:Int):Option (List Int) :=
 (cq n2).bind λt10 =>
 (aF out0 tag1 t10).bind λt11 =>
 some t11
def gt:FL:=(186,⟨[.val false sf false,.val false oR false,.val false oR false],[.val false sf (some true)],λa=>bL a.1 a.2.1 a.2.2⟩)::gq
theorem lf:Gd gt:=oX ld 186 Tryz.f186 [] Tryz.func186
def bM (p0:ph) (t18:Int) (t3:List Int):Option ((Int×List Int)⊕((List Int)⊕(List Int))) :=
 cond (decide (t18<(p0.2.2.2.2.length:Int)))
 ((at? p0.2.2.2.2 t18).bind λx20 =>
 (bK x20.1).bind λt25 =>
 (aF [] 6 t25).bind λt26 =>
 (du t26 x20.2).bind λt29 =>
 (bg 48 t29).bind λt30 =>
 cond (!t30.2)
 (some (.inr (.inr [])))
 ((pw t3 t30.1).bind λzs37 =>
 some (.inl (oL (t18+1),zs37))))
 (some (.inr (.inl t3)))
def dv (p0:ph):Option (List Int) :=
 (co p0).bind λt13 =>
 cond (!t13)
 (some [])
 ((loop (λz=>bM p0 z.1 z.2) (0,[])).bind (Sum.elim (λd =>
 (bg 48 d).bind λt41 =>
 cond (!t41.2)
 (some [])
 ((bL [] 2 p0.2.1).bind λt51 =>
 (bL t51 2 p0.2.2.1).bind λt54 =>
 (bL t54 2 p0.2.2.2.1).bind λt57 =>
 (pw t57 t41.1).bind λzs59 =>
 (bg p0.1 zs59).bind λt60 =>
 cond (!t60.2) (some []) (some t60.1))) (λr=>some r)))
def gu:FL:=(94,⟨[.val true qx false],[.val false sf (some true)],λa=>dv a⟩)::gt
theorem lg:Gd gu:=oX lf 94 Tryz.f94 [(0,⟨⟨[(3,false,[.own 1000000000]),(18,false,[dI])],[(1000000000,.root (.one (.int .u8)) true)]⟩,
 ⟨[(3,false,[.own 1000000300])],[(1000000300,.root (.one (.int .u8)) true)]⟩,some ⟨[(2,false,[.own 1000000600])],[(1000000600,.root (.one (.int .u8)) true)]⟩⟩)] Tryz.func94
def aA (p0:ph):Option Bool :=
 (dv p0).bind λt4 =>
 (aa (t4.length:Int) 1 120).bind λt6 =>
 some t6
def gv:FL:=(18,⟨[.val true qx false],[.val false pL (some true)],λa=>aA a⟩)::gu
theorem lh:Gd gv:=oX lg 18 Tryz.f18 [] Tryz.func18
def aV (n0:Int):Option Bool :=
 (aa n0 0 1000000).bind λt4 =>
 some t4
def gw:FL:=(134,⟨[.val false oR false],[.val false pL (some true)],λa=>aV a⟩)::gv
theorem li:Gd gw:=oX lh 134 Tryz.f134 [] Tryz.func134
def bj (v0:u4):Option Bool :=
 (aa v0.1 1 99).bind λt5 =>
 (cond t5
 ((aa v0.2.1 0 100000).bind λt9 =>
 some t9)
 (some false)).bind λt10 =>
 (cond t10
 ((aa v0.2.2.1 0 10).bind λt14 =>
 some t14)
 (some false)).bind λt15 =>
 (cond t15
 ((aa v0.2.2.2.1 1 99).bind λt19 =>
 some t19)
 (some false)).bind λt20 =>
 (cond t20
 ((aa v0.2.2.2.2 0 7).bind λt24 =>
 some t24)
 (some false)).bind λt25 =>
 some t25
def gx:FL:=(275,⟨[.val true sN false],[.val false pL (some true)],λa=>bj a⟩)::gw
theorem lj:Gd gx:=oX li 275 Tryz.f275 [] Tryz.func275
def cr (p0:Pt):Option Bool :=
 (aa p0.2.1 1 1000).bind λt5 =>
 (cond (!t5)
 (some true)
 ((cond p0.2.2.1 (some (!p0.1)) (some false)).bind λt14 =>
 some t14)).bind λt15 =>
 cond t15
 (some false)
 (cond p0.2.2.1
 ((bj p0.2.2.2).bind λt20 =>
 some t20)
 (let t2:=p0.2.2.2.1==0&&(p0.2.2.2.2.1==0&&(p0.2.2.2.2.2.1==0&&(p0.2.2.2.2.2.2.1==0&&(p0.2.2.2.2.2.2.2==0))))
 some t2))
def gy:FL:=(168,⟨[.val true qj false],[.val false pL (some true)],λa=>cr a⟩)::gx
theorem lk:Gd gy:=oX lj 168 Tryz.f168 [] Tryz.func168
def bN (e0:oT):Option Bool :=
 (aa e0.1 1 99).bind λt5 =>
 (cond t5
 ((aa e0.2.1 1 9999).bind λt9 =>
 some t9)
 (some false)).bind λt10 =>
 (cond t10
 ((aa e0.2.2.1 0 7).bind λt14 =>
 some t14)
 (some false)).bind λt15 =>
 (cond t15
 ((aa e0.2.2.2.1 0 4).bind λt19 =>
 some t19)
 (some false)).bind λt20 =>
 (cond t20
 ((cond (!e0.2.2.2.2) (some true) (some (e0.2.2.2.1==0))).bind λt29 =>
 some t29)
 (some false)).bind λt30 =>
 some t30
def gz:FL:=(276,⟨[.val true pd false],[.val false pL (some true)],λa=>bN a⟩)::gy
theorem ll:Gd gz:=oX lk 276 Tryz.f276 [] Tryz.func276
def ct (e0:oT) (tag1:Int) (mac2:Int):Option Bool :=
 (cond (decide (e0.1>tag1))
 (some true)
 ((cond (e0.1==tag1) (some (decide (e0.2.1>mac2))) (some false)).bind λt21 =>
 some t21)).bind λt22 =>
 some t22
def gA:FL:=(277,⟨[.val true pd false,.val false oR false,.val false oR false],[.val false pL (some true)],λa=>ct a.1 a.2.1 a.2.2⟩)::gz
theorem lm:Gd gA:=oX ll 277 Tryz.f277 [] Tryz.func277
def f5 (l0:List oT) (t7:Int):Option (Int⊕(Unit⊕Bool)) :=
 cond (decide (t7<(l0.length:Int)))
 ((at? l0 t7).bind λx10 =>
 (bN x10).bind λt13 =>
 (cond (!t13)
 (some true)
 ((cond (decide (t7>0))
 ((at? l0 (oL (t7-1))).bind λx23 =>
 (at? l0 (oL (t7-1))).bind λx29 =>
 (ct x10 x23.1 x29.2.1).bind λt32 =>
 some (!t32))
 (some false)).bind λt34 =>
 some t34)).bind λt35 =>
 cond t35 (some (.inr (.inr false))) (some (.inl (oL (t7+1)))))
 (some (.inr (.inl ())))
def dw (l0:List oT):Option Bool :=
 (loop (λz=>f5 l0 z) 0).bind (Sum.elim (λd =>
 let t2:=decide ((l0.length:Int)<=12)
 some t2) (λr=>some r))
def gB:FL:=(169,⟨[.val false (.one (.sl pd)) false],[.val false pL (some true)],λa=>dw a⟩)::gA
theorem ln:Gd gB:=oX lm 169 Tryz.f169 [(0,⟨⟨(7,false,[dI])::us 16 19 [],[]⟩,
 ⟨[],[]⟩,some ⟨[(2,false,[dB])],[]⟩⟩)] Tryz.func169
def cu (ports0:Int):Option Int :=
 (shl .i64 1 ports0).bind λt4 =>
 some (oL (t4-1))
def gC:FL:=(278,⟨[.val false oR false],[.val false oR (some true)],λa=>cu a⟩)::gB
theorem lp:Gd gC:=oX ln 278 Tryz.f278 [] Tryz.func278
def aG (v0:pU) (id1:Int) (t10:Int):Option (Int⊕(Unit⊕Int)) :=
 cond (decide (t10<(v0.1.length:Int)))
 ((at? v0.1 t10).bind λx13 =>
 cond (x13.1==id1) (some (.inr (.inr t10))) (some (.inl (oL (t10+1)))))
 (some (.inr (.inl ())))
def aj (v0:pU) (id1:Int):Option Int :=
 (loop (λz=>aG v0 id1 z) 0).bind (Sum.elim (λd =>
 some (-1)) (λr=>some r))
def gD:FL:=(279,⟨[.val true qO false,.val false oR false],[.val false oR (some true)],λa=>aj a.1 a.2⟩)::gC
theorem lq:Gd gD:=oX lp 279 Tryz.f279 [(0,⟨⟨[(10,false,[dI])],[]⟩,
 ⟨[],[]⟩,some ⟨[(4,false,[dI])],[]⟩⟩)] Tryz.func279
def f6 (p0:pU) (i1:Int) (t28:Int):Option (Int⊕(Unit⊕Bool)) :=
 cond (decide (t28<(p0.1.length:Int)))
 ((at? p0.1 t28).bind λx31 =>
 (aa x31.1 1 99).bind λt35 =>
 (cond (!t35)
 (some true)
 ((cond (decide (t28>0))
 ((at? p0.1 (oL (t28-1))).bind λx45 =>
 some (decide (x45.1>=x31.1)))
 (some false)).bind λt51 =>
 some t51)).bind λt52 =>
 (cond t52
 (some true)
 ((cu i1).bind λt57 =>
 (aa x31.2.1 0 t57).bind λt58 =>
 some (!t58))).bind λt60 =>
 (cond t60 (some true) (some ((zl .i64 x31.2.2 x31.2.1) != 0))).bind λt68 =>
 cond t68 (some (.inr (.inr false))) (some (.inl (oL (t28+1)))))
 (some (.inr (.inl ())))
def dx (p0:pU) (t73:Int):Option (Int⊕(Unit⊕Bool)) :=
 cond (decide (t73<(p0.2.length:Int)))
 ((at? p0.2 t73).bind λx75 =>
 (aj p0 x75).bind λt79 =>
 cond (decide (t79<0)) (some (.inr (.inr false))) (some (.inl (oL (t73+1)))))
 (some (.inr (.inl ())))
def bO (p0:pU) (i1:Int):Option Bool :=
 (aa i1 1 6).bind λt10 =>
 (cond (!t10) (some true) (some ((p0.2.length:Int) != i1))).bind λt18 =>
 (cond t18 (some true) (some (decide ((p0.1.length:Int)>6)))).bind λt24 =>
 cond t24
 (some false)
 ((loop (λz=>f6 p0 i1 z) 0).bind (Sum.elim (λd =>
 (loop (λz=>dx p0 z) 0).bind (Sum.elim (λd_1 =>
 some true) (λr=>some r))) (λr_1=>some r_1)))
def gE:FL:=(170,⟨[.val true qO false,.val false oR false],[.val false pL (some true)],λa=>bO a.1 a.2⟩)::gD
theorem lr:Gd gE:=oX lq 170 Tryz.f170 [(0,⟨⟨(28,false,[dI])::us 38 14 (us 54 6 (us 62 6 [])),[]⟩,
 ⟨[],[]⟩,some ⟨[(4,false,[dB])],[]⟩⟩),
 (2,⟨⟨[(73,false,[dI])],[]⟩,
 ⟨[],[]⟩,some ⟨[(4,false,[dB])],[]⟩⟩)] Tryz.func170
def f7 (p0:oI) (t8:Int):Option (Int⊕(Unit⊕Bool)) :=
 cond (decide (t8<(p0.2.2.1.length:Int)))
 ((at? p0.2.2.1 t8).bind λx10 =>
 (cr x10).bind λt13 =>
 cond (!t13) (some (.inr (.inr false))) (some (.inl (oL (t8+1)))))
 (some (.inr (.inl ())))
def bP (p0:oI):Option Bool :=
 (loop (λz=>f7 p0 z) 0).bind (Sum.elim (λd =>
 (aa p0.1 1 99).bind λt18 =>
 (cond (!t18) (some true) (some (decide ((p0.2.1.length:Int)>10)))).bind λt25 =>
 (cond t25
 (some true)
 ((aa (p0.2.2.1.length:Int) 1 6).bind λt30 =>
 some (!t30))).bind λt32 =>
 (cond t32
 (some true)
 ((dw p0.2.2.2.1).bind λt36 =>
 some (!t36))).bind λt38 =>
 (cond t38
 (some true)
 ((bO (p0.2.2.2.2.1,p0.2.2.2.2.2.1) (p0.2.2.1.length:Int)).bind λt45 =>
 some (!t45))).bind λt47 =>
 cond t47
 (some false)
 ((aV p0.2.2.2.2.2.2.1).bind λt50 =>
 (cond t50
 ((aV p0.2.2.2.2.2.2.2.1).bind λt54 =>
 some t54)
 (some false)).bind λt55 =>
 (cond t55
 ((aV p0.2.2.2.2.2.2.2.2.1).bind λt59 =>
 some t59)
 (some false)).bind λt60 =>
 (cond t60
 ((aV p0.2.2.2.2.2.2.2.2.2.1).bind λt64 =>
 some t64)
 (some false)).bind λt65 =>
 (cond t65
 ((aV p0.2.2.2.2.2.2.2.2.2.2).bind λt69 =>
 some t69)
 (some false)).bind λt70 =>
 some t70)) (λr=>some r))
def gF:FL:=(77,⟨[.val true p4 false],[.val false pL (some true)],λa=>bP a⟩)::gE
theorem lu:Gd gF:=oX lr 77 Tryz.f77 [(0,⟨⟨[(8,false,[dI])],[]⟩,
 ⟨[],[]⟩,some ⟨[(2,false,[dB])],[]⟩⟩)] Tryz.func77
def ar (v0:rk) (name1:List Int):Option oK :=
 (pw ([1,3,1]:List Int) name1).bind λzs7 =>
 some (zs7,v0.1,v0.2.1,v0.2.2.1,v0.2.2.2)
def gG:FL:=(187,⟨[.val true sv true,.val false qu false],[.val true oV (some true)],λa=>ar a.1 a.2⟩)::gF
theorem lv:Gd gG:=oX lu 187 Tryz.f187 [] Tryz.func187
def aB (n0:Int):Option rk :=
 some (2,n0,[],[])
def gH:FL:=(188,⟨[.val false oR false],[.val true sv (some true)],λa=>aB a⟩)::gG
theorem lw:Gd gH:=oX lv 188 Tryz.f188 [] Tryz.func188
def cw (is0:Bool):Option Int :=
 cond is0 (some 1) (some 0)
def gI:FL:=(294,⟨[.val false pL false],[.val false oR (some true)],λa=>cw a⟩)::gH
theorem lz:Gd gI:=oX lw 294 Tryz.f294 [] Tryz.func294
def bQ (a0:u4) (b1:u4):Option Bool :=
 cond (a0.1 != b1.1)
 (some (decide (a0.1<b1.1)))
 (cond (a0.2.1 != b1.2.1)
 (some (decide (a0.2.1<b1.2.1)))
 (cond (a0.2.2.2.1 != b1.2.2.2.1)
 (let t4:=decide (a0.2.2.2.1<b1.2.2.2.1)
 some t4)
 (let t4_1:=decide (a0.2.2.2.2<b1.2.2.2.2)
 some t4_1)))
def gJ:FL:=(345,⟨[.val true sN false,.val true sN false],[.val false pL (some true)],λa=>bQ a.1 a.2⟩)::gI
theorem lA:Gd gJ:=oX lz 345 Tryz.f345 [] Tryz.func345
def cz (v0:u4) (cost1:Int):Option (u4×Bool) :=
 (bj v0).bind λt8 =>
 (cond (!t8)
 (some true)
 ((aa cost1 1 1000).bind λt12 =>
 some (!t12))).bind λt14 =>
 cond t14
 (some (v0,false))
 ((bj (v0.1,oL (v0.2.1+cost1),oL (v0.2.2.1+1),v0.2.2.2.1,v0.2.2.2.2)).bind λt27 =>
 cond (!t27)
 (some (v0,false))
 (some ((v0.1,oL (v0.2.1+cost1),oL (v0.2.2.1+1),v0.2.2.2.1,v0.2.2.2.2),true)))
def gK:FL:=(364,⟨[.val true sN false,.val false oR false],[.val true sN (some true),.val false pL (some true)],λa=>cz a.1 a.2⟩)::gJ
theorem lB:Gd gK:=oX lA 364 Tryz.f364 [] Tryz.func364
def bR (p0:Int) (i1:List Pt) (t7:Int) (t18:Int) (b0:Int) (b1:Int) (b2:Int) (b3:Int) (b4:Int) (b0_1:Int) (b1_1:Int) (b2_1:Int) (b3_1:Int) (b4_1:Int):Option ((Int×Int×Int×Int×Int×Int×Int×Int×Int×Int×Int×Int)⊕(Int×Int×Int×Int×Int×Int×Int×Int×Int×Int×Int)) :=
 cond (decide (t18<(i1.length:Int)))
 ((at? i1 t18).bind λx21 =>
 (cond (!x21.1) (some true) (some (!x21.2.2.1))).bind λt30 =>
 cond t30
 (some (.inl (t7,oL (t18+1),b0,b1,b2,b3,b4,b0_1,b1_1,b2_1,b3_1,b4_1)))
 ((cz x21.2.2.2 x21.2.1).bind λt36 =>
 (cond t36.2 (some (decide (t36.1.1<p0))) (some false)).bind λt45 =>
 (cond t45
 ((cond (decide (t7<0))
 (some true)
 ((bQ t36.1 (b0_1,b1_1,b2_1,b3_1,b4_1)).bind λt52 =>
 some t52)).bind λt53 =>
 some t53)
 (some false)).bind λt54 =>
 cond t54
 (some (.inl (t18,oL (t18+1),t36.1.1,t36.1.2.1,t36.1.2.2.1,p0,0,t36.1.1,t36.1.2.1,t36.1.2.2.1,t36.1.2.2.2.1,t36.1.2.2.2.2)))
 (some (.inl (t7,oL (t18+1),b0,b1,b2,b3,b4,b0_1,b1_1,b2_1,b3_1,b4_1)))))
 (some (.inr (t7,b0,b1,b2,b3,b4,b0_1,b1_1,b2_1,b3_1,b4_1)))
def aM (p0:Int) (i1:List Pt):Option (u4×Int) :=
 (loop (λz=>bR p0 i1 z.1 z.2.1 z.2.2.1 z.2.2.2.1 z.2.2.2.2.1 z.2.2.2.2.2.1 z.2.2.2.2.2.2.1 z.2.2.2.2.2.2.2.1 z.2.2.2.2.2.2.2.2.1 z.2.2.2.2.2.2.2.2.2.1 z.2.2.2.2.2.2.2.2.2.2.1 z.2.2.2.2.2.2.2.2.2.2.2) ((-1),0,p0,0,0,p0,0,0,0,0,0,0)).bind λd =>
 some ((d.2.1,d.2.2.1,d.2.2.2.1,d.2.2.2.2.1,d.2.2.2.2.2.1),d.1)
def gL:FL:=(344,⟨[.val false oR false,.val false (.one (.sl qj)) false],[.val true sN (some true),.val false oR (some true)],λa=>aM a.1 a.2⟩)::gK
theorem lC:Gd gL:=oX lB 344 Tryz.f344 [(0,⟨⟨(7,false,[dI])::(18,false,[dI])::us 27 3 (us 41 4 (us 47 7 [])),[(266240,.box [dI,dI,dI,dI,dI]),(525312,.box [dI,dI,dI,dI,dI])]⟩,
 ⟨[(7,false,[dI])],[(266240,.box [dI,dI,dI,dI,dI]),(525312,.box [dI,dI,dI,dI,dI])]⟩,none⟩)] Tryz.func344
def cA (id0:Int) (l1:List Pt) (port2:Int):Option u4 :=
 (aM id0 l1).bind λt12 =>
 some (t12.1.1,t12.1.2.1,t12.1.2.2.1,t12.1.2.2.2.1,port2)
def gM:FL:=(346,⟨[.val false oR false,.val false (.one (.sl qj)) false,.val false oR false],[.val true sN (some true)],λa=>cA a.1 a.2.1 a.2.2⟩)::gL
theorem lD:Gd gM:=oX lC 346 Tryz.f346 [] Tryz.func346
def aw (id0:Int) (l1:List Pt) (port2:Int):Option Int :=
 (aa port2 0 (oL ((l1.length:Int)-1))).bind λt13 =>
 (cond (!t13)
 (some true)
 ((at? l1 port2).bind λx18 =>
 some (!x18.1))).bind λt22 =>
 cond t22
 (some 4)
 ((aM id0 l1).bind λt26 =>
 cond (t26.2==port2)
 (some 1)
 ((at? l1 port2).bind λx36 =>
 (cond (!x36.2.2.1)
 (some true)
 ((cA id0 l1 port2).bind λt44 =>
 (at? l1 port2).bind λx47 =>
 (bQ t44 x47.2.2.2).bind λt50 =>
 some t50)).bind λt51 =>
 cond t51 (some 2) (some 3)))
def gN:FL:=(295,⟨[.val false oR false,.val false (.one (.sl qj)) false,.val false oR false],[.val false oR (some true)],λa=>aw a.1 a.2.1 a.2.2⟩)::gM
theorem lE:Gd gN:=oX lD 295 Tryz.f295 [] Tryz.func295
def aW (b0:oI) (c1:Int) (p2:Int):Option Int :=
 cond (c1==1)
 ((at? b0.2.2.1 p2).bind λx13 =>
 (cw x13.1).bind λt16 =>
 some t16)
 (cond (c1==2)
 ((at? b0.2.2.1 p2).bind λx22 =>
 some x22.2.1)
 (cond (c1==3)
 ((aw b0.1 b0.2.2.1 p2).bind λt32 =>
 some t32)
 ((at? b0.2.2.2.2.2.1 p2).bind λx37 =>
 some x37)))
def gO:FL:=(189,⟨[.val true p4 false,.val false oR false,.val false oR false],[.val false oR (some true)],λa=>aW a.1 a.2.1 a.2.2⟩)::gN
theorem lF:Gd gO:=oX lE 189 Tryz.f189 [] Tryz.func189
def gP (p0:oI) (t32:Int) (t3:List oK):Option ((Int×List oK)⊕(List oK)) :=
 cond (decide (t32<([p0.2.2.2.2.2.2.1,p0.2.2.2.2.2.2.2.1,p0.2.2.2.2.2.2.2.2.1,p0.2.2.2.2.2.2.2.2.2.1].length:Int)))
 ((ix [p0.2.2.2.2.2.2.1,p0.2.2.2.2.2.2.2.1,p0.2.2.2.2.2.2.2.2.1,p0.2.2.2.2.2.2.2.2.2.1].length t32).bind λj35 =>
 ([p0.2.2.2.2.2.2.1,p0.2.2.2.2.2.2.2.1,p0.2.2.2.2.2.2.2.2.1,p0.2.2.2.2.2.2.2.2.2.1][j35]?).bind λx36 =>
 (aB x36).bind λt39 =>
 (ar t39 [1,oL (t32+2)]).bind λt43 =>
 (pw t3 [t43]).bind λzs45 =>
 some (.inl (oL (t32+1),zs45)))
 (some (.inr t3))
def aN (p0:oI) (t6:Int) (t54:Int) (t3_3:List oK):Option ((Int×List oK)⊕(List oK)) :=
 cond (decide (t54<(p0.2.2.1.length:Int)))
 ((aW p0 t6 t54).bind λt61 =>
 (aB t61).bind λt62 =>
 (ar t62 [2,t6,oL (t54+1)]).bind λt67 =>
 (pw t3_3 [t67]).bind λzs69 =>
 some (.inl (oL (t54+1),zs69)))
 (some (.inr t3_3))
def aX (p0:oI) (t6:Int) (t3_2:List oK):Option ((Int×List oK)⊕(List oK)) :=
 cond (decide (t6<=4))
 ((loop (λz=>aN p0 t6 z.1 z.2) (0,t3_2)).bind λd_1 =>
 some (.inl (oL (t6+1),d_1)))
 (some (.inr t3_2))
def aO (p0:oI) (t8:Int) (t79:Int) (t3_7:List oK):Option ((Int×List oK)⊕(List oK)) :=
 cond (decide (t79<(p0.2.2.2.2.1.length:Int)))
 ((at? p0.2.2.2.2.1 t79).bind λx81 =>
 (ix [1,x81.2.1,x81.2.2].length (oL (t8-1))).bind λj91 =>
 ([1,x81.2.1,x81.2.2][j91]?).bind λx92 =>
 (aB x92).bind λt93 =>
 (ar t93 [3,t8,x81.1]).bind λt98 =>
 (pw t3_7 [t98]).bind λzs100 =>
 some (.inl (oL (t79+1),zs100)))
 (some (.inr t3_7))
def aY (p0:oI) (t8:Int) (t3_6:List oK):Option ((Int×List oK)⊕(List oK)) :=
 cond (decide (t8<=3))
 ((loop (λz=>aO p0 t8 z.1 z.2) (0,t3_6)).bind λd_3 =>
 some (.inl (oL (t8+1),d_3)))
 (some (.inr t3_6))
def aH (p0:oI) (t105:Int) (t3_10:List oK):Option ((Int×List oK)⊕(List oK)) :=
 cond (decide (t105<(p0.2.2.2.1.length:Int)))
 ((at? p0.2.2.2.1 t105).bind λx107 =>
 (aB (oL (x107.2.2.1+1))).bind λt113 =>
 (ar t113 [4,1,x107.1,x107.2.1]).bind λt119 =>
 (pw t3_10 [t119]).bind λzs121 =>
 some (.inl (oL (t105+1),zs121)))
 (some (.inr t3_10))
def aP (p0:oI):Option (List oK) :=
 (bP p0).bind λt14 =>
 cond (!t14)
 (some [])
 ((ar (4,0,p0.2.1,[]) ([1,1]:List Int)).bind λt20 =>
 (loop (λz=>gP p0 z.1 z.2) (0,[t20])).bind λd =>
 (loop (λz=>aX p0 z.1 z.2) (1,d)).bind λd_2 =>
 (loop (λz=>aY p0 z.1 z.2) (1,d_2)).bind λd_4 =>
 (loop (λz=>aH p0 z.1 z.2) (0,d_4)).bind λd_5 =>
 some d_5)
def gQ:FL:=(95,⟨[.val true p4 false],[.val false (.one (.sl oV)) (some true)],λa=>aP a⟩)::gO
theorem lG:Gd gQ:=oX lF 95 Tryz.f95 [(0,⟨⟨[(3,false,[.own 1000000000]),(32,false,[dI])],[(1000000000,.root oV true)]⟩,
 ⟨[(3,false,[.own 1000000300])],[(1000000300,.root oV true)]⟩,none⟩),
 (2,⟨⟨[(3,false,[.own 1000002000]),(6,false,[dI])],[(1000002000,.root oV true)]⟩,
 ⟨[(3,false,[.own 1000002300])],[(1000002300,.root oV true)]⟩,none⟩),
 (4,⟨⟨[(3,false,[.own 1000004000]),(54,false,[dI])],[(1000004000,.root oV true)]⟩,
 ⟨[(3,false,[.own 1000004300])],[(1000004300,.root oV true)]⟩,none⟩),
 (6,⟨⟨[(3,false,[.own 1000006000]),(8,false,[dI])],[(1000006000,.root oV true)]⟩,
 ⟨[(3,false,[.own 1000006300])],[(1000006300,.root oV true)]⟩,none⟩),
 (8,⟨⟨[(3,false,[.own 1000008000]),(79,false,[dI])],[(1000008000,.root oV true)]⟩,
 ⟨[(3,false,[.own 1000008300])],[(1000008300,.root oV true)]⟩,none⟩),
 (10,⟨⟨[(3,false,[.own 1000010000]),(105,false,[dI])],[(1000010000,.root oV true)]⟩,
 ⟨[(3,false,[.own 1000010300])],[(1000010300,.root oV true)]⟩,none⟩)] Tryz.func95
def aI (o1:List Int) (t8:List oK) (t10:Int) (b0_1:Int) (b1:Int) (b2:List UInt8) (b3:List Int):Option ((Int×Int×Int×List UInt8×List Int)⊕((Int×Int×List UInt8×List Int)⊕(Int×Int×List UInt8×List Int))) :=
 cond (decide (t10<(t8.length:Int)))
 ((ix t8.length t10).bind λj12 =>
 (t8[j12]?).bind λx13 =>
 (aq x13.1 o1).bind λt17 =>
 cond t17
 (some (.inr (.inr x13.2)))
 (some (.inl (oL (t10+1),b0_1,b1,b2,b3))))
 (some (.inr (.inl (b0_1,b1,b2,b3))))
def aZ (b0:oI) (o1:List Int):Option rk :=
 (aP b0).bind λt8 =>
 (loop (λz=>aI o1 t8 z.1 z.2.1 z.2.2.1 z.2.2.2.1 z.2.2.2.2) (0,0,0,[],[])).bind (Sum.elim (λd =>
 some (128,0,[],[])) (λr=>some r))
def gR:FL:=(21,⟨[.val true p4 false,.val false qu false],[.cold true sv],λa=>aZ a.1 a.2⟩)::gQ
theorem lH:Gd gR:=oX lG 21 Tryz.f21 [(0,⟨⟨[(10,false,[dI])],[(2048,.box [dI,dI,dS,.own 1000000000]),(1000000000,.root oR true)]⟩,
 ⟨[],[(2048,.box [dI,dI,dS,.own 1000000300]),(1000000300,.root oR true)]⟩,some ⟨[],[(2048,.box [dI,dI,dS,.kid 264192 4 oR])]⟩⟩),
 (1000000,⟨⟨[],[(264192,.tree oV)]⟩,⟨[],[]⟩,none⟩)] Tryz.func21
def aC (l0:List Int):Option (List Int) :=
 (pw [] l0).bind λzs4 =>
 some zs4
def gS:FL:=(78,⟨[.val false qu false],[.val false qu (some true)],λa=>aC a⟩)::gR
theorem lI:Gd gS:=oX lH 78 Tryz.f78 [] Tryz.func78
def bS (a0:List Int) (b1:List Int) (i5:Int):Option (Int⊕(Unit⊕Bool)) :=
 (cond (decide (i5<(a0.length:Int))) (some (decide (i5<(b1.length:Int)))) (some false)).bind λt15 =>
 cond t15
 ((at? a0 i5).bind λx20 =>
 (at? b1 i5).bind λx24 =>
 cond (x20 != x24)
 ((at? a0 i5).bind λx29 =>
 (at? b1 i5).bind λx33 =>
 some (.inr (.inr (decide (x29<x33)))))
 (some (.inl (oL (i5+1)))))
 (some (.inr (.inl ())))
def cB (a0:List Int) (b1:List Int):Option Bool :=
 (loop (λz=>bS a0 b1 z) 0).bind (Sum.elim (λd =>
 let t4:=decide ((a0.length:Int)<(b1.length:Int))
 some t4) (λr=>some r))
def gT:FL:=(96,⟨[.val false qu false,.val false qu false],[.val false pL (some true)],λa=>cB a.1 a.2⟩)::gS
theorem lJ:Gd gT:=oX lI 96 Tryz.f96 [(0,⟨⟨(5,false,[dI])::us 11 4 [],[]⟩,
 ⟨[],[]⟩,some ⟨[(4,false,[dB])],[]⟩⟩)] Tryz.func96
def ba (o1:List Int) (t8:List oK) (t10:Int) (b1:Int) (b2:Int) (b3:List UInt8) (b0_1:List Int) (b4:List Int):Option ((Int×Int×Int×List UInt8×List Int×List Int)⊕((Int×Int×List UInt8×List Int×List Int)⊕(List Int×Int×Int×List UInt8×List Int))) :=
 cond (decide (t10<(t8.length:Int)))
 ((ix t8.length t10).bind λj12 =>
 (t8[j12]?).bind λx13 =>
 (cB o1 x13.1).bind λt17 =>
 cond t17
 (some (.inr (.inr x13)))
 (some (.inl (oL (t10+1),b1,b2,b3,b0_1,b4))))
 (some (.inr (.inl (b1,b2,b3,b0_1,b4))))
def aJ (b0:oI) (o1:List Int):Option oK :=
 (aP b0).bind λt8 =>
 (loop (λz=>ba o1 t8 z.1 z.2.1 z.2.2.1 z.2.2.2.1 z.2.2.2.2.1 z.2.2.2.2.2) (0,0,0,[],[],[])).bind (Sum.elim (λd =>
 (aC o1).bind λt21 =>
 some (t21,130,0,[],[])) (λr=>some r))
def gU:FL:=(22,⟨[.val true p4 false,.val false qu false],[.cold true oV],λa=>aJ a.1 a.2⟩)::gT
theorem lK:Gd gU:=oX lJ 22 Tryz.f22 [(0,⟨⟨[(10,false,[dI])],[(2048,.box [.own 1000000000,dI,dI,dS,.own 1000000001]),(1000000000,.root oR true),(1000000001,.root oR true)]⟩,
 ⟨[],[(2048,.box [.own 1000000300,dI,dI,dS,.own 1000000301]),(1000000300,.root oR true),(1000000301,.root oR true)]⟩,some ⟨[],[(2048,.box [.kid 264192 0 oR,dI,dI,dS,.kid 264192 4 oR])]⟩⟩),
 (1000000,⟨⟨[],[(264192,.tree oV)]⟩,⟨[],[]⟩,none⟩)] Tryz.func22
def dy (l0:List oT):Option (List oT) :=
 (pw [] l0).bind λzs4 =>
 some zs4
def gV:FL:=(166,⟨[.val false (.one (.sl pd)) false],[.val false (.one (.sl pd)) (some true)],λa=>dy a⟩)::gU
theorem lL:Gd gV:=oX lK 166 Tryz.f166 [] Tryz.func166
def bT (v0:pU):Option pU :=
 (pw [] v0.1).bind λzs5 =>
 (aC v0.2).bind λt8 =>
 some (zs5,t8)
def gW:FL:=(167,⟨[.val true qO false],[.val true qO (some true)],λa=>bT a⟩)::gV
theorem lM:Gd gW:=oX lL 167 Tryz.f167 [] Tryz.func167
def ax (b0:oI):Option oI :=
 (pw [] b0.2.2.1).bind λzs5 =>
 (dy b0.2.2.2.1).bind λt9 =>
 (bT (b0.2.2.2.2.1,b0.2.2.2.2.2.1)).bind λt12 =>
 some (b0.1,b0.2.1,zs5,t9,t12.1,t12.2,b0.2.2.2.2.2.2.1,b0.2.2.2.2.2.2.2.1,b0.2.2.2.2.2.2.2.2.1,b0.2.2.2.2.2.2.2.2.2.1,b0.2.2.2.2.2.2.2.2.2.2)
def gX:FL:=(76,⟨[.val true p4 false],[.val true p4 (some true)],λa=>ax a⟩)::gW
theorem lN:Gd gX:=oX lM 76 Tryz.f76 [] Tryz.func76
def bU (p0:oI) (t24:List oK) (t26:Int) (t5:List oK):Option ((Int×List oK)⊕(List oK)) :=
 cond (decide (t26<(t24.length:Int)))
 ((at? t24 t26).bind λx28 =>
 (aJ p0 x28.1).bind λt34 =>
 (pw t5 [t34]).bind λzs36 =>
 some (.inl (oL (t26+1),zs36)))
 (some (.inr t5))
def bV (t41:List oK) (t43:Int) (t9:List (List Int)):Option ((Int×List (List Int))⊕(List (List Int))) :=
 cond (decide (t43<(t41.length:Int)))
 ((at? t41 t43).bind λx45 =>
 (pw t9 [x45.1]).bind λzs51 =>
 some (.inl (oL (t43+1),zs51)))
 (some (.inr t9))
def bm (p0:oI) (l:List (List Int)) (t71:Int) (t5_3:List oK) (l_1:List (List Int)):Option ((Int×List oK×List (List Int))⊕(List oK×List (List Int))) :=
 cond (decide (t71<(l.length:Int)))
 (cond (decide ((t5_3.length:Int)>=10))
 (some (.inr (t5_3,l_1)))
 ((ix l_1.length t71).bind λj80 =>
 (l_1[j80]?).bind λx81 =>
 (aJ p0 x81).bind λt82 =>
 (ix l_1.length t71).bind λj87 =>
 (l_1[j87]?).bind λx =>
 (pw t5_3 [t82]).bind λzs91 =>
 some (.inl (oL (t71+1),zs91,l_1.set j87 t82.1))))
 (some (.inr (t5_3,l_1)))
def aQ (p0:oI) (i1:ph) (t12:Int) (t5_2:List oK) (l:List (List Int)):Option ((Int×List oK×List (List Int))⊕(List oK×List (List Int))) :=
 (cond (decide (t12<i1.2.2.2.1)) (some (decide ((l.length:Int)>0))) (some false)).bind λt61 =>
 (cond t61 (some (decide ((t5_2.length:Int)<10))) (some false)).bind λt66 =>
 cond t66
 ((loop (λz=>bm p0 l z.1 z.2.1 z.2.2) (0,t5_2,l)).bind λd_2 =>
 some (.inl (oL (t12+1),d_2.1,d_2.2)))
 (some (.inr (t5_2,l)))
def dz (p0:oI) (i1:ph):Option (List oK) :=
 let t6:=min2 i1.2.2.1 (i1.2.2.2.2.length:Int)
 (cut i1.2.2.2.2 0 t6).bind λt24 =>
 (loop (λz=>bU p0 t24 z.1 z.2) (0,[])).bind λd =>
 (cut i1.2.2.2.2 t6 (i1.2.2.2.2.length:Int)).bind λt41 =>
 (loop (λz=>bV t41 z.1 z.2) (0,[])).bind λd_1 =>
 (loop (λz=>aQ p0 i1 z.1 z.2.1 z.2.2) (0,d,d_1)).bind λd_3 =>
 some d_3.1
def gY:FL:=(79,⟨[.val true p4 false,.val true qx false],[.val false (.one (.sl oV)) (some true)],λa=>dz a.1 a.2⟩)::gX
theorem lO:Gd gY:=oX lN 79 Tryz.f79 [(0,⟨⟨[(5,false,[.own 1000000000]),(26,false,[dI])],[(1000000000,.root oV true)]⟩,
 ⟨[(5,false,[.own 1000000300])],[(1000000300,.root oV true)]⟩,none⟩),
 (2,⟨⟨[(9,false,[.own 1000002000]),(43,false,[dI])],[(1000002000,.root qu false)]⟩,
 ⟨[(9,false,[.own 1000002300])],[(1000002300,.root qu false)]⟩,none⟩),
 (4,⟨⟨(5,false,[.own 1000004000])::(12,false,[dI])::us 58 3 (us 63 3 []),[(1000004000,.root oV true),(1000002300,.keep qu false)]⟩,
 ⟨[(5,false,[.own 1000004300])],[(1000004300,.root oV true),(1000002300,.keep qu false)]⟩,none⟩),
 (6,⟨⟨[(5,false,[.own 1000006000]),(71,false,[dI])],[(1000006000,.root oV true),(1000002300,.keep qu false)]⟩,
 ⟨[(5,false,[.own 1000006300])],[(1000006300,.root oV true),(1000002300,.keep qu false)]⟩,none⟩)] Tryz.func79
def ay (o0:List Int) (low1:Int) (high2:Int) (head3:List Int):Option Bool :=
 cond ((o0.length:Int)==(oL ((head3.length:Int)+4)))
 ((cut o0 0 (oL ((o0.length:Int)-1))).bind λt20 =>
 (pw ([1,3,1]:List Int) head3).bind λzs23 =>
 (aq t20 zs23).bind λt24 =>
 (cond t24
 ((at? o0 (oL ((o0.length:Int)-1))).bind λx31 =>
 (aa x31 low1 high2).bind λt35 =>
 some t35)
 (some false)).bind λt36 =>
 some t36)
 ((some false).bind λt36_1 =>
 some t36_1)
def gZ:FL:=(335,⟨[.val false qu false,.val false oR false,.val false oR false,.val false qu false],[.val false pL (some true)],λa=>ay a.1 a.2.1 a.2.2.1 a.2.2.2⟩)::gY
theorem lP:Gd gZ:=oX lO 335 Tryz.f335 [] Tryz.func335
def dA (b0:oI) (o1:List Int):Option Bool :=
 (ay o1 1 1 ([1]:List Int)).bind λt11 =>
 (cond t11
 (some true)
 ((ay o1 1 (b0.2.2.1.length:Int) ([2,2]:List Int)).bind λt16 =>
 some t16)).bind λt17 =>
 (cond t17
 (some true)
 ((ay o1 1 (b0.2.2.1.length:Int) ([2,4]:List Int)).bind λt22 =>
 some t22)).bind λt23 =>
 (cond t23
 (some true)
 ((ay o1 1 99 ([3,1]:List Int)).bind λt27 =>
 some t27)).bind λt28 =>
 cond t28
 (some true)
 ((ay o1 1 99 ([3,2]:List Int)).bind λt31 =>
 (cond t31
 (some true)
 ((ay o1 1 99 ([3,3]:List Int)).bind λt35 =>
 some t35)).bind λt36 =>
 (cond t36
 ((at? o1 5).bind λx41 =>
 (aj (b0.2.2.2.2.1,b0.2.2.2.2.2.1) x41).bind λt43 =>
 some (decide (t43>=0)))
 (some false)).bind λt45 =>
 some t45)
def hC:FL:=(280,⟨[.val true p4 false,.val false qu false],[.val false pL (some true)],λa=>dA a.1 a.2⟩)::gZ
theorem lQ:Gd hC:=oX lP 280 Tryz.f280 [] Tryz.func280
def dC (v0:pU) (r1:oZ) (k7:Int):Option (Int⊕Int) :=
 (cond (decide (k7<(v0.1.length:Int)))
 ((at? v0.1 k7).bind λx31 =>
 some (decide (x31.1<=r1.1)))
 (some false)).bind λt37 =>
 cond t37 (some (.inl (oL (k7+1)))) (some (.inr k7))
def cC (v0:pU) (r1:oZ):Option pU :=
 (bT v0).bind λt9 =>
 (aj v0 r1.1).bind λt13 =>
 cond (decide (t13>=0))
 ((ix t9.1.length t13).bind λj20 =>
 (t9.1[j20]?).bind λx =>
 some (t9.1.set j20 r1,t9.2))
 ((loop (λz=>dC v0 r1 z) 0).bind λd =>
 (cut v0.1 0 d).bind λt43 =>
 (pw [] t43).bind λzs44 =>
 (pw zs44 [r1]).bind λzs47 =>
 (cut v0.1 d (v0.1.length:Int)).bind λt51 =>
 (pw zs47 t51).bind λzs52 =>
 some (zs52,t9.2))
def hN:FL:=(360,⟨[.val true qO false,.val true pE false],[.val true qO (some true)],λa=>cC a.1 a.2⟩)::hC
theorem lR:Gd hN:=oX lQ 360 Tryz.f360 [(0,⟨⟨(7,false,[dI])::us 28 9 [],[]⟩,
 ⟨[(7,false,[dI])],[]⟩,none⟩)] Tryz.func360
def cD (v0:pU) (id1:Int):Option pU :=
 (bT v0).bind λt8 =>
 (aj v0 id1).bind λt11 =>
 cond (decide (t11>=0))
 ((cut v0.1 0 t11).bind λt17 =>
 (pw [] t17).bind λzs18 =>
 (cut v0.1 (oL (t11+1)) (v0.1.length:Int)).bind λt23 =>
 (pw zs18 t23).bind λzs24 =>
 some (zs24,t8.2))
 (some t8)
def hO:FL:=(361,⟨[.val true qO false,.val false oR false],[.val true qO (some true)],λa=>cD a.1 a.2⟩)::hN
theorem lS:Gd hO:=oX lR 361 Tryz.f361 [] Tryz.func361
def dD (p0:oI) (i1:Int) (a2:Int) (a3:Int):Option (oI×Int) :=
 (aj (p0.2.2.2.2.1,p0.2.2.2.2.2.1) a2).bind λt15 =>
 cond (i1==1)
 ((cond (a3==4) (some (decide (t15<0))) (some false)).bind λt24 =>
 (cond t24 (some (decide ((p0.2.2.2.2.1.length:Int)<6))) (some false)).bind λt33 =>
 cond t33
 ((cC (p0.2.2.2.2.1,p0.2.2.2.2.2.1) (a2,0,0)).bind λt41 =>
 some ((p0.1,p0.2.1,p0.2.2.1,p0.2.2.2.1,t41.1,t41.2,p0.2.2.2.2.2.2.1,p0.2.2.2.2.2.2.2.1,p0.2.2.2.2.2.2.2.2.1,p0.2.2.2.2.2.2.2.2.2.1,p0.2.2.2.2.2.2.2.2.2.2),0))
 ((cond (a3==6) (some (decide (t15>=0))) (some false)).bind λt50 =>
 cond t50
 ((cD (p0.2.2.2.2.1,p0.2.2.2.2.2.1) a2).bind λt57 =>
 some ((p0.1,p0.2.1,p0.2.2.1,p0.2.2.2.1,t57.1,t57.2,p0.2.2.2.2.2.2.1,p0.2.2.2.2.2.2.2.1,p0.2.2.2.2.2.2.2.2.1,p0.2.2.2.2.2.2.2.2.2.1,p0.2.2.2.2.2.2.2.2.2.2),0))
 (some (p0,2))))
 ((cu (p0.2.2.1.length:Int)).bind λt66 =>
 (aa a3 0 t66).bind λt67 =>
 cond (!t67)
 (some (p0,2))
 (cond (i1==2)
 ((ix p0.2.2.2.2.1.length t15).bind λj78 =>
 (p0.2.2.2.2.1[j78]?).bind λx =>
 some ((p0.1,p0.2.1,p0.2.2.1,p0.2.2.2.1,p0.2.2.2.2.1.set j78 (x.1,a3,x.2.2),p0.2.2.2.2.2.1,p0.2.2.2.2.2.2.1,p0.2.2.2.2.2.2.2.1,p0.2.2.2.2.2.2.2.2.1,p0.2.2.2.2.2.2.2.2.2.1,p0.2.2.2.2.2.2.2.2.2.2),0))
 ((ix p0.2.2.2.2.1.length t15).bind λj87 =>
 (p0.2.2.2.2.1[j87]?).bind λx_1 =>
 some ((p0.1,p0.2.1,p0.2.2.1,p0.2.2.2.1,p0.2.2.2.2.1.set j87 (x_1.1,x_1.2.1,a3),p0.2.2.2.2.2.1,p0.2.2.2.2.2.2.1,p0.2.2.2.2.2.2.2.1,p0.2.2.2.2.2.2.2.2.1,p0.2.2.2.2.2.2.2.2.2.1,p0.2.2.2.2.2.2.2.2.2.2),0))))
def hU:FL:=(336,⟨[.ptr p4 (some true),.val false oR false,.val false oR false,.val false oR false],[.val false oR (some true)],λa=>dD a.1 a.2.1 a.2.2.1 a.2.2.2⟩)::hO
theorem lT:Gd hU:=oX lS 336 Tryz.f336 [] Tryz.func336
def f8 (p0:oI) (i1:List Int) (a2:rk):Option (oI×Int) :=
 (at? i1 3).bind λx9 =>
 (cond (x9==1) (some (a2.1 != 4)) (some false)).bind λt17 =>
 (cond t17
 (some true)
 ((cond (!(x9==1)) (some (a2.1 != 2)) (some false)).bind λt25 =>
 some t25)).bind λt26 =>
 cond t26
 (some (p0,1))
 (cond (x9==1)
 (cond (decide ((a2.2.2.1.length:Int)>10))
 (some (p0,2))
 (some ((p0.1,a2.2.2.1,p0.2.2.1,p0.2.2.2.1,p0.2.2.2.2.1,p0.2.2.2.2.2.1,p0.2.2.2.2.2.2.1,p0.2.2.2.2.2.2.2.1,p0.2.2.2.2.2.2.2.2.1,p0.2.2.2.2.2.2.2.2.2.1,p0.2.2.2.2.2.2.2.2.2.2),0)))
 ((at? i1 3).bind λx52 =>
 cond (x52==3)
 ((at? i1 4).bind λx57 =>
 (at? i1 5).bind λx60 =>
 (dD p0 x57 x60 a2.2.1).bind λt64 =>
 some t64)
 ((at? i1 4).bind λx67 =>
 cond (x67==2)
 ((aa a2.2.1 1 1000).bind λt72 =>
 cond (!t72)
 (some (p0,2))
 ((at? i1 5).bind λx79 =>
 (ix p0.2.2.1.length (oL (x79-1))).bind λj84 =>
 (p0.2.2.1[j84]?).bind λx =>
 some ((p0.1,p0.2.1,p0.2.2.1.set j84 (x.1,a2.2.1,x.2.2.1,x.2.2.2.1,x.2.2.2.2.1,x.2.2.2.2.2.1,x.2.2.2.2.2.2.1,x.2.2.2.2.2.2.2),p0.2.2.2.1,p0.2.2.2.2.1,p0.2.2.2.2.2.1,p0.2.2.2.2.2.2.1,p0.2.2.2.2.2.2.2.1,p0.2.2.2.2.2.2.2.2.1,p0.2.2.2.2.2.2.2.2.2.1,p0.2.2.2.2.2.2.2.2.2.2),0)))
 ((at? i1 5).bind λx33 =>
 (ix p0.2.2.2.2.2.1.length (oL (x33-1))).bind λj38 =>
 (p0.2.2.2.2.2.1[j38]?).bind λx_1 =>
 some ((p0.1,p0.2.1,p0.2.2.1,p0.2.2.2.1,p0.2.2.2.2.1,p0.2.2.2.2.2.1.set j38 a2.2.1,p0.2.2.2.2.2.2.1,p0.2.2.2.2.2.2.2.1,p0.2.2.2.2.2.2.2.2.1,p0.2.2.2.2.2.2.2.2.2.1,p0.2.2.2.2.2.2.2.2.2.2),0)))))
def hZ:FL:=(281,⟨[.ptr p4 (some true),.val false qu false,.val true sv false],[.val false oR (some true)],λa=>f8 a.1 a.2.1 a.2.2⟩)::hU
theorem lU:Gd hZ:=oX lT 281 Tryz.f281 [] Tryz.func281
def bn (l0:List oT) (tag1:Int) (mac2:Int) (t11:Int):Option (Int⊕(Unit⊕Int)) :=
 cond (decide (t11<(l0.length:Int)))
 ((at? l0 t11).bind λx14 =>
 (cond (x14.1==tag1) (some (x14.2.1==mac2)) (some false)).bind λt25 =>
 cond t25 (some (.inr (.inr t11))) (some (.inl (oL (t11+1)))))
 (some (.inr (.inl ())))
def dE (l0:List oT) (tag1:Int) (mac2:Int):Option Int :=
 (loop (λz=>bn l0 tag1 mac2 z) 0).bind (Sum.elim (λd =>
 some (-1)) (λr=>some r))
def i0:FL:=(337,⟨[.val false (.one (.sl pd)) false,.val false oR false,.val false oR false],[.val false oR (some true)],λa=>dE a.1 a.2.1 a.2.2⟩)::hZ
theorem lV:Gd i0:=oX lU 337 Tryz.f337 [(0,⟨⟨(11,false,[dI])::us 21 4 [],[]⟩,
 ⟨[],[]⟩,some ⟨[(6,false,[dI])],[]⟩⟩)] Tryz.func337
def dG (b0:oI) (o1:List Int):Option Bool :=
 (ay o1 2 5 ([1]:List Int)).bind λt11 =>
 (cond t11
 (some true)
 ((ay o1 1 (b0.2.2.1.length:Int) ([2,1]:List Int)).bind λt16 =>
 some t16)).bind λt17 =>
 (cond t17
 (some true)
 ((ay o1 1 (b0.2.2.1.length:Int) ([2,3]:List Int)).bind λt22 =>
 some t22)).bind λt23 =>
 cond t23
 (some true)
 ((cond ((o1.length:Int)==7)
 ((cut o1 0 5).bind λt29 =>
 (aq t29 ([1,3,1,4,1]:List Int)).bind λt31 =>
 some t31)
 (some false)).bind λt32 =>
 (cond t32
 ((at? o1 5).bind λx37 =>
 (at? o1 6).bind λx40 =>
 (dE b0.2.2.2.1 x37 x40).bind λt42 =>
 some (decide (t42>=0)))
 (some false)).bind λt44 =>
 some t44)
def ia:FL:=(282,⟨[.val true p4 false,.val false qu false],[.val false pL (some true)],λa=>dG a.1 a.2⟩)::i0
theorem lW:Gd ia:=oX lV 282 Tryz.f282 [] Tryz.func282
def bo (b0:oI) (x1:oK):Option (oI×Int) :=
 (dA b0 x1.1).bind λt11 =>
 cond t11
 ((f8 b0 x1.1 x1.2).bind λt17 =>
 some t17)
 ((dG b0 x1.1).bind λt24 =>
 cond t24 (some (b0,4)) (some (b0,3)))
def ib:FL:=(171,⟨[.ptr p4 (some true),.val true oV false],[.val false oR (some true)],λa=>bo a.1 a.2⟩)::ia
theorem lX:Gd ib:=oX lW 171 Tryz.f171 [] Tryz.func171
def cE (n0:Int):Option Int :=
 let t2:=min2 (oL (n0+1)) 1000000
 some t2
def ic:FL:=(130,⟨[.val false oR false],[.val false oR (some true)],λa=>cE a⟩)::ib
theorem lY:Gd ic:=oX lX 130 Tryz.f130 [] Tryz.func130
def aD (id0:Int) (l1:List Pt) (bits5:Int) (port6:Int):Option ((Int×Int)⊕Int) :=
 (cond (decide (port6<(l1.length:Int))) (some (decide (port6<6))) (some false)).bind λt15 =>
 cond t15
 ((aw id0 l1 port6).bind λt21 =>
 (cond (t21==1) (some true) (some (t21==2))).bind λt27 =>
 cond t27
 ((shl .i64 1 port6).bind λt30 =>
 some (.inl (B8 .i64 bits5 t30,oL (port6+1))))
 (some (.inl (bits5,oL (port6+1)))))
 (some (.inr bits5))
def dH (id0:Int) (l1:List Pt):Option Int :=
 (loop (λz=>aD id0 l1 z.1 z.2) (0,0)).bind λd =>
 some d
def ie:FL:=(283,⟨[.val false oR false,.val false (.one (.sl qj)) false],[.val false oR (some true)],λa=>dH a.1 a.2⟩)::ic
theorem lZ:Gd ie:=oX lY 283 Tryz.f283 [(0,⟨⟨[(5,false,[dI]),(6,false,[dI]),(13,false,[.undef]),(14,false,[.undef]),(25,false,[.undef]),(26,false,[.undef])],[]⟩,
 ⟨[(5,false,[dI])],[]⟩,none⟩)] Tryz.func283
def dJ (bits0:Int) (port1:Int):Option Bool :=
 (aa port1 0 62).bind λt6 =>
 (cond t6
 ((shr .i64 bits0 port1).bind λt10 =>
 some ((tO .i64 t10 1)==1))
 (some false)).bind λt13 =>
 some t13
def ig:FL:=(284,⟨[.val false oR false,.val false oR false],[.val false pL (some true)],λa=>dJ a.1 a.2⟩)::ie
theorem m0:Gd ig:=oX lZ 284 Tryz.f284 [] Tryz.func284
def bW (l0:List oT) (port1:Int) (t10:Int) (out5:List oT):Option ((Int×List oT)⊕(List oT)) :=
 cond (decide (t10<(l0.length:Int)))
 ((at? l0 t10).bind λx12 =>
 (cond x12.2.2.2.2 (some true) (some (x12.2.2.1 != port1))).bind λt21 =>
 cond t21
 ((pw out5 [x12]).bind λzs25 =>
 some (.inl (oL (t10+1),zs25)))
 (some (.inl (oL (t10+1),out5))))
 (some (.inr out5))
def dK (l0:List oT) (port1:Int):Option (List oT) :=
 (loop (λz=>bW l0 port1 z.1 z.2) (0,[])).bind λd =>
 some d
def ii:FL:=(285,⟨[.val false (.one (.sl pd)) false,.val false oR false],[.val false (.one (.sl pd)) (some true)],λa=>dK a.1 a.2⟩)::ig
theorem m3:Gd ii:=oX m0 285 Tryz.f285 [(0,⟨⟨(5,false,[.own 1000000000])::(10,false,[dI])::us 17 4 [],[(1000000000,.root pd true)]⟩,
 ⟨[(5,false,[.own 1000000300])],[(1000000300,.root pd true)]⟩,none⟩)] Tryz.func285
def dL (b0:oI) (t20:Int) (t26:Int) (b0_1:Int) (b1:List UInt8) (b6:Int) (b7:Int) (b8:Int) (b9:Int) (b10:Int) (b3:List oT):Option ((Int×Int×List UInt8×Int×Int×Int×Int×Int×List oT)⊕(Int×List UInt8×Int×Int×Int×Int×Int×List oT)) :=
 cond (decide (t26<(b0.2.2.1.length:Int)))
 ((dJ t20 t26).bind λt31 =>
 cond (!t31)
 ((dK b3 t26).bind λt39 =>
 some (.inl (oL (t26+1),b0_1,b1,b6,b7,b8,b9,b10,t39)))
 (some (.inl (oL (t26+1),b0_1,b1,b6,b7,b8,b9,b10,b3))))
 (some (.inr (b0_1,b1,b6,b7,b8,b9,b10,b3)))
def bp (b0:oI):Option oI :=
 (cE b0.2.2.2.2.2.2.2.2.2.2).bind λt9 =>
 (dH b0.1 b0.2.2.1).bind λt20 =>
 (loop (λz=>dL b0 t20 z.1 z.2.1 z.2.2.1 z.2.2.2.1 z.2.2.2.2.1 z.2.2.2.2.2.1 z.2.2.2.2.2.2.1 z.2.2.2.2.2.2.2.1 z.2.2.2.2.2.2.2.2) (0,b0.1,b0.2.1,b0.2.2.2.2.2.2.1,b0.2.2.2.2.2.2.2.1,b0.2.2.2.2.2.2.2.2.1,b0.2.2.2.2.2.2.2.2.2.1,t9,b0.2.2.2.1)).bind λd =>
 some (d.1,d.2.1,b0.2.2.1,d.2.2.2.2.2.2.2,b0.2.2.2.2.1,b0.2.2.2.2.2.1,d.2.2.1,d.2.2.2.1,d.2.2.2.2.1,d.2.2.2.2.2.1,d.2.2.2.2.2.2.1)
def ij:FL:=(172,⟨[.ptr p4 (some true)],[],λa=>bp a⟩)::ii
theorem m4:Gd ij:=oX m3 172 Tryz.f172 [(0,⟨⟨[(26,false,[dI])],[(1,.box [dI,dS,.same 4,.own 1000000000,.same 6,.same 7,dI,dI,dI,dI,dI]),(1000000000,.root pd true)]⟩,
 ⟨[],[(1,.box [dI,dS,.same 4,.own 1000000300,.same 6,.same 7,dI,dI,dI,dI,dI]),(1000000300,.root pd true)]⟩,none⟩)] Tryz.func172
def cG (p0:oI) (t25:Int) (x28:oK) (t32:List oK) (t34:Int) (b0_2:Int) (b1_2:List UInt8) (b6_2:Int) (b7_2:Int) (b8_2:Int) (b9_2:Int) (b10_2:Int):Option ((Int×Int×List UInt8×Int×Int×Int×Int×Int)⊕((Int×List UInt8×Int×Int×Int×Int×Int)⊕(Int×Int×Int×List UInt8×Int×Int×Int×Int×Int×List Pt×List oT×List oZ×List Int))) :=
 cond (decide (t34<(t32.length:Int)))
 ((at? t32 t34).bind λx36 =>
 (aq x28.1 x36.1).bind λt42 =>
 cond t42
 ((ax p0).bind λt44 =>
 some (.inr (.inr (5,oL (t25+1),t44.1,t44.2.1,t44.2.2.2.2.2.2.1,t44.2.2.2.2.2.2.2.1,t44.2.2.2.2.2.2.2.2.1,t44.2.2.2.2.2.2.2.2.2.1,t44.2.2.2.2.2.2.2.2.2.2,t44.2.2.1,t44.2.2.2.1,t44.2.2.2.2.1,t44.2.2.2.2.2.1))))
 (some (.inl (oL (t34+1),b0_2,b1_2,b6_2,b7_2,b8_2,b9_2,b10_2))))
 (some (.inr (.inl (b0_2,b1_2,b6_2,b7_2,b8_2,b9_2,b10_2))))
def dM (p0:oI) (i1:List oK) (t25:Int) (b0:Int) (b1:List UInt8) (b6:Int) (b7:Int) (b8:Int) (b9:Int) (b10:Int) (b0_1:Int) (b1_1:List UInt8) (b6_1:Int) (b7_1:Int) (b8_1:Int) (b9_1:Int) (b10_1:Int) (b2:List Pt) (b3:List oT) (b4:List oZ) (b5:List Int) (b2_1:List Pt) (b3_1:List oT) (b4_1:List oZ) (b5_1:List Int):Option ((Int×Int×List UInt8×Int×Int×Int×Int×Int×Int×List UInt8×Int×Int×Int×Int×Int×List Pt×List oT×List oZ×List Int×List Pt×List oT×List oZ×List Int)⊕((Int×List UInt8×Int×Int×Int×Int×Int×Int×List UInt8×Int×Int×Int×Int×Int×List Pt×List oT×List oZ×List Int×List Pt×List oT×List oZ×List Int)⊕(Int×Int×Int×List UInt8×Int×Int×Int×Int×Int×List Pt×List oT×List oZ×List Int))) :=
 cond (decide (t25<(i1.length:Int)))
 ((at? i1 t25).bind λx28 =>
 (cut i1 0 t25).bind λt32 =>
 (loop (λz=>cG p0 t25 x28 t32 z.1 z.2.1 z.2.2.1 z.2.2.2.1 z.2.2.2.2.1 z.2.2.2.2.2.1 z.2.2.2.2.2.2.1 z.2.2.2.2.2.2.2) (0,b0,b1,b6,b7,b8,b9,b10)).bind (Sum.elim (λd =>
 (bo (b0_1,b1_1,b2_1,b3_1,b4_1,b5_1,b6_1,b7_1,b8_1,b9_1,b10_1) x28).bind λt49 =>
 cond (t49.2 != 0)
 ((ax p0).bind λt53 =>
 some (.inr (.inr (t49.2,oL (t25+1),t53.1,t53.2.1,t53.2.2.2.2.2.2.1,t53.2.2.2.2.2.2.2.1,t53.2.2.2.2.2.2.2.2.1,t53.2.2.2.2.2.2.2.2.2.1,t53.2.2.2.2.2.2.2.2.2.2,t53.2.2.1,t53.2.2.2.1,t53.2.2.2.2.1,t53.2.2.2.2.2.1))))
 (some (.inl (oL (t25+1),d.1,d.2.1,d.2.2.1,d.2.2.2.1,d.2.2.2.2.1,d.2.2.2.2.2.1,d.2.2.2.2.2.2,t49.1.1,t49.1.2.1,t49.1.2.2.2.2.2.2.1,t49.1.2.2.2.2.2.2.2.1,t49.1.2.2.2.2.2.2.2.2.1,t49.1.2.2.2.2.2.2.2.2.2.1,t49.1.2.2.2.2.2.2.2.2.2.2,b2,b3,b4,b5,t49.1.2.2.1,t49.1.2.2.2.1,t49.1.2.2.2.2.1,t49.1.2.2.2.2.2.1)))) (λr=>some (.inr (.inr r)))))
 (some (.inr (.inl (b0,b1,b6,b7,b8,b9,b10,b0_1,b1_1,b6_1,b7_1,b8_1,b9_1,b10_1,b2,b3,b4,b5,b2_1,b3_1,b4_1,b5_1))))
def bY (p0:oI) (i1:List oK):Option (oI×Int×Int) :=
 (ax p0).bind λt14 =>
 cond ((i1.length:Int)==0)
 (some (t14,0,0))
 ((bP p0).bind λt20 =>
 cond (!t20)
 (some (t14,3,1))
 ((loop (λz=>dM p0 i1 z.1 z.2.1 z.2.2.1 z.2.2.2.1 z.2.2.2.2.1 z.2.2.2.2.2.1 z.2.2.2.2.2.2.1 z.2.2.2.2.2.2.2.1 z.2.2.2.2.2.2.2.2.1 z.2.2.2.2.2.2.2.2.2.1 z.2.2.2.2.2.2.2.2.2.2.1 z.2.2.2.2.2.2.2.2.2.2.2.1 z.2.2.2.2.2.2.2.2.2.2.2.2.1 z.2.2.2.2.2.2.2.2.2.2.2.2.2.1 z.2.2.2.2.2.2.2.2.2.2.2.2.2.2.1 z.2.2.2.2.2.2.2.2.2.2.2.2.2.2.2.1 z.2.2.2.2.2.2.2.2.2.2.2.2.2.2.2.2.1 z.2.2.2.2.2.2.2.2.2.2.2.2.2.2.2.2.2.1 z.2.2.2.2.2.2.2.2.2.2.2.2.2.2.2.2.2.2.1 z.2.2.2.2.2.2.2.2.2.2.2.2.2.2.2.2.2.2.2.1 z.2.2.2.2.2.2.2.2.2.2.2.2.2.2.2.2.2.2.2.2.1 z.2.2.2.2.2.2.2.2.2.2.2.2.2.2.2.2.2.2.2.2.2.1 z.2.2.2.2.2.2.2.2.2.2.2.2.2.2.2.2.2.2.2.2.2.2) (0,0,[],0,0,0,0,0,t14.1,t14.2.1,t14.2.2.2.2.2.2.1,t14.2.2.2.2.2.2.2.1,t14.2.2.2.2.2.2.2.2.1,t14.2.2.2.2.2.2.2.2.2.1,t14.2.2.2.2.2.2.2.2.2.2,[],[],[],[],t14.2.2.1,t14.2.2.2.1,t14.2.2.2.2.1,t14.2.2.2.2.2.1)).bind (Sum.elim (λd_1 =>
 (bO d_1.2.2.2.2.2.2.2.2.2.2.2.2.2.2.2.2.2.2.2.2 (d_1.2.2.2.2.2.2.2.2.2.2.2.2.2.2.2.2.2.2.1.length:Int)).bind λt63 =>
 cond (!t63)
 ((ax p0).bind λt66 =>
 some (t66,5,(i1.length:Int)))
 ((bp (d_1.2.2.2.2.2.2.2.1,d_1.2.2.2.2.2.2.2.2.1,d_1.2.2.2.2.2.2.2.2.2.2.2.2.2.2.2.2.2.2.1,d_1.2.2.2.2.2.2.2.2.2.2.2.2.2.2.2.2.2.2.2.1,d_1.2.2.2.2.2.2.2.2.2.2.2.2.2.2.2.2.2.2.2.2.1,d_1.2.2.2.2.2.2.2.2.2.2.2.2.2.2.2.2.2.2.2.2.2,d_1.2.2.2.2.2.2.2.2.2.1,d_1.2.2.2.2.2.2.2.2.2.2.1,d_1.2.2.2.2.2.2.2.2.2.2.2.1,d_1.2.2.2.2.2.2.2.2.2.2.2.2.1,d_1.2.2.2.2.2.2.2.2.2.2.2.2.2.1)).bind λt69 =>
 some (t69,0,0))) (λr_1=>some ((r_1.2.2.1,r_1.2.2.2.1,r_1.2.2.2.2.2.2.2.2.2.1,r_1.2.2.2.2.2.2.2.2.2.2.1,r_1.2.2.2.2.2.2.2.2.2.2.2.1,r_1.2.2.2.2.2.2.2.2.2.2.2.2,r_1.2.2.2.2.1,r_1.2.2.2.2.2.1,r_1.2.2.2.2.2.2.1,r_1.2.2.2.2.2.2.2.1,r_1.2.2.2.2.2.2.2.2.1),r_1.1,r_1.2.1)))))
def il:FL:=(80,⟨[.val true p4 false,.val false (.one (.sl oV)) false],[.val true p4 (some true),.val false oR (some true),.val false oR (some true)],λa=>bY a.1 a.2⟩)::ij
theorem m5:Gd il:=oX m4 80 Tryz.f80 [(0,⟨⟨[(25,false,[dI])],[(2048,.box [dI,dS,.own 1000000000,.own 1000000001,.own 1000000002,.own 1000000003,dI,dI,dI,dI,dI]),(265216,.box [dI,dS,.own 1000000004,.own 1000000005,.own 1000000006,.own 1000000007,dI,dI,dI,dI,dI]),(1000000000,.root qj true),(1000000001,.root pd true),(1000000002,.root pE true),(1000000003,.root oR true),(1000000004,.root qj true),(1000000005,.root pd true),(1000000006,.root pE true),(1000000007,.root oR true)]⟩,
 ⟨[],[(2048,.box [dI,dS,.own 1000000300,.own 1000000301,.own 1000000302,.own 1000000303,dI,dI,dI,dI,dI]),(265216,.box [dI,dS,.own 1000000304,.own 1000000305,.own 1000000306,.own 1000000307,dI,dI,dI,dI,dI]),(1000000300,.root qj true),(1000000301,.root pd true),(1000000302,.root pE true),(1000000303,.root oR true),(1000000304,.root qj true),(1000000305,.root pd true),(1000000306,.root pE true),(1000000307,.root oR true)]⟩,some ⟨[(5,false,[dI]),(6,false,[dI])],[(2048,.box [dI,dS,.own 1000000600,.own 1000000601,.own 1000000602,.own 1000000603,dI,dI,dI,dI,dI]),(1000000600,.root qj true),(1000000601,.root pd true),(1000000602,.root pE true),(1000000603,.root oR true)]⟩⟩),
 (2,⟨⟨[(34,false,[dI])],[(2048,.box [dI,dS,.same 1000000000,.same 1000000001,.same 1000000002,.same 1000000003,dI,dI,dI,dI,dI])]⟩,
 ⟨[],[(2048,.box [dI,dS,.same 1000000000,.same 1000000001,.same 1000000002,.same 1000000003,dI,dI,dI,dI,dI])]⟩,some ⟨[(5,false,[dI]),(6,false,[dI])],[(2048,.box [dI,dS,.own 1000002600,.own 1000002601,.own 1000002602,.own 1000002603,dI,dI,dI,dI,dI]),(1000002600,.root qj true),(1000002601,.root pd true),(1000002602,.root pE true),(1000002603,.root oR true)]⟩⟩)] Tryz.func80
def dN (v0:rk):Option rk :=
 (aC v0.2.2.2).bind λt5 =>
 some (v0.1,v0.2.1,v0.2.2.1,t5)
def im:FL:=(173,⟨[.val true sv false],[.val true sv (some true)],λa=>dN a⟩)::il
theorem m6:Gd im:=oX m5 173 Tryz.f173 [] Tryz.func173
def bZ (l0:List oK) (t8:Int) (out3:List oK):Option ((Int×List oK)⊕(List oK)) :=
 cond (decide (t8<(l0.length:Int)))
 ((at? l0 t8).bind λx10 =>
 (aC x10.1).bind λt15 =>
 (dN x10.2).bind λt18 =>
 (pw out3 [(t15,t18.1,t18.2.1,t18.2.2.1,t18.2.2.2)]).bind λzs21 =>
 some (.inl (oL (t8+1),zs21)))
 (some (.inr out3))
def dO (l0:List oK):Option (List oK) :=
 (loop (λz=>bZ l0 z.1 z.2) (0,[])).bind λd =>
 some d
def ip:FL:=(81,⟨[.val false (.one (.sl oV)) false],[.val false (.one (.sl oV)) (some true)],λa=>dO a⟩)::im
theorem m7:Gd ip:=oX m6 81 Tryz.f81 [(0,⟨⟨[(3,false,[.own 1000000000]),(8,false,[dI])],[(1000000000,.root oV true)]⟩,
 ⟨[(3,false,[.own 1000000300])],[(1000000300,.root oV true)]⟩,none⟩)] Tryz.func81
def cH (p0:oI) (i1:ph) (t54:Int) (b0:Int) (b1:Int) (b2:Int) (b3:Int) (b4:List oK):Option ((Int×Int×Int×Int×Int×List oK)⊕(Int×Int×Int×Int×List oK)) :=
 cond (decide (t54<(i1.2.2.2.2.length:Int)))
 ((at? i1.2.2.2.2 t54).bind λx56 =>
 (aC x56.1).bind λt62 =>
 (aZ p0 x56.1).bind λt66 =>
 (pw b4 [(t62,t66.1,t66.2.1,t66.2.2.1,t66.2.2.2)]).bind λzs69 =>
 some (.inl (oL (t54+1),b0,b1,b2,b3,zs69)))
 (some (.inr (b0,b1,b2,b3,b4)))
def iq (i1:ph) (b0_2:Int) (b1_2:List UInt8) (b6:Int) (b7:Int) (b8:Int) (b9:Int) (b10:Int) (b0_3:Int) (b1_3:Int) (b2_2:Int) (b3_2:Int) (b0_4:Int) (b1_4:List UInt8) (b6_1:Int) (b7_1:Int) (b8_1:Int) (b9_1:Int) (b10_1:Int) (b0_5:Int) (b1_5:Int) (b2_3:Int) (b3_3:Int) (b2_4:List Pt) (b3_4:List oT) (b4_2:List oZ) (b5:List Int) (b4_3:List oK) (b2_5:List Pt) (b3_5:List oT) (b4_4:List oZ) (b5_1:List Int) (b4_5:List oK):Option ((Int×List UInt8×Int×Int×Int×Int×Int×Int×Int×Int×Int×Int×List UInt8×Int×Int×Int×Int×Int×Int×Int×Int×Int×List Pt×List oT×List oZ×List Int×List oK×List Pt×List oT×List oZ×List Int×List oK)⊕((Int×List UInt8×Int×Int×Int×Int×Int×Int×Int×Int×Int×Int×List UInt8×Int×Int×Int×Int×Int×Int×Int×Int×Int×List Pt×List oT×List oZ×List Int×List oK×List Pt×List oT×List oZ×List Int×List oK)⊕(Bool×Int×List UInt8×Int×Int×Int×Int×Int×Int×Int×Int×Int×List Pt×List oT×List oZ×List Int×List oK))) :=
 (cond (i1.1==165) (some (decide ((b4_5.length:Int)>0))) (some false)).bind λt109 =>
 cond t109
 ((rf b4_5.length 0 (oL ((b4_5.length:Int)-1))).bind λp =>
 (aA (b0_5,b1_5,b2_3,b3_3,(b4_5.take p.2).drop p.1)).bind λt119 =>
 cond t119
 (some (.inr (.inr (true,b0_4,b1_4,b6_1,b7_1,b8_1,b9_1,b10_1,b0_5,b1_5,b2_3,b3_3,b2_5,b3_5,b4_4,b5_1,(b4_5.take p.2).drop p.1))))
 (some (.inl (b0_2,b1_2,b6,b7,b8,b9,b10,b0_3,b1_3,b2_2,b3_2,b0_4,b1_4,b6_1,b7_1,b8_1,b9_1,b10_1,b0_5,b1_5,b2_3,b3_3,b2_4,b3_4,b4_2,b5,b4_3,b2_5,b3_5,b4_4,b5_1,(b4_5.take p.2).drop p.1))))
 (some (.inr (.inl (b0_2,b1_2,b6,b7,b8,b9,b10,b0_3,b1_3,b2_2,b3_2,b0_4,b1_4,b6_1,b7_1,b8_1,b9_1,b10_1,b0_5,b1_5,b2_3,b3_3,b2_4,b3_4,b4_2,b5,b4_3,b2_5,b3_5,b4_4,b5_1,b4_5))))
def cI (p0:oI) (i1:ph) (t77:Int) (b0_10:Int) (b1_10:Int) (b2_10:Int) (b3_10:Int) (b4_10:List oK):Option ((Int×Int×Int×Int×Int×List oK)⊕(Int×Int×Int×Int×List oK)) :=
 cond (decide (t77<(i1.2.2.2.2.length:Int)))
 ((at? i1.2.2.2.2 t77).bind λx79 =>
 (aJ p0 x79.1).bind λt86 =>
 (pw b4_10 [t86]).bind λzs88 =>
 some (.inl (oL (t77+1),b0_10,b1_10,b2_10,b3_10,zs88)))
 (some (.inr (b0_10,b1_10,b2_10,b3_10,b4_10)))
def ir (i1:ph) (b0_12:Int) (b1_12:List UInt8) (b6_4:Int) (b7_4:Int) (b8_4:Int) (b9_4:Int) (b10_4:Int) (b0_13:Int) (b1_13:Int) (b2_12:Int) (b3_12:Int) (b0_14:Int) (b1_14:List UInt8) (b6_5:Int) (b7_5:Int) (b8_5:Int) (b9_5:Int) (b10_5:Int) (b0_15:Int) (b1_15:Int) (b2_13:Int) (b3_13:Int) (b2_14:List Pt) (b3_14:List oT) (b4_12:List oZ) (b5_4:List Int) (b4_13:List oK) (b2_15:List Pt) (b3_15:List oT) (b4_14:List oZ) (b5_5:List Int) (b4_15:List oK):Option ((Int×List UInt8×Int×Int×Int×Int×Int×Int×Int×Int×Int×Int×List UInt8×Int×Int×Int×Int×Int×Int×Int×Int×Int×List Pt×List oT×List oZ×List Int×List oK×List Pt×List oT×List oZ×List Int×List oK)⊕((Int×List UInt8×Int×Int×Int×Int×Int×Int×Int×Int×Int×Int×List UInt8×Int×Int×Int×Int×Int×Int×Int×Int×Int×List Pt×List oT×List oZ×List Int×List oK×List Pt×List oT×List oZ×List Int×List oK)⊕(Bool×Int×List UInt8×Int×Int×Int×Int×Int×Int×Int×Int×Int×List Pt×List oT×List oZ×List Int×List oK))) :=
 (cond (i1.1==165) (some (decide ((b4_15.length:Int)>0))) (some false)).bind λt109_1 =>
 cond t109_1
 ((rf b4_15.length 0 (oL ((b4_15.length:Int)-1))).bind λp_1 =>
 (aA (b0_15,b1_15,b2_13,b3_13,(b4_15.take p_1.2).drop p_1.1)).bind λt119_1 =>
 cond t119_1
 (some (.inr (.inr (true,b0_14,b1_14,b6_5,b7_5,b8_5,b9_5,b10_5,b0_15,b1_15,b2_13,b3_13,b2_15,b3_15,b4_14,b5_5,(b4_15.take p_1.2).drop p_1.1))))
 (some (.inl (b0_12,b1_12,b6_4,b7_4,b8_4,b9_4,b10_4,b0_13,b1_13,b2_12,b3_12,b0_14,b1_14,b6_5,b7_5,b8_5,b9_5,b10_5,b0_15,b1_15,b2_13,b3_13,b2_14,b3_14,b4_12,b5_4,b4_13,b2_15,b3_15,b4_14,b5_5,(b4_15.take p_1.2).drop p_1.1))))
 (some (.inr (.inl (b0_12,b1_12,b6_4,b7_4,b8_4,b9_4,b10_4,b0_13,b1_13,b2_12,b3_12,b0_14,b1_14,b6_5,b7_5,b8_5,b9_5,b10_5,b0_15,b1_15,b2_13,b3_13,b2_14,b3_14,b4_12,b5_4,b4_13,b2_15,b3_15,b4_14,b5_5,b4_15))))
def cJ (i1:ph) (b0_20:Int) (b1_20:List UInt8) (b6_8:Int) (b7_8:Int) (b8_8:Int) (b9_8:Int) (b10_8:Int) (b0_21:Int) (b1_21:Int) (b2_20:Int) (b3_20:Int) (b0_22:Int) (b1_22:List UInt8) (b6_9:Int) (b7_9:Int) (b8_9:Int) (b9_9:Int) (b10_9:Int) (b0_23:Int) (b1_23:Int) (b2_21:Int) (b3_21:Int) (b2_22:List Pt) (b3_22:List oT) (b4_20:List oZ) (b5_8:List Int) (b4_21:List oK) (b2_23:List Pt) (b3_23:List oT) (b4_22:List oZ) (b5_9:List Int) (b4_23:List oK):Option ((Int×List UInt8×Int×Int×Int×Int×Int×Int×Int×Int×Int×Int×List UInt8×Int×Int×Int×Int×Int×Int×Int×Int×Int×List Pt×List oT×List oZ×List Int×List oK×List Pt×List oT×List oZ×List Int×List oK)⊕((Int×List UInt8×Int×Int×Int×Int×Int×Int×Int×Int×Int×Int×List UInt8×Int×Int×Int×Int×Int×Int×Int×Int×Int×List Pt×List oT×List oZ×List Int×List oK×List Pt×List oT×List oZ×List Int×List oK)⊕(Bool×Int×List UInt8×Int×Int×Int×Int×Int×Int×Int×Int×Int×List Pt×List oT×List oZ×List Int×List oK))) :=
 (cond (i1.1==165) (some (decide ((b4_23.length:Int)>0))) (some false)).bind λt109_2 =>
 cond t109_2
 ((rf b4_23.length 0 (oL ((b4_23.length:Int)-1))).bind λp_2 =>
 (aA (b0_23,b1_23,b2_21,b3_21,(b4_23.take p_2.2).drop p_2.1)).bind λt119_2 =>
 cond t119_2
 (some (.inr (.inr (true,b0_22,b1_22,b6_9,b7_9,b8_9,b9_9,b10_9,b0_23,b1_23,b2_21,b3_21,b2_23,b3_23,b4_22,b5_9,(b4_23.take p_2.2).drop p_2.1))))
 (some (.inl (b0_20,b1_20,b6_8,b7_8,b8_8,b9_8,b10_8,b0_21,b1_21,b2_20,b3_20,b0_22,b1_22,b6_9,b7_9,b8_9,b9_9,b10_9,b0_23,b1_23,b2_21,b3_21,b2_22,b3_22,b4_20,b5_8,b4_21,b2_23,b3_23,b4_22,b5_9,(b4_23.take p_2.2).drop p_2.1))))
 (some (.inr (.inl (b0_20,b1_20,b6_8,b7_8,b8_8,b9_8,b10_8,b0_21,b1_21,b2_20,b3_20,b0_22,b1_22,b6_9,b7_9,b8_9,b9_9,b10_9,b0_23,b1_23,b2_21,b3_21,b2_22,b3_22,b4_20,b5_8,b4_21,b2_23,b3_23,b4_22,b5_9,b4_23))))
def iu (i1:ph) (b0_28:Int) (b1_28:List UInt8) (b6_12:Int) (b7_12:Int) (b8_12:Int) (b9_12:Int) (b10_12:Int) (b0_29:Int) (b1_29:Int) (b2_28:Int) (b3_28:Int) (b0_30:Int) (b1_30:List UInt8) (b6_13:Int) (b7_13:Int) (b8_13:Int) (b9_13:Int) (b10_13:Int) (b0_31:Int) (b1_31:Int) (b2_29:Int) (b3_29:Int) (b2_30:List Pt) (b3_30:List oT) (b4_28:List oZ) (b5_12:List Int) (b4_29:List oK) (b2_31:List Pt) (b3_31:List oT) (b4_30:List oZ) (b5_13:List Int) (b4_31:List oK):Option ((Int×List UInt8×Int×Int×Int×Int×Int×Int×Int×Int×Int×Int×List UInt8×Int×Int×Int×Int×Int×Int×Int×Int×Int×List Pt×List oT×List oZ×List Int×List oK×List Pt×List oT×List oZ×List Int×List oK)⊕((Int×List UInt8×Int×Int×Int×Int×Int×Int×Int×Int×Int×Int×List UInt8×Int×Int×Int×Int×Int×Int×Int×Int×Int×List Pt×List oT×List oZ×List Int×List oK×List Pt×List oT×List oZ×List Int×List oK)⊕(Bool×Int×List UInt8×Int×Int×Int×Int×Int×Int×Int×Int×Int×List Pt×List oT×List oZ×List Int×List oK))) :=
 (cond (i1.1==165) (some (decide ((b4_31.length:Int)>0))) (some false)).bind λt109_3 =>
 cond t109_3
 ((rf b4_31.length 0 (oL ((b4_31.length:Int)-1))).bind λp_3 =>
 (aA (b0_31,b1_31,b2_29,b3_29,(b4_31.take p_3.2).drop p_3.1)).bind λt119_3 =>
 cond t119_3
 (some (.inr (.inr (true,b0_30,b1_30,b6_13,b7_13,b8_13,b9_13,b10_13,b0_31,b1_31,b2_29,b3_29,b2_31,b3_31,b4_30,b5_13,(b4_31.take p_3.2).drop p_3.1))))
 (some (.inl (b0_28,b1_28,b6_12,b7_12,b8_12,b9_12,b10_12,b0_29,b1_29,b2_28,b3_28,b0_30,b1_30,b6_13,b7_13,b8_13,b9_13,b10_13,b0_31,b1_31,b2_29,b3_29,b2_30,b3_30,b4_28,b5_12,b4_29,b2_31,b3_31,b4_30,b5_13,(b4_31.take p_3.2).drop p_3.1))))
 (some (.inr (.inl (b0_28,b1_28,b6_12,b7_12,b8_12,b9_12,b10_12,b0_29,b1_29,b2_28,b3_28,b0_30,b1_30,b6_13,b7_13,b8_13,b9_13,b10_13,b0_31,b1_31,b2_29,b3_29,b2_30,b3_30,b4_28,b5_12,b4_29,b2_31,b3_31,b4_30,b5_13,b4_31))))
def cK (p0:oI) (i1:ph):Option (oI×ph×Bool) :=
 (ax p0).bind λt14 =>
 (bP p0).bind λt16 =>
 (cond (!t16)
 (some true)
 ((co i1).bind λt20 =>
 some (!t20))).bind λt22 =>
 (cond t22 (some true) (some (i1.1==162))).bind λt27 =>
 cond t27
 (some (t14,(0,0,0,0,[]),false))
 (cond (i1.1==160)
 ((loop (λz=>cH p0 i1 z.1 z.2.1 z.2.2.1 z.2.2.2.1 z.2.2.2.2.1 z.2.2.2.2.2) (0,162,i1.2.1,0,0,[])).bind λd =>
 (aA d).bind λt98 =>
 cond t98
 (some (t14,d,true))
 ((loop (λz=>iq i1 z.1 z.2.1 z.2.2.1 z.2.2.2.1 z.2.2.2.2.1 z.2.2.2.2.2.1 z.2.2.2.2.2.2.1 z.2.2.2.2.2.2.2.1 z.2.2.2.2.2.2.2.2.1 z.2.2.2.2.2.2.2.2.2.1 z.2.2.2.2.2.2.2.2.2.2.1 z.2.2.2.2.2.2.2.2.2.2.2.1 z.2.2.2.2.2.2.2.2.2.2.2.2.1 z.2.2.2.2.2.2.2.2.2.2.2.2.2.1 z.2.2.2.2.2.2.2.2.2.2.2.2.2.2.1 z.2.2.2.2.2.2.2.2.2.2.2.2.2.2.2.1 z.2.2.2.2.2.2.2.2.2.2.2.2.2.2.2.2.1 z.2.2.2.2.2.2.2.2.2.2.2.2.2.2.2.2.2.1 z.2.2.2.2.2.2.2.2.2.2.2.2.2.2.2.2.2.2.1 z.2.2.2.2.2.2.2.2.2.2.2.2.2.2.2.2.2.2.2.1 z.2.2.2.2.2.2.2.2.2.2.2.2.2.2.2.2.2.2.2.2.1 z.2.2.2.2.2.2.2.2.2.2.2.2.2.2.2.2.2.2.2.2.2.1 z.2.2.2.2.2.2.2.2.2.2.2.2.2.2.2.2.2.2.2.2.2.2.1 z.2.2.2.2.2.2.2.2.2.2.2.2.2.2.2.2.2.2.2.2.2.2.2.1 z.2.2.2.2.2.2.2.2.2.2.2.2.2.2.2.2.2.2.2.2.2.2.2.2.1 z.2.2.2.2.2.2.2.2.2.2.2.2.2.2.2.2.2.2.2.2.2.2.2.2.2.1 z.2.2.2.2.2.2.2.2.2.2.2.2.2.2.2.2.2.2.2.2.2.2.2.2.2.2.1 z.2.2.2.2.2.2.2.2.2.2.2.2.2.2.2.2.2.2.2.2.2.2.2.2.2.2.2.1 z.2.2.2.2.2.2.2.2.2.2.2.2.2.2.2.2.2.2.2.2.2.2.2.2.2.2.2.2.1 z.2.2.2.2.2.2.2.2.2.2.2.2.2.2.2.2.2.2.2.2.2.2.2.2.2.2.2.2.2.1 z.2.2.2.2.2.2.2.2.2.2.2.2.2.2.2.2.2.2.2.2.2.2.2.2.2.2.2.2.2.2.1 z.2.2.2.2.2.2.2.2.2.2.2.2.2.2.2.2.2.2.2.2.2.2.2.2.2.2.2.2.2.2.2) (0,[],0,0,0,0,0,0,0,0,0,t14.1,t14.2.1,t14.2.2.2.2.2.2.1,t14.2.2.2.2.2.2.2.1,t14.2.2.2.2.2.2.2.2.1,t14.2.2.2.2.2.2.2.2.2.1,t14.2.2.2.2.2.2.2.2.2.2,d.1,d.2.1,d.2.2.1,d.2.2.2.1,[],[],[],[],[],t14.2.2.1,t14.2.2.2.1,t14.2.2.2.2.1,t14.2.2.2.2.2.1,d.2.2.2.2)).bind (Sum.elim (λd_1 =>
 (ax p0).bind λt123 =>
 some (t123,(162,i1.2.1,7,0,[]),true)) (λr=>some ((r.2.1,r.2.2.1,r.2.2.2.2.2.2.2.2.2.2.2.2.1,r.2.2.2.2.2.2.2.2.2.2.2.2.2.1,r.2.2.2.2.2.2.2.2.2.2.2.2.2.2.1,r.2.2.2.2.2.2.2.2.2.2.2.2.2.2.2.1,r.2.2.2.1,r.2.2.2.2.1,r.2.2.2.2.2.1,r.2.2.2.2.2.2.1,r.2.2.2.2.2.2.2.1),(r.2.2.2.2.2.2.2.2.1,r.2.2.2.2.2.2.2.2.2.1,r.2.2.2.2.2.2.2.2.2.2.1,r.2.2.2.2.2.2.2.2.2.2.2.1,r.2.2.2.2.2.2.2.2.2.2.2.2.2.2.2.2),r.1)))))
 (cond (i1.1==161)
 ((loop (λz=>cI p0 i1 z.1 z.2.1 z.2.2.1 z.2.2.2.1 z.2.2.2.2.1 z.2.2.2.2.2) (0,162,i1.2.1,0,0,[])).bind λd_2 =>
 (aA d_2).bind λt98_1 =>
 cond t98_1
 (some (t14,d_2,true))
 ((loop (λz=>ir i1 z.1 z.2.1 z.2.2.1 z.2.2.2.1 z.2.2.2.2.1 z.2.2.2.2.2.1 z.2.2.2.2.2.2.1 z.2.2.2.2.2.2.2.1 z.2.2.2.2.2.2.2.2.1 z.2.2.2.2.2.2.2.2.2.1 z.2.2.2.2.2.2.2.2.2.2.1 z.2.2.2.2.2.2.2.2.2.2.2.1 z.2.2.2.2.2.2.2.2.2.2.2.2.1 z.2.2.2.2.2.2.2.2.2.2.2.2.2.1 z.2.2.2.2.2.2.2.2.2.2.2.2.2.2.1 z.2.2.2.2.2.2.2.2.2.2.2.2.2.2.2.1 z.2.2.2.2.2.2.2.2.2.2.2.2.2.2.2.2.1 z.2.2.2.2.2.2.2.2.2.2.2.2.2.2.2.2.2.1 z.2.2.2.2.2.2.2.2.2.2.2.2.2.2.2.2.2.2.1 z.2.2.2.2.2.2.2.2.2.2.2.2.2.2.2.2.2.2.2.1 z.2.2.2.2.2.2.2.2.2.2.2.2.2.2.2.2.2.2.2.2.1 z.2.2.2.2.2.2.2.2.2.2.2.2.2.2.2.2.2.2.2.2.2.1 z.2.2.2.2.2.2.2.2.2.2.2.2.2.2.2.2.2.2.2.2.2.2.1 z.2.2.2.2.2.2.2.2.2.2.2.2.2.2.2.2.2.2.2.2.2.2.2.1 z.2.2.2.2.2.2.2.2.2.2.2.2.2.2.2.2.2.2.2.2.2.2.2.2.1 z.2.2.2.2.2.2.2.2.2.2.2.2.2.2.2.2.2.2.2.2.2.2.2.2.2.1 z.2.2.2.2.2.2.2.2.2.2.2.2.2.2.2.2.2.2.2.2.2.2.2.2.2.2.1 z.2.2.2.2.2.2.2.2.2.2.2.2.2.2.2.2.2.2.2.2.2.2.2.2.2.2.2.1 z.2.2.2.2.2.2.2.2.2.2.2.2.2.2.2.2.2.2.2.2.2.2.2.2.2.2.2.2.1 z.2.2.2.2.2.2.2.2.2.2.2.2.2.2.2.2.2.2.2.2.2.2.2.2.2.2.2.2.2.1 z.2.2.2.2.2.2.2.2.2.2.2.2.2.2.2.2.2.2.2.2.2.2.2.2.2.2.2.2.2.2.1 z.2.2.2.2.2.2.2.2.2.2.2.2.2.2.2.2.2.2.2.2.2.2.2.2.2.2.2.2.2.2.2) (0,[],0,0,0,0,0,0,0,0,0,t14.1,t14.2.1,t14.2.2.2.2.2.2.1,t14.2.2.2.2.2.2.2.1,t14.2.2.2.2.2.2.2.2.1,t14.2.2.2.2.2.2.2.2.2.1,t14.2.2.2.2.2.2.2.2.2.2,d_2.1,d_2.2.1,d_2.2.2.1,d_2.2.2.2.1,[],[],[],[],[],t14.2.2.1,t14.2.2.2.1,t14.2.2.2.2.1,t14.2.2.2.2.2.1,d_2.2.2.2.2)).bind (Sum.elim (λd_3 =>
 (ax p0).bind λt123_1 =>
 some (t123_1,(162,i1.2.1,7,0,[]),true)) (λr_1=>some ((r_1.2.1,r_1.2.2.1,r_1.2.2.2.2.2.2.2.2.2.2.2.2.1,r_1.2.2.2.2.2.2.2.2.2.2.2.2.2.1,r_1.2.2.2.2.2.2.2.2.2.2.2.2.2.2.1,r_1.2.2.2.2.2.2.2.2.2.2.2.2.2.2.2.1,r_1.2.2.2.1,r_1.2.2.2.2.1,r_1.2.2.2.2.2.1,r_1.2.2.2.2.2.2.1,r_1.2.2.2.2.2.2.2.1),(r_1.2.2.2.2.2.2.2.2.1,r_1.2.2.2.2.2.2.2.2.2.1,r_1.2.2.2.2.2.2.2.2.2.2.1,r_1.2.2.2.2.2.2.2.2.2.2.2.1,r_1.2.2.2.2.2.2.2.2.2.2.2.2.2.2.2.2),r_1.1)))))
 (cond (i1.1==165)
 ((dz p0 i1).bind λt95 =>
 (aA (162,i1.2.1,0,0,t95)).bind λt98_2 =>
 cond t98_2
 (some (t14,(162,i1.2.1,0,0,t95),true))
 ((loop (λz=>cJ i1 z.1 z.2.1 z.2.2.1 z.2.2.2.1 z.2.2.2.2.1 z.2.2.2.2.2.1 z.2.2.2.2.2.2.1 z.2.2.2.2.2.2.2.1 z.2.2.2.2.2.2.2.2.1 z.2.2.2.2.2.2.2.2.2.1 z.2.2.2.2.2.2.2.2.2.2.1 z.2.2.2.2.2.2.2.2.2.2.2.1 z.2.2.2.2.2.2.2.2.2.2.2.2.1 z.2.2.2.2.2.2.2.2.2.2.2.2.2.1 z.2.2.2.2.2.2.2.2.2.2.2.2.2.2.1 z.2.2.2.2.2.2.2.2.2.2.2.2.2.2.2.1 z.2.2.2.2.2.2.2.2.2.2.2.2.2.2.2.2.1 z.2.2.2.2.2.2.2.2.2.2.2.2.2.2.2.2.2.1 z.2.2.2.2.2.2.2.2.2.2.2.2.2.2.2.2.2.2.1 z.2.2.2.2.2.2.2.2.2.2.2.2.2.2.2.2.2.2.2.1 z.2.2.2.2.2.2.2.2.2.2.2.2.2.2.2.2.2.2.2.2.1 z.2.2.2.2.2.2.2.2.2.2.2.2.2.2.2.2.2.2.2.2.2.1 z.2.2.2.2.2.2.2.2.2.2.2.2.2.2.2.2.2.2.2.2.2.2.1 z.2.2.2.2.2.2.2.2.2.2.2.2.2.2.2.2.2.2.2.2.2.2.2.1 z.2.2.2.2.2.2.2.2.2.2.2.2.2.2.2.2.2.2.2.2.2.2.2.2.1 z.2.2.2.2.2.2.2.2.2.2.2.2.2.2.2.2.2.2.2.2.2.2.2.2.2.1 z.2.2.2.2.2.2.2.2.2.2.2.2.2.2.2.2.2.2.2.2.2.2.2.2.2.2.1 z.2.2.2.2.2.2.2.2.2.2.2.2.2.2.2.2.2.2.2.2.2.2.2.2.2.2.2.1 z.2.2.2.2.2.2.2.2.2.2.2.2.2.2.2.2.2.2.2.2.2.2.2.2.2.2.2.2.1 z.2.2.2.2.2.2.2.2.2.2.2.2.2.2.2.2.2.2.2.2.2.2.2.2.2.2.2.2.2.1 z.2.2.2.2.2.2.2.2.2.2.2.2.2.2.2.2.2.2.2.2.2.2.2.2.2.2.2.2.2.2.1 z.2.2.2.2.2.2.2.2.2.2.2.2.2.2.2.2.2.2.2.2.2.2.2.2.2.2.2.2.2.2.2) (0,[],0,0,0,0,0,0,0,0,0,t14.1,t14.2.1,t14.2.2.2.2.2.2.1,t14.2.2.2.2.2.2.2.1,t14.2.2.2.2.2.2.2.2.1,t14.2.2.2.2.2.2.2.2.2.1,t14.2.2.2.2.2.2.2.2.2.2,162,i1.2.1,0,0,[],[],[],[],[],t14.2.2.1,t14.2.2.2.1,t14.2.2.2.2.1,t14.2.2.2.2.2.1,t95)).bind (Sum.elim (λd_4 =>
 (ax p0).bind λt123_2 =>
 some (t123_2,(162,i1.2.1,7,0,[]),true)) (λr_2=>some ((r_2.2.1,r_2.2.2.1,r_2.2.2.2.2.2.2.2.2.2.2.2.2.1,r_2.2.2.2.2.2.2.2.2.2.2.2.2.2.1,r_2.2.2.2.2.2.2.2.2.2.2.2.2.2.2.1,r_2.2.2.2.2.2.2.2.2.2.2.2.2.2.2.2.1,r_2.2.2.2.1,r_2.2.2.2.2.1,r_2.2.2.2.2.2.1,r_2.2.2.2.2.2.2.1,r_2.2.2.2.2.2.2.2.1),(r_2.2.2.2.2.2.2.2.2.1,r_2.2.2.2.2.2.2.2.2.2.1,r_2.2.2.2.2.2.2.2.2.2.2.1,r_2.2.2.2.2.2.2.2.2.2.2.2.1,r_2.2.2.2.2.2.2.2.2.2.2.2.2.2.2.2.2),r_2.1)))))
 ((bY p0 i1.2.2.2.2).bind λt39 =>
 (dO i1.2.2.2.2).bind λt47 =>
 (aA (162,i1.2.1,t39.2.1,t39.2.2,t47)).bind λt98_3 =>
 cond t98_3
 (some (t39.1,(162,i1.2.1,t39.2.1,t39.2.2,t47),true))
 ((loop (λz=>iu i1 z.1 z.2.1 z.2.2.1 z.2.2.2.1 z.2.2.2.2.1 z.2.2.2.2.2.1 z.2.2.2.2.2.2.1 z.2.2.2.2.2.2.2.1 z.2.2.2.2.2.2.2.2.1 z.2.2.2.2.2.2.2.2.2.1 z.2.2.2.2.2.2.2.2.2.2.1 z.2.2.2.2.2.2.2.2.2.2.2.1 z.2.2.2.2.2.2.2.2.2.2.2.2.1 z.2.2.2.2.2.2.2.2.2.2.2.2.2.1 z.2.2.2.2.2.2.2.2.2.2.2.2.2.2.1 z.2.2.2.2.2.2.2.2.2.2.2.2.2.2.2.1 z.2.2.2.2.2.2.2.2.2.2.2.2.2.2.2.2.1 z.2.2.2.2.2.2.2.2.2.2.2.2.2.2.2.2.2.1 z.2.2.2.2.2.2.2.2.2.2.2.2.2.2.2.2.2.2.1 z.2.2.2.2.2.2.2.2.2.2.2.2.2.2.2.2.2.2.2.1 z.2.2.2.2.2.2.2.2.2.2.2.2.2.2.2.2.2.2.2.2.1 z.2.2.2.2.2.2.2.2.2.2.2.2.2.2.2.2.2.2.2.2.2.1 z.2.2.2.2.2.2.2.2.2.2.2.2.2.2.2.2.2.2.2.2.2.2.1 z.2.2.2.2.2.2.2.2.2.2.2.2.2.2.2.2.2.2.2.2.2.2.2.1 z.2.2.2.2.2.2.2.2.2.2.2.2.2.2.2.2.2.2.2.2.2.2.2.2.1 z.2.2.2.2.2.2.2.2.2.2.2.2.2.2.2.2.2.2.2.2.2.2.2.2.2.1 z.2.2.2.2.2.2.2.2.2.2.2.2.2.2.2.2.2.2.2.2.2.2.2.2.2.2.1 z.2.2.2.2.2.2.2.2.2.2.2.2.2.2.2.2.2.2.2.2.2.2.2.2.2.2.2.1 z.2.2.2.2.2.2.2.2.2.2.2.2.2.2.2.2.2.2.2.2.2.2.2.2.2.2.2.2.1 z.2.2.2.2.2.2.2.2.2.2.2.2.2.2.2.2.2.2.2.2.2.2.2.2.2.2.2.2.2.1 z.2.2.2.2.2.2.2.2.2.2.2.2.2.2.2.2.2.2.2.2.2.2.2.2.2.2.2.2.2.2.1 z.2.2.2.2.2.2.2.2.2.2.2.2.2.2.2.2.2.2.2.2.2.2.2.2.2.2.2.2.2.2.2) (0,[],0,0,0,0,0,0,0,0,0,t39.1.1,t39.1.2.1,t39.1.2.2.2.2.2.2.1,t39.1.2.2.2.2.2.2.2.1,t39.1.2.2.2.2.2.2.2.2.1,t39.1.2.2.2.2.2.2.2.2.2.1,t39.1.2.2.2.2.2.2.2.2.2.2,162,i1.2.1,t39.2.1,t39.2.2,[],[],[],[],[],t39.1.2.2.1,t39.1.2.2.2.1,t39.1.2.2.2.2.1,t39.1.2.2.2.2.2.1,t47)).bind (Sum.elim (λd_5 =>
 (ax p0).bind λt123_3 =>
 some (t123_3,(162,i1.2.1,7,0,[]),true)) (λr_3=>some ((r_3.2.1,r_3.2.2.1,r_3.2.2.2.2.2.2.2.2.2.2.2.2.1,r_3.2.2.2.2.2.2.2.2.2.2.2.2.2.1,r_3.2.2.2.2.2.2.2.2.2.2.2.2.2.2.1,r_3.2.2.2.2.2.2.2.2.2.2.2.2.2.2.2.1,r_3.2.2.2.1,r_3.2.2.2.2.1,r_3.2.2.2.2.2.1,r_3.2.2.2.2.2.2.1,r_3.2.2.2.2.2.2.2.1),(r_3.2.2.2.2.2.2.2.2.1,r_3.2.2.2.2.2.2.2.2.2.1,r_3.2.2.2.2.2.2.2.2.2.2.1,r_3.2.2.2.2.2.2.2.2.2.2.2.1,r_3.2.2.2.2.2.2.2.2.2.2.2.2.2.2.2.2),r_3.1))))))))
def iv:FL:=(13,⟨[.val true p4 false,.val true qx false],[.val true p4 (some true),.val true qx (some true),.val false pL (some true)],λa=>cK a.1 a.2⟩)::ip
theorem m8:Gd iv:=oX m7 13 Tryz.f13 [(1,⟨⟨[(54,false,[dI])],[(1052672,.box [dI,dI,dI,dI,.own 1000001000]),(1000001000,.root oV true)]⟩,
 ⟨[],[(1052672,.box [dI,dI,dI,dI,.own 1000001300]),(1000001300,.root oV true)]⟩,none⟩),
 (3,⟨⟨[(77,false,[dI])],[(1052672,.box [dI,dI,dI,dI,.own 1000003000]),(1000003000,.root oV true)]⟩,
 ⟨[],[(1052672,.box [dI,dI,dI,dI,.own 1000003300]),(1000003300,.root oV true)]⟩,none⟩),
 (5,⟨⟨us 105 4 [],[(3072,.box [dI,dS,.own 1000005000,.own 1000005001,.own 1000005002,.own 1000005003,dI,dI,dI,dI,dI]),(4096,.box [dI,dI,dI,dI,.own 1000005004]),(265216,.box [dI,dS,.own 1000005005,.own 1000005006,.own 1000005007,.own 1000005008,dI,dI,dI,dI,dI]),(1052672,.box [dI,dI,dI,dI,.own 1000005009]),(1000005000,.root qj true),(1000005001,.root pd true),(1000005002,.root pE true),(1000005003,.root oR true),(1000005004,.root oV true),(1000005005,.root qj true),(1000005006,.root pd true),(1000005007,.root pE true),(1000005008,.root oR true),(1000005009,.root oV true)]⟩,
 ⟨[],[(3072,.box [dI,dS,.own 1000005300,.own 1000005301,.own 1000005302,.own 1000005303,dI,dI,dI,dI,dI]),(4096,.box [dI,dI,dI,dI,.own 1000005304]),(265216,.box [dI,dS,.own 1000005305,.own 1000005306,.own 1000005307,.own 1000005308,dI,dI,dI,dI,dI]),(1052672,.box [dI,dI,dI,dI,.own 1000005309]),(1000005300,.root qj true),(1000005301,.root pd true),(1000005302,.root pE true),(1000005303,.root oR true),(1000005304,.root oV true),(1000005305,.root qj true),(1000005306,.root pd true),(1000005307,.root pE true),(1000005308,.root oR true),(1000005309,.root oV true)]⟩,some ⟨[(6,false,[dB])],[(3072,.box [dI,dS,.own 1000005600,.own 1000005601,.own 1000005602,.own 1000005603,dI,dI,dI,dI,dI]),(4096,.box [dI,dI,dI,dI,.own 1000005604]),(1000005600,.root qj true),(1000005601,.root pd true),(1000005602,.root pE true),(1000005603,.root oR true),(1000005604,.root oV true)]⟩⟩)] Tryz.func13
def ac (x0:Int) (least1:Int) (most2:Int):Option Bool :=
 (cond (decide (x0>=least1)) (some (decide (x0<=most2))) (some false)).bind λt14 =>
 some t14
def iw:FL:=(103,⟨[.val false oR false,.val false oR false,.val false oR false],[.val false pL (some true)],λa=>ac a.1 a.2.1 a.2.2⟩)::iv
theorem m9:Gd iw:=oX m8 103 Tryz.f103 [] Tryz.func103
def cL (v0:u4):Option Bool :=
 (ac v0.1 1 99).bind λt5 =>
 (cond t5
 ((ac v0.2.1 0 100000).bind λt9 =>
 some t9)
 (some false)).bind λt10 =>
 (cond t10
 ((ac v0.2.2.1 0 10).bind λt14 =>
 some t14)
 (some false)).bind λt15 =>
 (cond t15
 ((ac v0.2.2.2.1 1 99).bind λt19 =>
 some t19)
 (some false)).bind λt20 =>
 (cond t20
 ((ac v0.2.2.2.2 0 7).bind λt24 =>
 some t24)
 (some false)).bind λt25 =>
 some t25
def iy:FL:=(247,⟨[.val true sN false],[.val false pL (some true)],λa=>cL a⟩)::iw
theorem ma:Gd iy:=oX m9 247 Tryz.f247 [] Tryz.func247
def cM (p0:Pt):Option Bool :=
 (ac p0.2.1 1 1000).bind λt5 =>
 (cond (!t5)
 (some true)
 ((cond (!p0.1) (some p0.2.2.1) (some false)).bind λt14 =>
 some t14)).bind λt15 =>
 cond t15
 (some false)
 (cond (!p0.2.2.1)
 (let t2:=p0.2.2.2.1==0&&(p0.2.2.2.2.1==0&&(p0.2.2.2.2.2.1==0&&(p0.2.2.2.2.2.2.1==0&&(p0.2.2.2.2.2.2.2==0))))
 some t2)
 ((cL p0.2.2.2).bind λt25 =>
 some t25))
def iz:FL:=(147,⟨[.val true qj false],[.val false pL (some true)],λa=>cM a⟩)::iy
theorem mb:Gd iz:=oX ma 147 Tryz.f147 [] Tryz.func147
def dP (e0:oT):Option Bool :=
 (ac e0.1 1 99).bind λt5 =>
 (cond t5
 ((ac e0.2.1 1 9999).bind λt9 =>
 some t9)
 (some false)).bind λt10 =>
 (cond t10
 ((ac e0.2.2.1 0 7).bind λt14 =>
 some t14)
 (some false)).bind λt15 =>
 (cond t15
 ((ac e0.2.2.2.1 0 4).bind λt19 =>
 some t19)
 (some false)).bind λt20 =>
 (cond t20
 ((cond (!e0.2.2.2.2) (some true) (some (e0.2.2.2.1==0))).bind λt29 =>
 some t29)
 (some false)).bind λt30 =>
 some t30
def iA:FL:=(248,⟨[.val true pd false],[.val false pL (some true)],λa=>dP a⟩)::iz
theorem mc:Gd iA:=oX mb 248 Tryz.f248 [] Tryz.func248
def cN (e0:oT) (tag1:Int) (mac2:Int):Option Bool :=
 cond (e0.1 != tag1) (some (decide (e0.1<tag1))) (some (decide (e0.2.1<mac2)))
def iB:FL:=(249,⟨[.val true pd false,.val false oR false,.val false oR false],[.val false pL (some true)],λa=>cN a.1 a.2.1 a.2.2⟩)::iA
theorem md:Gd iB:=oX mc 249 Tryz.f249 [] Tryz.func249
def f9 (l0:List oT) (i3:Int):Option (Int⊕(Unit⊕Bool)) :=
 cond (decide (i3<(l0.length:Int)))
 ((at? l0 i3).bind λx12 =>
 (dP x12).bind λt14 =>
 (cond (!t14)
 (some true)
 ((cond (decide (i3>0))
 ((at? l0 (oL (i3-1))).bind λx23 =>
 (at? l0 i3).bind λx27 =>
 (at? l0 i3).bind λx32 =>
 (cN x23 x27.1 x32.2.1).bind λt35 =>
 some (!t35))
 (some false)).bind λt37 =>
 some t37)).bind λt38 =>
 cond t38 (some (.inr (.inr false))) (some (.inl (oL (i3+1)))))
 (some (.inr (.inl ())))
def dQ (l0:List oT):Option Bool :=
 (loop (λz=>f9 l0 z) 0).bind (Sum.elim (λd =>
 let t2:=decide ((l0.length:Int)<=12)
 some t2) (λr=>some r))
def iC:FL:=(148,⟨[.val false (.one (.sl pd)) false],[.val false pL (some true)],λa=>dQ a⟩)::iB
theorem me:Gd iC:=oX md 148 Tryz.f148 [(0,⟨⟨(3,false,[dI])::us 17 21 [],[]⟩,
 ⟨[],[]⟩,some ⟨[(2,false,[dB])],[]⟩⟩)] Tryz.func148
def mf (v0:pU) (id1:Int) (i5:Int):Option (Int⊕(Unit⊕Int)) :=
 cond (decide (i5<(v0.1.length:Int)))
 ((at? v0.1 i5).bind λx16 =>
 cond (x16.1==id1) (some (.inr (.inr i5))) (some (.inl (oL (i5+1)))))
 (some (.inr (.inl ())))
def bq (v0:pU) (id1:Int):Option Int :=
 (loop (λz=>mf v0 id1 z) 0).bind (Sum.elim (λd =>
 some (-1)) (λr=>some r))
def iD:FL:=(250,⟨[.val true qO false,.val false oR false],[.val false oR (some true)],λa=>bq a.1 a.2⟩)::iC
theorem mg:Gd iD:=oX me 250 Tryz.f250 [(0,⟨⟨[(5,false,[dI])],[]⟩,
 ⟨[],[]⟩,some ⟨[(4,false,[dI])],[]⟩⟩)] Tryz.func250
def fa (p0:pU) (t27:Int) (t6:Int):Option (Int⊕(Unit⊕Bool)) :=
 cond (decide (t6<(p0.1.length:Int)))
 ((at? p0.1 t6).bind λx39 =>
 (ac x39.1 1 99).bind λt43 =>
 (cond (!t43)
 (some true)
 ((ac x39.2.1 0 (oL (t27-1))).bind λt49 =>
 some (!t49))).bind λt51 =>
 (cond t51
 (some true)
 ((ac x39.2.2 0 (oL (t27-1))).bind λt56 =>
 some (!t56))).bind λt58 =>
 (cond t58 (some true) (some ((tO .i64 x39.2.2 x39.2.1) != x39.2.2))).bind λt68 =>
 (cond t68
 (some true)
 ((cond (decide (t6>0))
 ((at? p0.1 (oL (t6-1))).bind λx77 =>
 some (decide (x77.1>=x39.1)))
 (some false)).bind λt83 =>
 some t83)).bind λt84 =>
 cond t84 (some (.inr (.inr false))) (some (.inl (oL (t6+1)))))
 (some (.inr (.inl ())))
def iE (p0:pU) (t8:Int):Option (Int⊕(Unit⊕Bool)) :=
 cond (decide (t8<(p0.2.length:Int)))
 ((at? p0.2 t8).bind λx96 =>
 (bq p0 x96).bind λt98 =>
 cond (decide (t98<0)) (some (.inr (.inr false))) (some (.inl (oL (t8+1)))))
 (some (.inr (.inl ())))
def ca (p0:pU) (i1:Int):Option Bool :=
 (ac i1 1 6).bind λt10 =>
 (cond (!t10) (some true) (some ((p0.2.length:Int) != i1))).bind λt18 =>
 (cond t18 (some true) (some (decide ((p0.1.length:Int)>6)))).bind λt24 =>
 cond t24
 (some false)
 ((shl .i64 1 (IntKind.u64.wrap (i1))).bind λt27 =>
 (loop (λz=>fa p0 t27 z) 0).bind (Sum.elim (λd =>
 (loop (λz=>iE p0 z) 0).bind (Sum.elim (λd_1 =>
 some true) (λr=>some r))) (λr_1=>some r_1)))
def iF:FL:=(149,⟨[.val true qO false,.val false oR false],[.val false pL (some true)],λa=>ca a.1 a.2⟩)::iD
theorem mh:Gd iF:=oX mg 149 Tryz.f149 [(0,⟨⟨(6,false,[dI])::us 46 5 (us 53 5 (us 60 8 (us 70 14 []))),[]⟩,
 ⟨[],[]⟩,some ⟨[(4,false,[dB])],[]⟩⟩),
 (2,⟨⟨[(8,false,[dI])],[]⟩,
 ⟨[],[]⟩,some ⟨[(4,false,[dB])],[]⟩⟩)] Tryz.func149
def dR (b0:oI):Option Bool :=
 (ac b0.2.2.2.2.2.2.1 0 1000000).bind λt5 =>
 (cond t5
 ((ac b0.2.2.2.2.2.2.2.1 0 1000000).bind λt9 =>
 some t9)
 (some false)).bind λt10 =>
 (cond t10
 ((ac b0.2.2.2.2.2.2.2.2.1 0 1000000).bind λt14 =>
 some t14)
 (some false)).bind λt15 =>
 (cond t15
 ((ac b0.2.2.2.2.2.2.2.2.2.1 0 1000000).bind λt19 =>
 some t19)
 (some false)).bind λt20 =>
 (cond t20
 ((ac b0.2.2.2.2.2.2.2.2.2.2 0 1000000).bind λt24 =>
 some t24)
 (some false)).bind λt25 =>
 some t25
def iG:FL:=(150,⟨[.val true p4 false],[.val false pL (some true)],λa=>dR a⟩)::iF
theorem mi:Gd iG:=oX mh 150 Tryz.f150 [] Tryz.func150
def fb (b0:oI) (i3:Int):Option (Int⊕(Unit⊕Bool)) :=
 cond (decide (i3<(b0.2.2.1.length:Int)))
 ((at? b0.2.2.1 i3).bind λx14 =>
 (cM x14).bind λt16 =>
 cond (!t16) (some (.inr (.inr false))) (some (.inl (oL (i3+1)))))
 (some (.inr (.inl ())))
def cb (b0:oI):Option Bool :=
 (loop (λz=>fb b0 z) 0).bind (Sum.elim (λd =>
 (ac b0.1 1 99).bind λt20 =>
 (cond t20 (some (decide ((b0.2.1.length:Int)<=10))) (some false)).bind λt26 =>
 (cond t26
 ((ac (b0.2.2.1.length:Int) 1 6).bind λt31 =>
 some t31)
 (some false)).bind λt32 =>
 (cond t32
 ((dQ b0.2.2.2.1).bind λt36 =>
 some t36)
 (some false)).bind λt37 =>
 (cond t37
 ((ca (b0.2.2.2.2.1,b0.2.2.2.2.2.1) (b0.2.2.1.length:Int)).bind λt44 =>
 some t44)
 (some false)).bind λt45 =>
 (cond t45
 ((dR b0).bind λt48 =>
 some t48)
 (some false)).bind λt49 =>
 some t49) (λr=>some r))
def iH:FL:=(64,⟨[.val true p4 false],[.val false pL (some true)],λa=>cb a⟩)::iG
theorem mj:Gd iH:=oX mi 64 Tryz.f64 [(0,⟨⟨[(3,false,[dI])],[]⟩,
 ⟨[],[]⟩,some ⟨[(2,false,[dB])],[]⟩⟩)] Tryz.func64
def aK (n0:Int):Option Int :=
 cond (decide (n0>2147483647))
 (some 2147483647)
 (cond (decide (n0<(-2147483648))) (some (-2147483648)) (some n0))
def iI:FL:=(198,⟨[.val false oR false],[.val false oR (some true)],λa=>aK a⟩)::iH
theorem ml:Gd iI:=oX mj 198 Tryz.f198 [] Tryz.func198
def mn (o0:List Int) (i3:Int):Option (Int⊕(Unit⊕Bool)) :=
 cond (decide (i3<(o0.length:Int)))
 ((at? o0 i3).bind λx12 =>
 (ac x12 0 100000).bind λt14 =>
 cond (!t14) (some (.inr (.inr false))) (some (.inl (oL (i3+1)))))
 (some (.inr (.inl ())))
def bb (o0:List Int):Option Bool :=
 (loop (λz=>mn o0 z) 0).bind (Sum.elim (λd =>
 (ac (o0.length:Int) 1 10).bind λt18 =>
 some t18) (λr=>some r))
def iJ:FL:=(286,⟨[.val false qu false],[.val false pL (some true)],λa=>bb a⟩)::iI
theorem mo:Gd iJ:=oX ml 286 Tryz.f286 [(0,⟨⟨[(3,false,[dI])],[]⟩,
 ⟨[],[]⟩,some ⟨[(2,false,[dB])],[]⟩⟩)] Tryz.func286
def cc (p0:rk):Option Bool :=
 cond (p0.1==5)
 (cond (p0.1==5)
 ((cond (p0.2.1==0) (some (p0.2.2.1==[])) (some false)).bind λt16 =>
 (cond t16 (some ((p0.2.2.2.length:Int)==0)) (some false)).bind λt22 =>
 some t22)
 (cond (p0.1==2)
 ((aK p0.2.1).bind λt27 =>
 (cond (t27==p0.2.1) (some (p0.2.2.1==[])) (some false)).bind λt35 =>
 (cond t35 (some ((p0.2.2.2.length:Int)==0)) (some false)).bind λt41 =>
 some t41)
 (cond (p0.1==4)
 ((cond (decide ((p0.2.2.1.length:Int)<=20)) (some (p0.2.1==0)) (some false)).bind λt52 =>
 (cond t52 (some ((p0.2.2.2.length:Int)==0)) (some false)).bind λt58 =>
 some t58)
 (cond (p0.1==6)
 ((bb p0.2.2.2).bind λt63 =>
 (cond t63 (some (p0.2.1==0)) (some false)).bind λt68 =>
 (cond t68 (some (p0.2.2.1==[])) (some false)).bind λt73 =>
 some t73)
 (some false)))))
 (cond (p0.1==128)
 (cond (p0.1==128)
 ((cond (p0.2.1==0) (some (p0.2.2.1==[])) (some false)).bind λt16_1 =>
 (cond t16_1 (some ((p0.2.2.2.length:Int)==0)) (some false)).bind λt22_1 =>
 some t22_1)
 (cond (p0.1==2)
 ((aK p0.2.1).bind λt27_1 =>
 (cond (t27_1==p0.2.1) (some (p0.2.2.1==[])) (some false)).bind λt35_1 =>
 (cond t35_1 (some ((p0.2.2.2.length:Int)==0)) (some false)).bind λt41_1 =>
 some t41_1)
 (cond (p0.1==4)
 ((cond (decide ((p0.2.2.1.length:Int)<=20)) (some (p0.2.1==0)) (some false)).bind λt52_1 =>
 (cond t52_1 (some ((p0.2.2.2.length:Int)==0)) (some false)).bind λt58_1 =>
 some t58_1)
 (cond (p0.1==6)
 ((bb p0.2.2.2).bind λt63_1 =>
 (cond t63_1 (some (p0.2.1==0)) (some false)).bind λt68_1 =>
 (cond t68_1 (some (p0.2.2.1==[])) (some false)).bind λt73_1 =>
 some t73_1)
 (some false)))))
 (cond (p0.1==130)
 ((cond (p0.2.1==0) (some (p0.2.2.1==[])) (some false)).bind λt16_2 =>
 (cond t16_2 (some ((p0.2.2.2.length:Int)==0)) (some false)).bind λt22_2 =>
 some t22_2)
 (cond (p0.1==2)
 ((aK p0.2.1).bind λt27_2 =>
 (cond (t27_2==p0.2.1) (some (p0.2.2.1==[])) (some false)).bind λt35_2 =>
 (cond t35_2 (some ((p0.2.2.2.length:Int)==0)) (some false)).bind λt41_2 =>
 some t41_2)
 (cond (p0.1==4)
 ((cond (decide ((p0.2.2.1.length:Int)<=20)) (some (p0.2.1==0)) (some false)).bind λt52_2 =>
 (cond t52_2 (some ((p0.2.2.2.length:Int)==0)) (some false)).bind λt58_2 =>
 some t58_2)
 (cond (p0.1==6)
 ((bb p0.2.2.2).bind λt63_2 =>
 (cond t63_2 (some (p0.2.1==0)) (some false)).bind λt68_2 =>
 (cond t68_2 (some (p0.2.2.1==[])) (some false)).bind λt73_2 =>
 some t73_2)
 (some false))))))
def iK:FL:=(287,⟨[.val true sv false],[.val false pL (some true)],λa=>cc a⟩)::iJ
theorem mp:Gd iK:=oX mo 287 Tryz.f287 [] Tryz.func287
def fe (k0:Int):Option Bool :=
 (cond (k0==160) (some true) (some (k0==161))).bind λt8 =>
 (cond t8 (some true) (some (k0==162))).bind λt12 =>
 (cond t12 (some true) (some (k0==163))).bind λt16 =>
 (cond t16 (some true) (some (k0==165))).bind λt20 =>
 some t20
def iL:FL:=(288,⟨[.val false oR false],[.val false pL (some true)],λa=>fe a⟩)::iK
theorem mq:Gd iL:=oX mp 288 Tryz.f288 [] Tryz.func288
def dU (p0:ph) (t3:Int):Option (Int⊕(Unit⊕Bool)) :=
 cond (decide (t3<(p0.2.2.2.2.length:Int)))
 ((at? p0.2.2.2.2 t3).bind λx14 =>
 (bb x14.1).bind λt17 =>
 (cond (!t17)
 (some true)
 ((at? p0.2.2.2.2 t3).bind λx23 =>
 (cc x23.2).bind λt26 =>
 some (!t26))).bind λt28 =>
 cond t28 (some (.inr (.inr false))) (some (.inl (oL (t3+1)))))
 (some (.inr (.inl ())))
def cO (p0:ph):Option Bool :=
 (loop (λz=>dU p0 z) 0).bind (Sum.elim (λd =>
 (cond (p0.1 != 162) (some (p0.1 != 165)) (some false)).bind λt36 =>
 (cond t36
 ((cond (p0.2.2.1 != 0) (some true) (some (p0.2.2.2.1 != 0))).bind λt45 =>
 some t45)
 (some false)).bind λt46 =>
 cond t46
 (some false)
 ((fe p0.1).bind λt49 =>
 (cond t49
 ((aK p0.2.1).bind λt53 =>
 some (t53==p0.2.1))
 (some false)).bind λt57 =>
 (cond t57
 ((ac p0.2.2.1 0 1000).bind λt61 =>
 some t61)
 (some false)).bind λt62 =>
 (cond t62
 ((ac p0.2.2.2.1 0 1000).bind λt66 =>
 some t66)
 (some false)).bind λt67 =>
 (cond t67 (some (decide ((p0.2.2.2.2.length:Int)<=10))) (some false)).bind λt73 =>
 some t73)) (λr=>some r))
def iM:FL:=(174,⟨[.val true qx false],[.val false pL (some true)],λa=>cO a⟩)::iL
theorem mr:Gd iM:=oX mq 174 Tryz.f174 [(0,⟨⟨(3,false,[dI])::us 20 8 [],[]⟩,
 ⟨[],[]⟩,some ⟨[(2,false,[dB])],[]⟩⟩)] Tryz.func174
def ff (b0:oI) (p1:ph):Option Bool :=
 (cb b0).bind λt6 =>
 (cond t6
 ((cO p1).bind λt9 =>
 some t9)
 (some false)).bind λt10 =>
 (cond t10 (some (p1.1 != 162)) (some false)).bind λt15 =>
 some t15
def iN:FL:=(82,⟨[.val true p4 false,.val true qx false],[.val false pL (some true)],λa=>ff a.1 a.2⟩)::iM
theorem mt:Gd iN:=oX mr 82 Tryz.f82 [] Tryz.func82
def dV (l0:List oT):Option (List oT) :=
 (pw ([]:List oT) l0).bind λzs5 =>
 some zs5
def iO:FL:=(175,⟨[.val false (.one (.sl pd)) false],[.val false (.one (.sl pd)) (some true)],λa=>dV a⟩)::iN
theorem mu:Gd iO:=oX mt 175 Tryz.f175 [] Tryz.func175
def dW (v0:pU):Option pU :=
 (pw ([]:List oZ) v0.1).bind λzs6 =>
 (pw ([]:List Int) v0.2).bind λzs10 =>
 some (zs6,zs10)
def iP:FL:=(176,⟨[.val true qO false],[.val true qO (some true)],λa=>dW a⟩)::iO
theorem mw:Gd iP:=oX mu 176 Tryz.f176 [] Tryz.func176
def az (b0:oI):Option oI :=
 (pw ([]:List Pt) b0.2.2.1).bind λzs8 =>
 (dV b0.2.2.2.1).bind λt12 =>
 (dW (b0.2.2.2.2.1,b0.2.2.2.2.2.1)).bind λt16 =>
 some (b0.1,b0.2.1,zs8,t12,t16.1,t16.2,b0.2.2.2.2.2.2.1,b0.2.2.2.2.2.2.2.1,b0.2.2.2.2.2.2.2.2.1,b0.2.2.2.2.2.2.2.2.2.1,b0.2.2.2.2.2.2.2.2.2.2)
def iQ:FL:=(83,⟨[.val true p4 false],[.val true p4 (some true)],λa=>az a⟩)::iP
theorem my:Gd iQ:=oX mw 83 Tryz.f83 [] Tryz.func83
def ak (b0:List Int) (tag1:Int) (body2:List Int):Option (List Int) :=
 (pw ([]:List Int) b0).bind λzs10 =>
 (ac tag1 0 255).bind λt12 =>
 (cond (!t12) (some true) (some (decide ((body2.length:Int)>250)))).bind λt18 =>
 cond t18
 (some zs10)
 ((pw zs10 [IntKind.u8.wrap (tag1)]).bind λzs24 =>
 cond (decide ((body2.length:Int)>127))
 ((pw zs24 ([129]:List Int)).bind λzs30 =>
 (pw zs30 [IntKind.u8.wrap ((body2.length:Int))]).bind λzs36 =>
 (pw zs36 body2).bind λzs38 =>
 some zs38)
 ((pw zs24 [IntKind.u8.wrap ((body2.length:Int))]).bind λzs36_1 =>
 (pw zs36_1 body2).bind λzs38_1 =>
 some zs38_1))
def iR:FL:=(201,⟨[.val false sf false,.val false oR false,.val false sf false],[.val false sf (some true)],λa=>ak a.1 a.2.1 a.2.2⟩)::iQ
theorem mz:Gd iR:=oX my 201 Tryz.f201 [] Tryz.func201
def bc (n0_1:Int) (out3:List Int):Option ((Int×List Int)⊕(List Int)) :=
 (cond (decide (n0_1<(-128))) (some true) (some (decide (n0_1>127)))).bind λt14 =>
 cond t14
 ((pw [IntKind.u8.wrap (n0_1.fdiv (2^8))] out3).bind λzs21 =>
 some (.inl (n0_1.fdiv (2^8),zs21)))
 (some (.inr out3))
def br (n0:Int):Option (List Int) :=
 (aK n0).bind λt5 =>
 (loop (λz=>bc z.1 z.2) (t5,[IntKind.u8.wrap (t5)])).bind λd =>
 some d
def iS:FL:=(300,⟨[.val false oR false],[.val false sf (some true)],λa=>br a⟩)::iR
theorem mC:Gd iS:=oX mz 300 Tryz.f300 [(0,⟨⟨[(0,false,[dI]),(3,false,[.own 1000000000]),(12,false,[.undef]),(13,false,[.undef])],[(1000000000,.root (.one (.int .u8)) true)]⟩,
 ⟨[(3,false,[.own 1000000300])],[(1000000300,.root (.one (.int .u8)) true)]⟩,none⟩)] Tryz.func300
def bd (n0_1:Int) (out3:List Int):Option ((Int×List Int)⊕(List Int)) :=
 cond (decide (n0_1>127))
 ((pw [IntKind.u8.wrap (B8 .i64 (tO .i64 (n0_1.fdiv (2^7)) 127) 128)] out3).bind λzs18 =>
 some (.inl (n0_1.fdiv (2^7),zs18)))
 (some (.inr out3))
def dX (n0:Int):Option (List Int) :=
 (loop (λz=>bd z.1 z.2) (n0,[IntKind.u8.wrap (tO .i64 n0 127)])).bind λd =>
 some d
def iT:FL:=(365,⟨[.val false oR false],[.val false sf (some true)],λa=>dX a⟩)::iS
theorem mD:Gd iT:=oX mC 365 Tryz.f365 [(0,⟨⟨[(0,false,[dI]),(3,false,[.own 1000000000])],[(1000000000,.root (.one (.int .u8)) true)]⟩,
 ⟨[(3,false,[.own 1000000300])],[(1000000300,.root (.one (.int .u8)) true)]⟩,none⟩)] Tryz.func365
def bt (o0:List Int) (i4:Int) (b3:List Int):Option ((Int×List Int)⊕(List Int)) :=
 cond (decide (i4<(o0.length:Int)))
 ((at? o0 i4).bind λx19 =>
 (dX x19).bind λt21 =>
 (pw b3 t21).bind λzs22 =>
 some (.inl (oL (i4+1),zs22)))
 (some (.inr b3))
def cP (o0:List Int):Option (List Int) :=
 (bb o0).bind λt7 =>
 cond (!t7)
 (some ([]:List Int))
 ((loop (λz=>bt o0 z.1 z.2) (0,([]:List Int))).bind λd =>
 some d)
def iU:FL:=(348,⟨[.val false qu false],[.val false sf (some true)],λa=>cP a⟩)::iT
theorem mE:Gd iU:=oX mD 348 Tryz.f348 [(0,⟨⟨[(3,false,[.own 1000000000]),(4,false,[dI])],[(1000000000,.root (.one (.int .u8)) true)]⟩,
 ⟨[(3,false,[.own 1000000300])],[(1000000300,.root (.one (.int .u8)) true)]⟩,none⟩)] Tryz.func348
def dY (b0:List Int) (v1:rk):Option (List Int) :=
 (cc v1).bind λt7 =>
 cond (!t7)
 ((pw ([]:List Int) b0).bind λzs11 =>
 some zs11)
 (cond (v1.1==2)
 ((br v1.2.1).bind λt19 =>
 (ak b0 v1.1 t19).bind λt34 =>
 some t34)
 (cond (v1.1==4)
 ((ak b0 v1.1 (tv v1.2.2.1)).bind λt34_1 =>
 some t34_1)
 (cond (v1.1==6)
 ((cP v1.2.2.2).bind λt29 =>
 (ak b0 v1.1 t29).bind λt34_2 =>
 some t34_2)
 ((ak b0 v1.1 ([]:List Int)).bind λt34_3 =>
 some t34_3))))
def iV:FL:=(347,⟨[.val false sf false,.val true sv false],[.val false sf (some true)],λa=>dY a.1 a.2⟩)::iU
theorem mF:Gd iV:=oX mE 347 Tryz.f347 [] Tryz.func347
def bu (l0:List oK) (i4:Int) (b3:List Int):Option ((Int×List Int)⊕(List Int)) :=
 cond (decide (i4<(l0.length:Int)))
 ((at? l0 i4).bind λx16 =>
 (cP x16.1).bind λt19 =>
 (ak ([]:List Int) 6 t19).bind λt20 =>
 (at? l0 i4).bind λx23 =>
 (dY t20 x23.2).bind λt26 =>
 (ak b3 48 t26).bind λt29 =>
 some (.inl (oL (i4+1),t29)))
 (some (.inr b3))
def dZ (l0:List oK):Option (List Int) :=
 (loop (λz=>bu l0 z.1 z.2) (0,([]:List Int))).bind λd =>
 some d
def iW:FL:=(299,⟨[.val false (.one (.sl oV)) false],[.val false sf (some true)],λa=>dZ a⟩)::iV
theorem mG:Gd iW:=oX mF 299 Tryz.f299 [(0,⟨⟨[(3,false,[.own 1000000000]),(4,false,[dI])],[(1000000000,.root (.one (.int .u8)) true)]⟩,
 ⟨[(3,false,[.own 1000000300])],[(1000000300,.root (.one (.int .u8)) true)]⟩,none⟩)] Tryz.func299
def fg (p0:ph):Option ((List Int)×Bool) :=
 (dZ p0.2.2.2.2).bind λt8 =>
 cond (decide ((t8.length:Int)>250))
 (some (([]:List Int),false))
 ((br p0.2.1).bind λt16 =>
 (ak ([]:List Int) 2 t16).bind λt17 =>
 (br p0.2.2.1).bind λt20 =>
 (ak t17 2 t20).bind λt21 =>
 (br p0.2.2.2.1).bind λt24 =>
 (ak t21 2 t24).bind λt25 =>
 (ak t25 48 t8).bind λt28 =>
 let t3:=decide ((t28.length:Int)<=250)
 some (t28,t3))
def iX:FL:=(200,⟨[.val true qx false],[.val false sf (some true),.val false pL (some true)],λa=>fg a⟩)::iW
theorem mH:Gd iX:=oX mG 200 Tryz.f200 [] Tryz.func200
def e9 (p0:ph):Option (List Int) :=
 (cO p0).bind λt6 =>
 cond (!t6)
 (some ([]:List Int))
 ((fg p0).bind λt11 =>
 cond (!t11.2)
 (some ([]:List Int))
 ((ak ([]:List Int) p0.1 t11.1).bind λt21 =>
 some t21))
def iY:FL:=(104,⟨[.val true qx false],[.val false sf (some true)],λa=>e9 a⟩)::iX
theorem mI:Gd iY:=oX mH 104 Tryz.f104 [] Tryz.func104
def ce (p0:ph):Option Bool :=
 (e9 p0).bind λt4 =>
 (ac (t4.length:Int) 1 120).bind λt6 =>
 some t6
def iZ:FL:=(25,⟨[.val true qx false],[.val false pL (some true)],λa=>ce a⟩)::iY
theorem mJ:Gd iZ:=oX mI 25 Tryz.f25 [] Tryz.func25
def cf (l0:List oK) (i4:Int) (out3:List oK):Option ((Int×List oK)⊕(List oK)) :=
 cond (decide (i4<(l0.length:Int)))
 ((at? l0 i4).bind λx15 =>
 (pw ([]:List Int) x15.2.2.2.2).bind λzs21 =>
 (at? l0 i4).bind λx27 =>
 (pw ([]:List Int) x27.1).bind λzs30 =>
 (pw out3 [(zs30,x15.2.1,x15.2.2.1,x15.2.2.2.1,zs21)]).bind λzs34 =>
 some (.inl (oL (i4+1),zs34)))
 (some (.inr out3))
def cQ (l0:List oK):Option (List oK) :=
 (loop (λz=>cf l0 z.1 z.2) (0,([]:List oK))).bind λd =>
 some d
def ja:FL:=(85,⟨[.val false (.one (.sl oV)) false],[.val false (.one (.sl oV)) (some true)],λa=>cQ a⟩)::iZ
theorem mK:Gd ja:=oX mJ 85 Tryz.f85 [(0,⟨⟨[(3,false,[.own 1000000000]),(4,false,[dI])],[(1000000000,.root oV true)]⟩,
 ⟨[(3,false,[.own 1000000300])],[(1000000300,.root oV true)]⟩,none⟩)] Tryz.func85
def bf (bulk1:Bool) (b0:Int) (b1:Int) (b2:Int) (b3:Int) (b4:List oK):Option ((Int×Int×Int×Int×List oK)⊕(Int×Int×Int×Int×List oK)) :=
 (cond bulk1
 ((ce (b0,b1,b2,b3,b4)).bind λt8 =>
 some (!t8))
 (some false)).bind λt10 =>
 (cond t10 (some (decide ((b4.length:Int)>0))) (some false)).bind λt16 =>
 cond t16
 ((rf b4.length 0 (oL ((b4.length:Int)-1))).bind λp =>
 some (.inl (b0,b1,b2,b3,(b4.take p.2).drop p.1)))
 (some (.inr (b0,b1,b2,b3,b4)))
def cg (p0:ph) (bulk1:Bool):Option ph :=
 (loop (λz=>bf bulk1 z.1 z.2.1 z.2.2.1 z.2.2.2.1 z.2.2.2.2) p0).bind λd =>
 (ce d).bind λt26 =>
 cond t26 (some d) (some (162,d.2.1,7,0,[]))
def jb:FL:=(87,⟨[.val true qx true,.val false pL false],[.val true qx (some true)],λa=>cg a.1 a.2⟩)::ja
theorem mL:Gd jb:=oX mK 87 Tryz.f87 [(0,⟨⟨us 7 3 (us 12 4 []),[(1024,.box [dI,dI,dI,dI,.own 1000000000]),(1000000000,.root oV true)]⟩,
 ⟨[],[(1024,.box [dI,dI,dI,dI,.own 1000000300]),(1000000300,.root oV true)]⟩,none⟩)] Tryz.func87
def mM (a0:List Int) (b1:List Int) (i5:Int):Option (Int⊕(Unit⊕Bool)) :=
 cond (decide (i5<(a0.length:Int)))
 ((at? a0 i5).bind λx19 =>
 (at? b1 i5).bind λx23 =>
 cond (x19 != x23) (some (.inr (.inr false))) (some (.inl (oL (i5+1)))))
 (some (.inr (.inl ())))
def bv (a0:List Int) (b1:List Int):Option Bool :=
 cond ((a0.length:Int) != (b1.length:Int))
 (some false)
 ((loop (λz=>mM a0 b1 z) 0).bind (Sum.elim (λd =>
 some true) (λr=>some r)))
def jc:FL:=(289,⟨[.val false qu false,.val false qu false],[.val false pL (some true)],λa=>bv a.1 a.2⟩)::jb
theorem mN:Gd jc:=oX mL 289 Tryz.f289 [(0,⟨⟨[(5,false,[dI])],[]⟩,
 ⟨[],[]⟩,some ⟨[(4,false,[dB])],[]⟩⟩)] Tryz.func289
def fh (o0:List Int) (head1:List Int):Option Bool :=
 (cond (decide ((o0.length:Int)>(head1.length:Int)))
 ((cut o0 0 (head1.length:Int)).bind λt14 =>
 (bv t14 head1).bind λt16 =>
 some t16)
 (some false)).bind λt17 =>
 some t17
def jd:FL:=(369,⟨[.val false qu false,.val false qu false],[.val false pL (some true)],λa=>fh a.1 a.2⟩)::jc
theorem mO:Gd jd:=oX mN 369 Tryz.f369 [] Tryz.func369
def cR (o0:List Int):Option ((List Int)×Bool) :=
 (fh o0 ([1,3,1]:List Int)).bind λt6 =>
 cond (!t6)
 (some (([]:List Int),false))
 ((cut o0 3 (o0.length:Int)).bind λt10 =>
 some (t10,true))
def je:FL:=(362,⟨[.val false qu false],[.val false qu none,.val false pL (some true)],λa=>cR a⟩)::jd
theorem mP:Gd je:=oX mO 362 Tryz.f362 [] Tryz.func362
def ea (p0:oI) (i1:List Int):Option Bool :=
 (cR i1).bind λt9 =>
 cond (!t9.2)
 (some false)
 (cond ((t9.1.length:Int)==2)
 ((at? t9.1 0).bind λx18 =>
 (cond (x18==1)
 ((at? t9.1 1).bind λx23 =>
 some (x23==1))
 (some false)).bind λt26 =>
 some t26)
 (cond ((t9.1.length:Int) != 3)
 (some false)
 ((at? t9.1 0).bind λx31 =>
 cond (x31==2)
 ((at? t9.1 1).bind λx36 =>
 (cond (x36==2)
 (some true)
 ((at? t9.1 1).bind λx41 =>
 some (x41==4))).bind λt44 =>
 (cond t44
 ((at? t9.1 2).bind λx47 =>
 (ac x47 1 (p0.2.2.1.length:Int)).bind λt52 =>
 some t52)
 (some false)).bind λt53 =>
 some t53)
 (cond (x31==3)
 ((at? t9.1 1).bind λx57 =>
 (cond (x57==1)
 ((at? t9.1 2).bind λx62 =>
 (ac x62 1 99).bind λt64 =>
 some t64)
 (some false)).bind λt65 =>
 (cond t65
 (some true)
 ((at? t9.1 1).bind λx68 =>
 (cond (x68==2)
 (some true)
 ((at? t9.1 1).bind λx73 =>
 some (x73==3))).bind λt76 =>
 (cond t76
 ((at? t9.1 2).bind λx81 =>
 (bq (p0.2.2.2.2.1,p0.2.2.2.2.2.1) x81).bind λt83 =>
 some (decide (t83>=0)))
 (some false)).bind λt85 =>
 some t85)).bind λt86 =>
 some t86)
 (some false)))))
def jf:FL:=(338,⟨[.val true p4 false,.val false qu false],[.val false pL (some true)],λa=>ea a.1 a.2⟩)::je
theorem mQ:Gd jf:=oX mP 338 Tryz.f338 [] Tryz.func338
def bw (l0:List oT) (tag1:Int) (mac2:Int) (i7:Int):Option (Int⊕(Unit⊕Int)) :=
 cond (decide (i7<(l0.length:Int)))
 ((at? l0 i7).bind λx16 =>
 (cond (x16.1==tag1)
 ((at? l0 i7).bind λx24 =>
 some (x24.2.1==mac2))
 (some false)).bind λt29 =>
 cond t29 (some (.inr (.inr i7))) (some (.inl (oL (i7+1)))))
 (some (.inr (.inl ())))
def ed (l0:List oT) (tag1:Int) (mac2:Int):Option Int :=
 (loop (λz=>bw l0 tag1 mac2 z) 0).bind (Sum.elim (λd =>
 some (-1)) (λr=>some r))
def jg:FL:=(270,⟨[.val false (.one (.sl pd)) false,.val false oR false,.val false oR false],[.val false oR (some true)],λa=>ed a.1 a.2.1 a.2.2⟩)::jf
theorem mR:Gd jg:=oX mQ 270 Tryz.f270 [(0,⟨⟨(7,false,[dI])::us 22 7 [],[]⟩,
 ⟨[],[]⟩,some ⟨[(6,false,[dI])],[]⟩⟩)] Tryz.func270
def ee (p0:oI) (i1:List Int):Option Bool :=
 (cR i1).bind λt9 =>
 cond (!t9.2)
 (some false)
 (cond ((t9.1.length:Int)==2)
 ((at? t9.1 0).bind λx19 =>
 (cond (x19==1)
 ((at? t9.1 1).bind λx24 =>
 (ac x24 2 5).bind λt26 =>
 some t26)
 (some false)).bind λt27 =>
 some t27)
 (cond ((t9.1.length:Int)==3)
 ((at? t9.1 0).bind λx31 =>
 (cond (x31==2)
 ((at? t9.1 1).bind λx36 =>
 (cond (x36==1)
 (some true)
 ((at? t9.1 1).bind λx41 =>
 some (x41==3))).bind λt44 =>
 some t44)
 (some false)).bind λt45 =>
 (cond t45
 ((at? t9.1 2).bind λx48 =>
 (ac x48 1 (p0.2.2.1.length:Int)).bind λt53 =>
 some t53)
 (some false)).bind λt54 =>
 some t54)
 (cond ((t9.1.length:Int)==4)
 ((at? t9.1 0).bind λx58 =>
 (cond (x58==4)
 ((at? t9.1 1).bind λx63 =>
 some (x63==1))
 (some false)).bind λt66 =>
 (cond t66
 ((at? t9.1 2).bind λx71 =>
 (at? t9.1 3).bind λx74 =>
 (ed p0.2.2.2.1 x71 x74).bind λt76 =>
 some (decide (t76>=0)))
 (some false)).bind λt78 =>
 some t78)
 (some false))))
def jh:FL:=(339,⟨[.val true p4 false,.val false qu false],[.val false pL (some true)],λa=>ee a.1 a.2⟩)::jg
theorem mS:Gd jh:=oX mR 339 Tryz.f339 [] Tryz.func339
def fi (b0:oI) (c1:Int) (p2:Int) (n3:Int):Option (oI×Int) :=
 cond (c1==2)
 ((ac n3 1 1000).bind λt13 =>
 cond (!t13)
 (some (b0,2))
 ((ix b0.2.2.1.length p2).bind λj20 =>
 (b0.2.2.1[j20]?).bind λx =>
 some ((b0.1,b0.2.1,b0.2.2.1.set j20 (x.1,n3,x.2.2.1,x.2.2.2.1,x.2.2.2.2.1,x.2.2.2.2.2.1,x.2.2.2.2.2.2.1,x.2.2.2.2.2.2.2),b0.2.2.2.1,b0.2.2.2.2.1,b0.2.2.2.2.2.1,b0.2.2.2.2.2.2.1,b0.2.2.2.2.2.2.2.1,b0.2.2.2.2.2.2.2.2.1,b0.2.2.2.2.2.2.2.2.2.1,b0.2.2.2.2.2.2.2.2.2.2),0)))
 ((ix b0.2.2.2.2.2.1.length p2).bind λj28 =>
 (b0.2.2.2.2.2.1[j28]?).bind λx_1 =>
 some ((b0.1,b0.2.1,b0.2.2.1,b0.2.2.2.1,b0.2.2.2.2.1,b0.2.2.2.2.2.1.set j28 n3,b0.2.2.2.2.2.2.1,b0.2.2.2.2.2.2.2.1,b0.2.2.2.2.2.2.2.2.1,b0.2.2.2.2.2.2.2.2.2.1,b0.2.2.2.2.2.2.2.2.2.2),0))
def ji:FL:=(340,⟨[.val true p4 true,.val false oR false,.val false oR false,.val false oR false],[.val true p4 (some true),.val false oR (some true)],λa=>fi a.1 a.2.1 a.2.2.1 a.2.2.2⟩)::jh
theorem mT:Gd ji:=oX mS 340 Tryz.f340 [] Tryz.func340
def ef (p0:pU) (i1:oZ) (t6:Bool) (t7:Int) (b0:List oZ):Option ((Bool×Int×List oZ)⊕(Bool×List oZ)) :=
 cond (decide (t7<(p0.1.length:Int)))
 ((cond (!t6)
 ((at? p0.1 t7).bind λx26 =>
 some (decide (x26.1>=i1.1)))
 (some false)).bind λt32 =>
 cond t32
 ((pw b0 [i1]).bind λzs37 =>
 (at? p0.1 t7).bind λx42 =>
 cond (x42.1 != i1.1)
 ((at? p0.1 t7).bind λx53 =>
 (pw zs37 [x53]).bind λzs56 =>
 some (.inl (true,oL (t7+1),zs56)))
 (some (.inl (true,oL (t7+1),zs37))))
 ((at? p0.1 t7).bind λx42_1 =>
 cond (x42_1.1 != i1.1)
 ((at? p0.1 t7).bind λx53_1 =>
 (pw b0 [x53_1]).bind λzs56_1 =>
 some (.inl (t6,oL (t7+1),zs56_1)))
 (some (.inl (t6,oL (t7+1),b0)))))
 (some (.inr (t6,b0)))
def bx (p0:pU) (i1:oZ):Option pU :=
 (pw ([]:List Int) p0.2).bind λzs11 =>
 (loop (λz=>ef p0 i1 z.1 z.2.1 z.2.2) (false,0,[])).bind λd =>
 cond (!d.1)
 ((pw d.2 [i1]).bind λzs64 =>
 some (zs64,zs11))
 (some (d.2,zs11))
def jj:FL:=(298,⟨[.val true qO false,.val true pE false],[.val true qO (some true)],λa=>bx a.1 a.2⟩)::ji
theorem mU:Gd jj:=oX mT 298 Tryz.f298 [(0,⟨⟨(6,false,[dB])::(7,false,[dI])::us 23 9 [],[(268288,.box [.own 1000000000,.same 266240]),(1000000000,.root pE true)]⟩,
 ⟨[(6,false,[dB])],[(268288,.box [.own 1000000300,.same 266240]),(1000000300,.root pE true)]⟩,none⟩)] Tryz.func298
def fj (b0:oI) (id1:Int) (n2:Int):Option (oI×Int) :=
 (bq (b0.2.2.2.2.1,b0.2.2.2.2.2.1) id1).bind λt12 =>
 (cond (n2==4) (some (decide (t12<0))) (some false)).bind λt19 =>
 (cond t19 (some (decide ((b0.2.2.2.2.1.length:Int)<6))) (some false)).bind λt26 =>
 cond t26
 ((bx (b0.2.2.2.2.1,b0.2.2.2.2.2.1) (id1,0,0)).bind λt31 =>
 some ((b0.1,b0.2.1,b0.2.2.1,b0.2.2.2.1,t31.1,t31.2,b0.2.2.2.2.2.2.1,b0.2.2.2.2.2.2.2.1,b0.2.2.2.2.2.2.2.2.1,b0.2.2.2.2.2.2.2.2.2.1,b0.2.2.2.2.2.2.2.2.2.2),0))
 ((cond (n2==6) (some (decide (t12>=0))) (some false)).bind λt40 =>
 cond t40
 ((rf b0.2.2.2.2.1.length 0 t12).bind λp =>
 (pw ([]:List oZ) ((b0.2.2.2.2.1.take p.2).drop p.1)).bind λzs47 =>
 (rf b0.2.2.2.2.1.length (oL (t12+1)) (b0.2.2.2.2.1.length:Int)).bind λp_1 =>
 (pw zs47 ((b0.2.2.2.2.1.take p_1.2).drop p_1.1)).bind λzs54 =>
 some ((b0.1,b0.2.1,b0.2.2.1,b0.2.2.2.1,zs54,b0.2.2.2.2.2.1,b0.2.2.2.2.2.2.1,b0.2.2.2.2.2.2.2.1,b0.2.2.2.2.2.2.2.2.1,b0.2.2.2.2.2.2.2.2.2.1,b0.2.2.2.2.2.2.2.2.2.2),0))
 (some (b0,2)))
def jk:FL:=(363,⟨[.val true p4 true,.val false oR false,.val false oR false],[.val true p4 (some true),.val false oR (some true)],λa=>fj a.1 a.2.1 a.2.2⟩)::jj
theorem mV:Gd jk:=oX mU 363 Tryz.f363 [] Tryz.func363
def eg (b0:oI) (c1:Int) (id2:Int) (n3:Int):Option (oI×Int) :=
 cond (c1==1)
 ((fj b0 id2 n3).bind λt16 =>
 some t16)
 ((shl .i64 1 (IntKind.u64.wrap ((b0.2.2.1.length:Int)))).bind λt24 =>
 (ac n3 0 (oL (t24-1))).bind λt26 =>
 cond (!t26)
 (some (b0,2))
 ((bq (b0.2.2.2.2.1,b0.2.2.2.2.2.1) id2).bind λt35 =>
 (ix b0.2.2.2.2.1.length t35).bind λj36 =>
 (b0.2.2.2.2.1[j36]?).bind λx37 =>
 cond (c1==2)
 ((bx (b0.2.2.2.2.1,b0.2.2.2.2.2.1) (x37.1,n3,x37.2.2)).bind λt47 =>
 some ((b0.1,b0.2.1,b0.2.2.1,b0.2.2.2.1,t47.1,t47.2,b0.2.2.2.2.2.2.1,b0.2.2.2.2.2.2.2.1,b0.2.2.2.2.2.2.2.2.1,b0.2.2.2.2.2.2.2.2.2.1,b0.2.2.2.2.2.2.2.2.2.2),0))
 ((bx (b0.2.2.2.2.1,b0.2.2.2.2.2.1) (x37.1,x37.2.1,n3)).bind λt47_1 =>
 some ((b0.1,b0.2.1,b0.2.2.1,b0.2.2.2.1,t47_1.1,t47_1.2,b0.2.2.2.2.2.2.1,b0.2.2.2.2.2.2.2.1,b0.2.2.2.2.2.2.2.2.1,b0.2.2.2.2.2.2.2.2.2.1,b0.2.2.2.2.2.2.2.2.2.2),0))))
def jl:FL:=(341,⟨[.val true p4 true,.val false oR false,.val false oR false,.val false oR false],[.val true p4 (some true),.val false oR (some true)],λa=>eg a.1 a.2.1 a.2.2.1 a.2.2.2⟩)::jk
theorem mW:Gd jl:=oX mV 341 Tryz.f341 [] Tryz.func341
def cS (p0:oI) (i1:oK):Option (oI×Int) :=
 (az p0).bind λt9 =>
 (ea p0 i1.1).bind λt13 =>
 cond (!t13)
 ((ee p0 i1.1).bind λt18 =>
 cond t18 (some (t9,4)) (some (t9,3)))
 ((cut i1.1 3 (i1.1.length:Int)).bind λt23 =>
 (at? t23 0).bind λx25 =>
 cond (x25==1)
 (cond (i1.2.1 != 4)
 (some (t9,1))
 (let t34:=decide ((i1.2.2.2.1.length:Int)>10)
 cond t34
 (some (t9,2))
 (some ((t9.1,i1.2.2.2.1,t9.2.2.1,t9.2.2.2.1,t9.2.2.2.2.1,t9.2.2.2.2.2.1,t9.2.2.2.2.2.2.1,t9.2.2.2.2.2.2.2.1,t9.2.2.2.2.2.2.2.2.1,t9.2.2.2.2.2.2.2.2.2.1,t9.2.2.2.2.2.2.2.2.2.2),0))))
 (cond (i1.2.1 != 2)
 (some (t9,1))
 ((at? t23 0).bind λx52 =>
 cond (x52==2)
 ((at? t23 1).bind λx57 =>
 (at? t23 2).bind λx60 =>
 (fi t9 x57 (oL (x60-1)) i1.2.2.1).bind λt66 =>
 some t66)
 ((at? t23 1).bind λx71 =>
 (at? t23 2).bind λx74 =>
 (eg t9 x71 x74 i1.2.2.1).bind λt79 =>
 some t79))))
def jm:FL:=(290,⟨[.val true p4 false,.val true oV false],[.val true p4 (some true),.val false oR (some true)],λa=>cS a.1 a.2⟩)::jl
theorem mX:Gd jm:=oX mW 290 Tryz.f290 [] Tryz.func290
def eh (n0:Int):Option Int :=
 cond (decide (n0>=1000000)) (some n0) (some (oL (n0+1)))
def jn:FL:=(143,⟨[.val false oR false],[.val false oR (some true)],λa=>eh a⟩)::jm
theorem mY:Gd jn:=oX mX 143 Tryz.f143 [] Tryz.func143
def ei (a0:u4) (b1:u4):Option Bool :=
 cond (a0.1 != b1.1)
 (some (decide (a0.1<b1.1)))
 (cond (a0.2.1 != b1.2.1)
 (some (decide (a0.2.1<b1.2.1)))
 (cond (a0.2.2.2.1 != b1.2.2.2.1)
 (let t4:=decide (a0.2.2.2.1<b1.2.2.2.1)
 some t4)
 (let t4_1:=decide (a0.2.2.2.2<b1.2.2.2.2)
 some t4_1)))
def jo:FL:=(357,⟨[.val true sN false,.val true sN false],[.val false pL (some true)],λa=>ei a.1 a.2⟩)::jn
theorem mZ:Gd jo:=oX mY 357 Tryz.f357 [] Tryz.func357
def fk (v0:u4) (cost1:Int):Option (u4×Bool) :=
 (cL v0).bind λt8 =>
 (cond (!t8)
 (some true)
 ((ac cost1 1 1000).bind λt12 =>
 some (!t12))).bind λt14 =>
 cond t14
 (some (v0,false))
 ((cL (v0.1,oL (v0.2.1+cost1),oL (v0.2.2.1+1),v0.2.2.2.1,v0.2.2.2.2)).bind λt27 =>
 cond (!t27)
 (some (v0,false))
 (some ((v0.1,oL (v0.2.1+cost1),oL (v0.2.2.1+1),v0.2.2.2.1,v0.2.2.2.2),true)))
def jp:FL:=(368,⟨[.val true sN false,.val false oR false],[.val true sN (some true),.val false pL (some true)],λa=>fk a.1 a.2⟩)::jo
theorem n4:Gd jp:=oX mZ 368 Tryz.f368 [] Tryz.func368
def fm (p0:Int) (i1:List Pt) (t8:Int) (t9:Int) (b0:Int) (b1:Int) (b2:Int) (b3:Int) (b4:Int) (b0_1:Int) (b1_1:Int) (b2_1:Int) (b3_1:Int) (b4_1:Int):Option ((Int×Int×Int×Int×Int×Int×Int×Int×Int×Int×Int×Int)⊕(Int×Int×Int×Int×Int×Int×Int×Int×Int×Int×Int)) :=
 cond (decide (t9<(i1.length:Int)))
 ((at? i1 t9).bind λx24 =>
 (cond (!x24.1)
 (some true)
 ((at? i1 t9).bind λx31 =>
 some (!x31.2.2.1))).bind λt35 =>
 cond t35
 (some (.inl (t8,oL (t9+1),b0,b1,b2,b3,b4,b0_1,b1_1,b2_1,b3_1,b4_1)))
 ((at? i1 t9).bind λx39 =>
 (at? i1 t9).bind λx44 =>
 (fk x39.2.2.2 x44.2.1).bind λt47 =>
 (cond t47.2 (some (decide (t47.1.1<p0))) (some false)).bind λt56 =>
 (cond t56
 ((cond (decide (t8<0))
 (some true)
 ((ei t47.1 (b0_1,b1_1,b2_1,b3_1,b4_1)).bind λt63 =>
 some t63)).bind λt64 =>
 some t64)
 (some false)).bind λt65 =>
 cond t65
 (some (.inl (t9,oL (t9+1),t47.1.1,t47.1.2.1,t47.1.2.2.1,p0,0,t47.1.1,t47.1.2.1,t47.1.2.2.1,t47.1.2.2.2.1,t47.1.2.2.2.2)))
 (some (.inl (t8,oL (t9+1),b0,b1,b2,b3,b4,b0_1,b1_1,b2_1,b3_1,b4_1)))))
 (some (.inr (t8,b0,b1,b2,b3,b4,b0_1,b1_1,b2_1,b3_1,b4_1)))
def cU (p0:Int) (i1:List Pt):Option (u4×Int) :=
 (loop (λz=>fm p0 i1 z.1 z.2.1 z.2.2.1 z.2.2.2.1 z.2.2.2.2.1 z.2.2.2.2.2.1 z.2.2.2.2.2.2.1 z.2.2.2.2.2.2.2.1 z.2.2.2.2.2.2.2.2.1 z.2.2.2.2.2.2.2.2.2.1 z.2.2.2.2.2.2.2.2.2.2.1 z.2.2.2.2.2.2.2.2.2.2.2) ((-1),0,p0,0,0,p0,0,0,0,0,0,0)).bind λd =>
 some ((d.2.1,d.2.2.1,d.2.2.2.1,d.2.2.2.2.1,d.2.2.2.2.2.1),d.1)
def jq:FL:=(356,⟨[.val false oR false,.val false (.one (.sl qj)) false],[.val true sN (some true),.val false oR (some true)],λa=>cU a.1 a.2⟩)::jp
theorem n7:Gd jq:=oX n4 356 Tryz.f356 [(0,⟨⟨(8,false,[dI])::(9,false,[dI])::us 29 6 (us 52 4 (us 58 7 [])),[(266240,.box [dI,dI,dI,dI,dI]),(526336,.box [dI,dI,dI,dI,dI])]⟩,
 ⟨[(8,false,[dI])],[(266240,.box [dI,dI,dI,dI,dI]),(526336,.box [dI,dI,dI,dI,dI])]⟩,none⟩)] Tryz.func356
def ej (id0:Int) (l1:List Pt) (port2:Int):Option u4 :=
 (cU id0 l1).bind λt12 =>
 some (t12.1.1,t12.1.2.1,t12.1.2.2.1,t12.1.2.2.2.1,port2)
def jr:FL:=(358,⟨[.val false oR false,.val false (.one (.sl qj)) false,.val false oR false],[.val true sN (some true)],λa=>ej a.1 a.2.1 a.2.2⟩)::jq
theorem n8:Gd jr:=oX n7 358 Tryz.f358 [] Tryz.func358
def cV (id0:Int) (l1:List Pt) (port2:Int):Option Int :=
 (ac port2 0 (oL ((l1.length:Int)-1))).bind λt13 =>
 (cond (!t13)
 (some true)
 ((at? l1 port2).bind λx18 =>
 some (!x18.1))).bind λt22 =>
 cond t22
 (some 4)
 ((cU id0 l1).bind λt26 =>
 cond (t26.2==port2)
 (some 1)
 ((at? l1 port2).bind λx36 =>
 (cond (!x36.2.2.1)
 (some true)
 ((ej id0 l1 port2).bind λt44 =>
 (at? l1 port2).bind λx47 =>
 (ei t44 x47.2.2.2).bind λt50 =>
 some t50)).bind λt51 =>
 cond t51 (some 2) (some 3)))
def js:FL:=(325,⟨[.val false oR false,.val false (.one (.sl qj)) false,.val false oR false],[.val false oR (some true)],λa=>cV a.1 a.2.1 a.2.2⟩)::jr
theorem n9:Gd js:=oX n8 325 Tryz.f325 [] Tryz.func325
def cW (id0:Int) (l1:List Pt) (n5:Int) (i6:Int):Option ((Int×Int)⊕Int) :=
 (cond (decide (i6<(l1.length:Int))) (some (decide (i6<6))) (some false)).bind λt14 =>
 cond t14
 ((cV id0 l1 i6).bind λt20 =>
 cond (decide (t20<=2))
 ((shl .i64 1 (IntKind.u64.wrap (i6))).bind λt25 =>
 some (.inl (B8 .i64 n5 t25,oL (i6+1))))
 (some (.inl (n5,oL (i6+1)))))
 (some (.inr n5))
def em (id0:Int) (l1:List Pt):Option Int :=
 (loop (λz=>cW id0 l1 z.1 z.2) (0,0)).bind λd =>
 some d
def jt:FL:=(255,⟨[.val false oR false,.val false (.one (.sl qj)) false],[.val false oR (some true)],λa=>em a.1 a.2⟩)::js
theorem na:Gd jt:=oX n9 255 Tryz.f255 [(0,⟨⟨[(5,false,[dI]),(6,false,[dI]),(12,false,[.undef]),(13,false,[.undef])],[]⟩,
 ⟨[(5,false,[dI])],[]⟩,none⟩)] Tryz.func255
def eo (n0:Int) (port1:Int):Option Bool :=
 (ac port1 0 7).bind λt6 =>
 (cond t6
 ((shr .i64 n0 (IntKind.u64.wrap (port1))).bind λt11 =>
 some ((tO .i64 t11 1)==1))
 (some false)).bind λt14 =>
 some t14
def ju:FL:=(257,⟨[.val false oR false,.val false oR false],[.val false pL (some true)],λa=>eo a.1 a.2⟩)::jt
theorem nb:Gd ju:=oX na 257 Tryz.f257 [] Tryz.func257
def ch (l0:List oT) (port1:Int) (i6:Int) (out5:List oT):Option ((Int×List oT)⊕(List oT)) :=
 cond (decide (i6<(l0.length:Int)))
 ((at? l0 i6).bind λx16 =>
 (cond x16.2.2.2.2
 (some true)
 ((at? l0 i6).bind λx22 =>
 some (x22.2.2.1 != port1))).bind λt27 =>
 cond t27
 ((at? l0 i6).bind λx31 =>
 (pw out5 [x31]).bind λzs34 =>
 some (.inl (oL (i6+1),zs34)))
 (some (.inl (oL (i6+1),out5))))
 (some (.inr out5))
def ep (l0:List oT) (port1:Int):Option (List oT) :=
 (loop (λz=>ch l0 port1 z.1 z.2) (0,([]:List oT))).bind λd =>
 some d
def jv:FL:=(342,⟨[.val false (.one (.sl pd)) false,.val false oR false],[.val false (.one (.sl pd)) (some true)],λa=>ep a.1 a.2⟩)::ju
theorem nc:Gd jv:=oX nb 342 Tryz.f342 [(0,⟨⟨(5,false,[.own 1000000000])::(6,false,[dI])::us 20 7 [],[(1000000000,.root pd true)]⟩,
 ⟨[(5,false,[.own 1000000300])],[(1000000300,.root pd true)]⟩,none⟩)] Tryz.func342
def eq (b0:oI) (t13:Int) (i4:Int) (b0_1:Int) (b1:List UInt8) (b6:Int) (b7:Int) (b8:Int) (b9:Int) (b10:Int) (b3:List oT):Option ((Int×Int×List UInt8×Int×Int×Int×Int×Int×List oT)⊕(Int×List UInt8×Int×Int×Int×Int×Int×List oT)) :=
 cond (decide (i4<(b0.2.2.1.length:Int)))
 ((eo t13 i4).bind λt23 =>
 cond (!t23)
 ((ep b3 i4).bind λt28 =>
 some (.inl (oL (i4+1),b0_1,b1,b6,b7,b8,b9,b10,t28)))
 (some (.inl (oL (i4+1),b0_1,b1,b6,b7,b8,b9,b10,b3))))
 (some (.inr (b0_1,b1,b6,b7,b8,b9,b10,b3)))
def ci (b0:oI):Option oI :=
 (eh b0.2.2.2.2.2.2.2.2.2.2).bind λt7 =>
 (em b0.1 b0.2.2.1).bind λt13 =>
 (loop (λz=>eq b0 t13 z.1 z.2.1 z.2.2.1 z.2.2.2.1 z.2.2.2.2.1 z.2.2.2.2.2.1 z.2.2.2.2.2.2.1 z.2.2.2.2.2.2.2.1 z.2.2.2.2.2.2.2.2) (0,b0.1,b0.2.1,b0.2.2.2.2.2.2.1,b0.2.2.2.2.2.2.2.1,b0.2.2.2.2.2.2.2.2.1,b0.2.2.2.2.2.2.2.2.2.1,t7,b0.2.2.2.1)).bind λd =>
 some (d.1,d.2.1,b0.2.2.1,d.2.2.2.2.2.2.2,b0.2.2.2.2.1,b0.2.2.2.2.2.1,d.2.2.1,d.2.2.2.1,d.2.2.2.2.1,d.2.2.2.2.2.1,d.2.2.2.2.2.2.1)
def jw:FL:=(291,⟨[.val true p4 true],[.val true p4 (some true)],λa=>ci a⟩)::jv
theorem nd:Gd jw:=oX nc 291 Tryz.f291 [(0,⟨⟨[(4,false,[dI])],[(1024,.box [dI,dS,.same 3,.own 1000000000,.same 5,.same 6,dI,dI,dI,dI,dI]),(1000000000,.root pd true)]⟩,
 ⟨[],[(1024,.box [dI,dS,.same 3,.own 1000000300,.same 5,.same 6,dI,dI,dI,dI,dI]),(1000000300,.root pd true)]⟩,none⟩)] Tryz.func291
def cX (p0:oI) (i1:List oK) (t8:Int) (t9:Int) (b0_2:Int) (b1_2:List UInt8) (b6_2:Int) (b7_2:Int) (b8_2:Int) (b9_2:Int) (b10_2:Int):Option ((Int×Int×List UInt8×Int×Int×Int×Int×Int)⊕((Int×List UInt8×Int×Int×Int×Int×Int)⊕(Int×Int×Int×List UInt8×Int×Int×Int×Int×Int×List Pt×List oT×List oZ×List Int))) :=
 cond (decide (t9<t8))
 ((at? i1 t9).bind λx36 =>
 (at? i1 t8).bind λx41 =>
 (bv x36.1 x41.1).bind λt44 =>
 cond t44
 ((az p0).bind λt46 =>
 some (.inr (.inr (5,oL (t8+1),t46.1,t46.2.1,t46.2.2.2.2.2.2.1,t46.2.2.2.2.2.2.2.1,t46.2.2.2.2.2.2.2.2.1,t46.2.2.2.2.2.2.2.2.2.1,t46.2.2.2.2.2.2.2.2.2.2,t46.2.2.1,t46.2.2.2.1,t46.2.2.2.2.1,t46.2.2.2.2.2.1))))
 (some (.inl (oL (t9+1),b0_2,b1_2,b6_2,b7_2,b8_2,b9_2,b10_2))))
 (some (.inr (.inl (b0_2,b1_2,b6_2,b7_2,b8_2,b9_2,b10_2))))
def eu (p0:oI) (i1:List oK) (t8:Int) (b0:Int) (b1:List UInt8) (b6:Int) (b7:Int) (b8:Int) (b9:Int) (b10:Int) (b0_1:Int) (b1_1:List UInt8) (b6_1:Int) (b7_1:Int) (b8_1:Int) (b9_1:Int) (b10_1:Int) (b2:List Pt) (b3:List oT) (b4:List oZ) (b5:List Int) (b2_1:List Pt) (b3_1:List oT) (b4_1:List oZ) (b5_1:List Int):Option ((Int×Int×List UInt8×Int×Int×Int×Int×Int×Int×List UInt8×Int×Int×Int×Int×Int×List Pt×List oT×List oZ×List Int×List Pt×List oT×List oZ×List Int)⊕((Int×List UInt8×Int×Int×Int×Int×Int×Int×List UInt8×Int×Int×Int×Int×Int×List Pt×List oT×List oZ×List Int×List Pt×List oT×List oZ×List Int)⊕(Int×Int×Int×List UInt8×Int×Int×Int×Int×Int×List Pt×List oT×List oZ×List Int))) :=
 cond (decide (t8<(i1.length:Int)))
 ((loop (λz=>cX p0 i1 t8 z.1 z.2.1 z.2.2.1 z.2.2.2.1 z.2.2.2.2.1 z.2.2.2.2.2.1 z.2.2.2.2.2.2.1 z.2.2.2.2.2.2.2) (0,b0,b1,b6,b7,b8,b9,b10)).bind (Sum.elim (λd =>
 (at? i1 t8).bind λx53 =>
 (cS (b0_1,b1_1,b2_1,b3_1,b4_1,b5_1,b6_1,b7_1,b8_1,b9_1,b10_1) x53).bind λt55 =>
 cond (t55.2 != 0)
 ((az p0).bind λt61 =>
 some (.inr (.inr (t55.2,oL (t8+1),t61.1,t61.2.1,t61.2.2.2.2.2.2.1,t61.2.2.2.2.2.2.2.1,t61.2.2.2.2.2.2.2.2.1,t61.2.2.2.2.2.2.2.2.2.1,t61.2.2.2.2.2.2.2.2.2.2,t61.2.2.1,t61.2.2.2.1,t61.2.2.2.2.1,t61.2.2.2.2.2.1))))
 (some (.inl (oL (t8+1),d.1,d.2.1,d.2.2.1,d.2.2.2.1,d.2.2.2.2.1,d.2.2.2.2.2.1,d.2.2.2.2.2.2,t55.1.1,t55.1.2.1,t55.1.2.2.2.2.2.2.1,t55.1.2.2.2.2.2.2.2.1,t55.1.2.2.2.2.2.2.2.2.1,t55.1.2.2.2.2.2.2.2.2.2.1,t55.1.2.2.2.2.2.2.2.2.2.2,b2,b3,b4,b5,t55.1.2.2.1,t55.1.2.2.2.1,t55.1.2.2.2.2.1,t55.1.2.2.2.2.2.1)))) (λr=>some (.inr (.inr r)))))
 (some (.inr (.inl (b0,b1,b6,b7,b8,b9,b10,b0_1,b1_1,b6_1,b7_1,b8_1,b9_1,b10_1,b2,b3,b4,b5,b2_1,b3_1,b4_1,b5_1))))
def ev (p0:oI) (i1:List oK):Option (oI×Int×Int) :=
 (az p0).bind λt13 =>
 (cb p0).bind λt15 =>
 (cond (!t15) (some (decide ((i1.length:Int)>0))) (some false)).bind λt21 =>
 cond t21
 (some (t13,3,1))
 ((loop (λz=>eu p0 i1 z.1 z.2.1 z.2.2.1 z.2.2.2.1 z.2.2.2.2.1 z.2.2.2.2.2.1 z.2.2.2.2.2.2.1 z.2.2.2.2.2.2.2.1 z.2.2.2.2.2.2.2.2.1 z.2.2.2.2.2.2.2.2.2.1 z.2.2.2.2.2.2.2.2.2.2.1 z.2.2.2.2.2.2.2.2.2.2.2.1 z.2.2.2.2.2.2.2.2.2.2.2.2.1 z.2.2.2.2.2.2.2.2.2.2.2.2.2.1 z.2.2.2.2.2.2.2.2.2.2.2.2.2.2.1 z.2.2.2.2.2.2.2.2.2.2.2.2.2.2.2.1 z.2.2.2.2.2.2.2.2.2.2.2.2.2.2.2.2.1 z.2.2.2.2.2.2.2.2.2.2.2.2.2.2.2.2.2.1 z.2.2.2.2.2.2.2.2.2.2.2.2.2.2.2.2.2.2.1 z.2.2.2.2.2.2.2.2.2.2.2.2.2.2.2.2.2.2.2.1 z.2.2.2.2.2.2.2.2.2.2.2.2.2.2.2.2.2.2.2.2.1 z.2.2.2.2.2.2.2.2.2.2.2.2.2.2.2.2.2.2.2.2.2.1 z.2.2.2.2.2.2.2.2.2.2.2.2.2.2.2.2.2.2.2.2.2.2) (0,0,[],0,0,0,0,0,t13.1,t13.2.1,t13.2.2.2.2.2.2.1,t13.2.2.2.2.2.2.2.1,t13.2.2.2.2.2.2.2.2.1,t13.2.2.2.2.2.2.2.2.2.1,t13.2.2.2.2.2.2.2.2.2.2,[],[],[],[],t13.2.2.1,t13.2.2.2.1,t13.2.2.2.2.1,t13.2.2.2.2.2.1)).bind (Sum.elim (λd_1 =>
 cond ((i1.length:Int)==0)
 (some ((d_1.2.2.2.2.2.2.2.1,d_1.2.2.2.2.2.2.2.2.1,d_1.2.2.2.2.2.2.2.2.2.2.2.2.2.2.2.2.2.2.1,d_1.2.2.2.2.2.2.2.2.2.2.2.2.2.2.2.2.2.2.2.1,d_1.2.2.2.2.2.2.2.2.2.2.2.2.2.2.2.2.2.2.2.2.1,d_1.2.2.2.2.2.2.2.2.2.2.2.2.2.2.2.2.2.2.2.2.2,d_1.2.2.2.2.2.2.2.2.2.1,d_1.2.2.2.2.2.2.2.2.2.2.1,d_1.2.2.2.2.2.2.2.2.2.2.2.1,d_1.2.2.2.2.2.2.2.2.2.2.2.2.1,d_1.2.2.2.2.2.2.2.2.2.2.2.2.2.1),0,0))
 ((ca d_1.2.2.2.2.2.2.2.2.2.2.2.2.2.2.2.2.2.2.2.2 (d_1.2.2.2.2.2.2.2.2.2.2.2.2.2.2.2.2.2.2.1.length:Int)).bind λt75 =>
 cond (!t75)
 ((az p0).bind λt78 =>
 some (t78,5,(i1.length:Int)))
 ((ci (d_1.2.2.2.2.2.2.2.1,d_1.2.2.2.2.2.2.2.2.1,d_1.2.2.2.2.2.2.2.2.2.2.2.2.2.2.2.2.2.2.1,d_1.2.2.2.2.2.2.2.2.2.2.2.2.2.2.2.2.2.2.2.1,d_1.2.2.2.2.2.2.2.2.2.2.2.2.2.2.2.2.2.2.2.2.1,d_1.2.2.2.2.2.2.2.2.2.2.2.2.2.2.2.2.2.2.2.2.2,d_1.2.2.2.2.2.2.2.2.2.1,d_1.2.2.2.2.2.2.2.2.2.2.1,d_1.2.2.2.2.2.2.2.2.2.2.2.1,d_1.2.2.2.2.2.2.2.2.2.2.2.2.1,d_1.2.2.2.2.2.2.2.2.2.2.2.2.2.1)).bind λt82 =>
 some (t82,0,0)))) (λr_1=>some ((r_1.2.2.1,r_1.2.2.2.1,r_1.2.2.2.2.2.2.2.2.2.1,r_1.2.2.2.2.2.2.2.2.2.2.1,r_1.2.2.2.2.2.2.2.2.2.2.2.1,r_1.2.2.2.2.2.2.2.2.2.2.2.2,r_1.2.2.2.2.1,r_1.2.2.2.2.2.1,r_1.2.2.2.2.2.2.1,r_1.2.2.2.2.2.2.2.1,r_1.2.2.2.2.2.2.2.2.1),r_1.1,r_1.2.1))))
def jx:FL:=(177,⟨[.val true p4 false,.val false (.one (.sl oV)) false],[.val true p4 (some true),.val false oR (some true),.val false oR (some true)],λa=>ev a.1 a.2⟩)::jw
theorem ne:Gd jx:=oX nd 177 Tryz.f177 [(0,⟨⟨[(8,false,[dI])],[(2048,.box [dI,dS,.own 1000000000,.own 1000000001,.own 1000000002,.own 1000000003,dI,dI,dI,dI,dI]),(265216,.box [dI,dS,.own 1000000004,.own 1000000005,.own 1000000006,.own 1000000007,dI,dI,dI,dI,dI]),(1000000000,.root qj true),(1000000001,.root pd true),(1000000002,.root pE true),(1000000003,.root oR true),(1000000004,.root qj true),(1000000005,.root pd true),(1000000006,.root pE true),(1000000007,.root oR true)]⟩,
 ⟨[],[(2048,.box [dI,dS,.own 1000000300,.own 1000000301,.own 1000000302,.own 1000000303,dI,dI,dI,dI,dI]),(265216,.box [dI,dS,.own 1000000304,.own 1000000305,.own 1000000306,.own 1000000307,dI,dI,dI,dI,dI]),(1000000300,.root qj true),(1000000301,.root pd true),(1000000302,.root pE true),(1000000303,.root oR true),(1000000304,.root qj true),(1000000305,.root pd true),(1000000306,.root pE true),(1000000307,.root oR true)]⟩,some ⟨[(5,false,[dI]),(6,false,[dI])],[(2048,.box [dI,dS,.own 1000000600,.own 1000000601,.own 1000000602,.own 1000000603,dI,dI,dI,dI,dI]),(1000000600,.root qj true),(1000000601,.root pd true),(1000000602,.root pE true),(1000000603,.root oR true)]⟩⟩),
 (2,⟨⟨[(9,false,[dI])],[(2048,.box [dI,dS,.same 1000000000,.same 1000000001,.same 1000000002,.same 1000000003,dI,dI,dI,dI,dI])]⟩,
 ⟨[],[(2048,.box [dI,dS,.same 1000000000,.same 1000000001,.same 1000000002,.same 1000000003,dI,dI,dI,dI,dI])]⟩,some ⟨[(5,false,[dI]),(6,false,[dI])],[(2048,.box [dI,dS,.own 1000002600,.own 1000002601,.own 1000002602,.own 1000002603,dI,dI,dI,dI,dI]),(1000002600,.root qj true),(1000002601,.root pd true),(1000002602,.root pE true),(1000002603,.root oR true)]⟩⟩)] Tryz.func177
def ew (b0:oI) (p1:ph):Option (oI×ph) :=
 (cQ p1.2.2.2.2).bind λt14 =>
 (ev b0 p1.2.2.2.2).bind λt20 =>
 (ce (162,p1.2.1,t20.2.1,t20.2.2,t14)).bind λt29 =>
 (cond (!t29) (some true) (some (t20.2.1 != 0))).bind λt34 =>
 cond t34
 ((az b0).bind λt36 =>
 (cg (162,p1.2.1,t20.2.1,t20.2.2,t14) false).bind λt38 =>
 some (t36,t38))
 (some (t20.1,(162,p1.2.1,t20.2.1,t20.2.2,t14)))
def jy:FL:=(84,⟨[.val true p4 false,.val true qx false],[.val true p4 (some true),.val true qx (some true)],λa=>ew a.1 a.2⟩)::jx
theorem ng:Gd jy:=oX ne 84 Tryz.f84 [] Tryz.func84
def bz (l0:List Int):Option (List Int) :=
 (pw ([1,3,1]:List Int) l0).bind λzs5 =>
 some zs5
def jz:FL:=(274,⟨[.val false qu false],[.val false qu (some true)],λa=>bz a⟩)::jy
theorem nh:Gd jz:=oX ng 274 Tryz.f274 [] Tryz.func274
def fo (n0:Int):Option rk :=
 some (2,n0,[],[])
def jA:FL:=(197,⟨[.val false oR false],[.val true sv (some true)],λa=>fo a⟩)::jz
theorem ni:Gd jA:=oX nh 197 Tryz.f197 [] Tryz.func197
def ae (out0:List oK) (name1:List Int) (n2:Int):Option (List oK) :=
 (bz name1).bind λt9 =>
 (fo n2).bind λt11 =>
 (pw out0 [(t9,t11.1,t11.2.1,t11.2.2.1,t11.2.2.2)]).bind λzs14 =>
 some zs14
def jB:FL:=(332,⟨[.val false (.one (.sl oV)) true,.val false qu false,.val false oR false],[.val false (.one (.sl oV)) (some true)],λa=>ae a.1 a.2.1 a.2.2⟩)::jA
theorem nj:Gd jB:=oX ni 332 Tryz.f332 [] Tryz.func332
def ez (b0:oI) (c1:Int) (p2:Int):Option Int :=
 cond (c1==1)
 ((at? b0.2.2.1 p2).bind λx13 =>
 cond x13.1 (some 1) (some 0))
 (cond (c1==2)
 ((at? b0.2.2.1 p2).bind λx21 =>
 some x21.2.1)
 (cond (c1==3)
 ((cV b0.1 b0.2.2.1 p2).bind λt31 =>
 some t31)
 ((at? b0.2.2.2.2.2.1 p2).bind λx36 =>
 some x36)))
def jC:FL:=(333,⟨[.val true p4 false,.val false oR false,.val false oR false],[.val false oR (some true)],λa=>ez a.1 a.2.1 a.2.2⟩)::jB
theorem nk:Gd jC:=oX nj 333 Tryz.f333 [] Tryz.func333
def fp (r0:oZ) (c1:Int):Option Int :=
 cond (c1==1) (some 1) (cond (c1==2) (some r0.2.1) (some r0.2.2))
def jD:FL:=(334,⟨[.val true pE false,.val false oR false],[.val false oR (some true)],λa=>fp a.1 a.2⟩)::jC
theorem nl:Gd jD:=oX nk 334 Tryz.f334 [] Tryz.func334
def fq (p0:oI) (t4:Int) (t5:Int) (t3_1:List oK):Option ((Int×List oK)⊕(List oK)) :=
 cond (decide (t5<(p0.2.2.1.length:Int)))
 ((ez p0 t4 t5).bind λt59 =>
 (ae t3_1 [2,t4,oL (t5+1)] t59).bind λt60 =>
 some (.inl (oL (t5+1),t60)))
 (some (.inr t3_1))
def fr (p0:oI) (t4:Int) (t3:List oK):Option ((Int×List oK)⊕(List oK)) :=
 cond (decide (t4<=4))
 ((loop (λz=>fq p0 t4 z.1 z.2) (0,t3)).bind λd =>
 some (.inl (oL (t4+1),d)))
 (some (.inr t3))
def ft (p0:oI) (t6:Int) (t7:Int) (t3_5:List oK):Option ((Int×List oK)⊕(List oK)) :=
 cond (decide (t7<(p0.2.2.2.2.1.length:Int)))
 ((at? p0.2.2.2.2.1 t7).bind λx79 =>
 (at? p0.2.2.2.2.1 t7).bind λx87 =>
 (fp x87 t6).bind λt90 =>
 (ae t3_5 [3,t6,x79.1] t90).bind λt91 =>
 some (.inl (oL (t7+1),t91)))
 (some (.inr t3_5))
def cY (p0:oI) (t6:Int) (t3_4:List oK):Option ((Int×List oK)⊕(List oK)) :=
 cond (decide (t6<=3))
 ((loop (λz=>ft p0 t6 z.1 z.2) (0,t3_4)).bind λd_2 =>
 some (.inl (oL (t6+1),d_2)))
 (some (.inr t3_4))
def fu (p0:oI) (t8:Int) (t3_8:List oK):Option ((Int×List oK)⊕(List oK)) :=
 cond (decide (t8<(p0.2.2.2.1.length:Int)))
 ((at? p0.2.2.2.1 t8).bind λx103 =>
 (at? p0.2.2.2.1 t8).bind λx109 =>
 (at? p0.2.2.2.1 t8).bind λx116 =>
 (ae t3_8 [4,1,x103.1,x109.2.1] (oL (x116.2.2.1+1))).bind λt120 =>
 some (.inl (oL (t8+1),t120)))
 (some (.inr t3_8))
def cj (p0:oI):Option (List oK) :=
 (cb p0).bind λt10 =>
 cond (!t10)
 (some ([]:List oK))
 ((bz ([1,1]:List Int)).bind λt14 =>
 (ae ([(t14,4,0,p0.2.1,[])]) ([1,2]:List Int) p0.2.2.2.2.2.2.1).bind λt24 =>
 (ae t24 ([1,3]:List Int) p0.2.2.2.2.2.2.2.1).bind λt29 =>
 (ae t29 ([1,4]:List Int) p0.2.2.2.2.2.2.2.2.1).bind λt34 =>
 (ae t34 ([1,5]:List Int) p0.2.2.2.2.2.2.2.2.2.1).bind λt39 =>
 (loop (λz=>fr p0 z.1 z.2) (1,t39)).bind λd_1 =>
 (loop (λz=>cY p0 z.1 z.2) (1,d_1)).bind λd_3 =>
 (loop (λz=>fu p0 z.1 z.2) (0,d_3)).bind λd_4 =>
 some d_4)
def jE:FL:=(273,⟨[.val true p4 false],[.val false (.one (.sl oV)) (some true)],λa=>cj a⟩)::jD
theorem nn:Gd jE:=oX nl 273 Tryz.f273 [(0,⟨⟨[(3,false,[.own 1000000000]),(4,false,[dI])],[(1000000000,.root oV true)]⟩,
 ⟨[(3,false,[.own 1000000300])],[(1000000300,.root oV true)]⟩,none⟩),
 (2,⟨⟨[(3,false,[.own 1000002000]),(5,false,[dI])],[(1000002000,.root oV true)]⟩,
 ⟨[(3,false,[.own 1000002300])],[(1000002300,.root oV true)]⟩,none⟩),
 (4,⟨⟨[(3,false,[.own 1000004000]),(6,false,[dI])],[(1000004000,.root oV true)]⟩,
 ⟨[(3,false,[.own 1000004300])],[(1000004300,.root oV true)]⟩,none⟩),
 (6,⟨⟨[(3,false,[.own 1000006000]),(7,false,[dI])],[(1000006000,.root oV true)]⟩,
 ⟨[(3,false,[.own 1000006300])],[(1000006300,.root oV true)]⟩,none⟩),
 (8,⟨⟨[(3,false,[.own 1000008000]),(8,false,[dI])],[(1000008000,.root oV true)]⟩,
 ⟨[(3,false,[.own 1000008300])],[(1000008300,.root oV true)]⟩,none⟩)] Tryz.func273
def np (a0:List Int) (b1:List Int) (i5:Int):Option (Int⊕(Unit⊕Bool)) :=
 (cond (decide (i5<(a0.length:Int))) (some (decide (i5<(b1.length:Int)))) (some false)).bind λt15 =>
 cond t15
 ((at? a0 i5).bind λx20 =>
 (at? b1 i5).bind λx24 =>
 cond (x20 != x24)
 ((at? a0 i5).bind λx29 =>
 (at? b1 i5).bind λx33 =>
 some (.inr (.inr (decide (x29<x33)))))
 (some (.inl (oL (i5+1)))))
 (some (.inr (.inl ())))
def fv (a0:List Int) (b1:List Int):Option Bool :=
 (loop (λz=>np a0 b1 z) 0).bind (Sum.elim (λd =>
 let t4:=decide ((a0.length:Int)<(b1.length:Int))
 some t4) (λr=>some r))
def jF:FL:=(343,⟨[.val false qu false,.val false qu false],[.val false pL (some true)],λa=>fv a.1 a.2⟩)::jE
theorem nq:Gd jF:=oX nn 343 Tryz.f343 [(0,⟨⟨(5,false,[dI])::us 11 4 [],[]⟩,
 ⟨[],[]⟩,some ⟨[(4,false,[dB])],[]⟩⟩)] Tryz.func343
def fw (o1:List Int) (t8:List oK) (i6:Int) (b1:Int) (b2:Int) (b3:List UInt8) (b0_1:List Int) (b4:List Int):Option ((Int×Int×Int×List UInt8×List Int×List Int)⊕((Int×Int×List UInt8×List Int×List Int)⊕(List Int×Int×Int×List UInt8×List Int))) :=
 cond (decide (i6<(t8.length:Int)))
 ((ix t8.length i6).bind λj18 =>
 (t8[j18]?).bind λx20 =>
 (fv o1 x20.1).bind λt21 =>
 cond t21
 ((ix t8.length i6).bind λj24 =>
 (t8[j24]?).bind λx25 =>
 some (.inr (.inr x25)))
 (some (.inl (oL (i6+1),b1,b2,b3,b0_1,b4))))
 (some (.inr (.inl (b1,b2,b3,b0_1,b4))))
def eA (b0:oI) (o1:List Int):Option oK :=
 (cj b0).bind λt8 =>
 (loop (λz=>fw o1 t8 z.1 z.2.1 z.2.2.1 z.2.2.2.1 z.2.2.2.2.1 z.2.2.2.2.2) (0,0,0,[],[],[])).bind (Sum.elim (λd =>
 (pw ([]:List Int) o1).bind λzs28 =>
 some (zs28,130,0,[],[])) (λr=>some r))
def jG:FL:=(292,⟨[.val true p4 false,.val false qu false],[.val true oV none],λa=>eA a.1 a.2⟩)::jF
theorem nr:Gd jG:=oX nq 292 Tryz.f292 [(0,⟨⟨[(6,false,[dI])],[(2048,.box [.own 1000000000,dI,dI,dS,.own 1000000001]),(1000000000,.root oR true),(1000000001,.root oR true)]⟩,
 ⟨[],[(2048,.box [.own 1000000300,dI,dI,dS,.own 1000000301]),(1000000300,.root oR true),(1000000301,.root oR true)]⟩,some ⟨[],[(2048,.box [.dat (.sl oR),dI,dI,dS,.dat (.sl oR)])]⟩⟩)] Tryz.func292
def cZ (b0:oI) (from1:List oK) (i6:Int) (out5:List oK):Option ((Int×List oK)⊕(List oK)) :=
 cond (decide (i6<(from1.length:Int)))
 ((at? from1 i6).bind λx16 =>
 cond (x16.2.1==130)
 ((at? from1 i6).bind λx24 =>
 (pw out5 [x24]).bind λzs27 =>
 some (.inl (oL (i6+1),zs27)))
 ((at? from1 i6).bind λx32 =>
 (eA b0 x32.1).bind λt35 =>
 (pw out5 [t35]).bind λzs37 =>
 some (.inl (oL (i6+1),zs37))))
 (some (.inr out5))
def aL (b0:oI) (from1:List oK):Option (List oK) :=
 (loop (λz=>cZ b0 from1 z.1 z.2) (0,([]:List oK))).bind λd =>
 some d
def jH:FL:=(178,⟨[.val true p4 false,.val false (.one (.sl oV)) false],[.val false (.one (.sl oV)) (some false)],λa=>aL a.1 a.2⟩)::jG
theorem nu:Gd jH:=oX nr 178 Tryz.f178 [(0,⟨⟨[(5,false,[.own 1000000000]),(6,false,[dI])],[(1000000000,.root oV false)]⟩,
 ⟨[(5,false,[.own 1000000300])],[(1000000300,.root oV false)]⟩,none⟩)] Tryz.func178
def d5 (l0:List oK) (i4:Int) (out3:List oK):Option ((Int×List oK)⊕(List oK)) :=
 cond (decide (i4<(l0.length:Int)))
 ((at? l0 i4).bind λx15 =>
 (pw out3 ([(x15.1,5,0,[],[])])).bind λzs21 =>
 some (.inl (oL (i4+1),zs21)))
 (some (.inr out3))
def bA (l0:List oK):Option (List oK) :=
 (loop (λz=>d5 l0 z.1 z.2) (0,([]:List oK))).bind λd =>
 some d
def jI:FL:=(179,⟨[.val false (.one (.sl oV)) false],[.val false (.one (.sl oV)) (some false)],λa=>bA a⟩)::jH
theorem nv:Gd jI:=oX nu 179 Tryz.f179 [(0,⟨⟨[(3,false,[.own 1000000000]),(4,false,[dI])],[(1000000000,.root oV false)]⟩,
 ⟨[(3,false,[.own 1000000300])],[(1000000300,.root oV false)]⟩,none⟩)] Tryz.func179
def aR (b0:oI) (p1:ph) (told8:List oK) (i9:Int) (out7:List oK):Option ((List oK×Int×List oK)⊕(List oK)) :=
 (cond (decide (i9<p1.2.2.2.1)) (some (decide ((told8.length:Int)>0))) (some false)).bind λt39 =>
 (cond t39 (some (decide ((out7.length:Int)<10))) (some false)).bind λt44 =>
 cond t44
 ((aL b0 told8).bind λt49 =>
 (pw out7 t49).bind λzs52 =>
 some (.inl (t49,oL (i9+1),zs52)))
 (some (.inr out7))
def nx (b0:oI) (p1:ph) (told8_1:List oK) (i9_1:Int) (out7_2:List oK):Option ((List oK×Int×List oK)⊕(List oK)) :=
 (cond (decide (i9_1<p1.2.2.2.1)) (some (decide ((told8_1.length:Int)>0))) (some false)).bind λt39_1 =>
 (cond t39_1 (some (decide ((out7_2.length:Int)<10))) (some false)).bind λt44_1 =>
 cond t44_1
 ((aL b0 told8_1).bind λt49_1 =>
 (pw out7_2 t49_1).bind λzs52_1 =>
 some (.inl (t49_1,oL (i9_1+1),zs52_1)))
 (some (.inr out7_2))
def eB (b0:oI) (p1:ph):Option (List oK) :=
 cond (decide (p1.2.2.1>(p1.2.2.2.2.length:Int)))
 (let k5:=(p1.2.2.2.2.length:Int)
 (bA p1.2.2.2.2).bind λt22 =>
 (rf t22.length 0 k5).bind λp =>
 (aL b0 ((t22.take p.2).drop p.1)).bind λt27 =>
 (cut t22 k5 (t22.length:Int)).bind λt30 =>
 (loop (λz=>aR b0 p1 z.1 z.2.1 z.2.2) (t30,0,t27)).bind λd =>
 cond (decide ((d.length:Int)>10))
 ((rf d.length 0 10).bind λp_1 =>
 some ((d.take p_1.2).drop p_1.1))
 (some d))
 ((bA p1.2.2.2.2).bind λt22_1 =>
 (rf t22_1.length 0 p1.2.2.1).bind λp_2 =>
 (aL b0 ((t22_1.take p_2.2).drop p_2.1)).bind λt27_1 =>
 (cut t22_1 p1.2.2.1 (t22_1.length:Int)).bind λt30_1 =>
 (loop (λz=>nx b0 p1 z.1 z.2.1 z.2.2) (t30_1,0,t27_1)).bind λd_1 =>
 cond (decide ((d_1.length:Int)>10))
 ((rf d_1.length 0 10).bind λp_3 =>
 some ((d_1.take p_3.2).drop p_3.1))
 (some d_1))
def jJ:FL:=(180,⟨[.val true p4 false,.val true qx false],[.val false (.one (.sl oV)) (some false)],λa=>eB a.1 a.2⟩)::jI
theorem ny:Gd jJ:=oX nv 180 Tryz.f180 [(0,⟨⟨(7,false,[.own 1000000000])::(8,false,[.dat (.sl oV)])::(9,false,[dI])::us 36 3 (us 41 3 []),[(1000000000,.root oV false)]⟩,
 ⟨[(7,false,[.own 1000000300])],[(1000000300,.root oV false)]⟩,none⟩)] Tryz.func180
def fx (o1:List Int) (t8:List oK) (i6:Int) (b0_1:Int) (b1:Int) (b2:List UInt8) (b3:List Int):Option ((Int×Int×Int×List UInt8×List Int)⊕((Int×Int×List UInt8×List Int)⊕(Int×Int×List UInt8×List Int))) :=
 cond (decide (i6<(t8.length:Int)))
 ((ix t8.length i6).bind λj17 =>
 (t8[j17]?).bind λx19 =>
 (bv x19.1 o1).bind λt21 =>
 cond t21
 ((ix t8.length i6).bind λj24 =>
 (t8[j24]?).bind λx26 =>
 some (.inr (.inr x26.2)))
 (some (.inl (oL (i6+1),b0_1,b1,b2,b3))))
 (some (.inr (.inl (b0_1,b1,b2,b3))))
def eC (b0:oI) (o1:List Int):Option rk :=
 (cj b0).bind λt8 =>
 (loop (λz=>fx o1 t8 z.1 z.2.1 z.2.2.1 z.2.2.2.1 z.2.2.2.2) (0,0,0,[],[])).bind (Sum.elim (λd =>
 some (128,0,[],[])) (λr=>some r))
def jK:FL:=(181,⟨[.val true p4 false,.val false qu false],[.val true sv none],λa=>eC a.1 a.2⟩)::jJ
theorem nz:Gd jK:=oX ny 181 Tryz.f181 [(0,⟨⟨[(6,false,[dI])],[(2048,.box [dI,dI,dS,.own 1000000000]),(1000000000,.root oR true)]⟩,
 ⟨[],[(2048,.box [dI,dI,dS,.own 1000000300]),(1000000300,.root oR true)]⟩,some ⟨[],[(2048,.box [dI,dI,dS,.dat (.sl oR)])]⟩⟩)] Tryz.func181
def ck (b0:oI) (p1:ph) (i6:Int) (out5:List oK):Option ((Int×List oK)⊕(List oK)) :=
 cond (decide (i6<(p1.2.2.2.2.length:Int)))
 ((at? p1.2.2.2.2 i6).bind λx34 =>
 (pw ([]:List Int) x34.1).bind λzs37 =>
 (at? p1.2.2.2.2 i6).bind λx42 =>
 (eC b0 x42.1).bind λt45 =>
 (pw out5 [(zs37,t45.1,t45.2.1,t45.2.2.1,t45.2.2.2)]).bind λzs48 =>
 some (.inl (oL (i6+1),zs48)))
 (some (.inr out5))
def eD (b0:oI) (p1:ph):Option (List oK) :=
 cond (p1.1==161)
 ((bA p1.2.2.2.2).bind λt14 =>
 (aL b0 t14).bind λt15 =>
 some t15)
 (cond (p1.1==165)
 ((eB b0 p1).bind λt20 =>
 some t20)
 ((loop (λz=>ck b0 p1 z.1 z.2) (0,([]:List oK))).bind λd =>
 some d))
def jL:FL:=(86,⟨[.val true p4 false,.val true qx false],[.val false (.one (.sl oV)) (some false)],λa=>eD a.1 a.2⟩)::jK
theorem nA:Gd jL:=oX nz 86 Tryz.f86 [(1,⟨⟨[(5,false,[.own 1000001000]),(6,false,[dI])],[(1000001000,.root oV false)]⟩,
 ⟨[(5,false,[.own 1000001300])],[(1000001300,.root oV false)]⟩,none⟩)] Tryz.func86
def eE (b0:oI) (p1:ph):Option (oI×ph×Bool) :=
 (ff b0 p1).bind λt12 =>
 cond (!t12)
 ((az b0).bind λt15 =>
 some (t15,(0,0,0,0,[]),false))
 (cond (p1.1==163)
 ((ew b0 p1).bind λt23 =>
 some (t23.1,t23.2,true))
 ((eD b0 p1).bind λt32 =>
 (cQ t32).bind λt33 =>
 (az b0).bind λt36 =>
 (cg (162,p1.2.1,0,0,t33) (p1.1==165)).bind λt41 =>
 some (t36,t41,true)))
def jM:FL:=(14,⟨[.val true p4 false,.val true qx false],[.val true p4 (some true),.val true qx (some true),.val false pL (some true)],λa=>eE a.1 a.2⟩)::jL
theorem nB:Gd jM:=oX nA 14 Tryz.f14 [] Tryz.func14
def fy (a0:List Pt) (left1:Int):Option Int :=
 let left1_1:=oL (left1-(a0.length:Int))
 cond (decide (left1_1<0)) (some (-1)) (some left1_1)
def jN:FL:=(105,⟨[.val false (.one (.sl qj)) false,.val false oR false],[.val false oR (some true)],λa=>fy a.1 a.2⟩)::jM
theorem nC:Gd jN:=oX nB 105 Tryz.f105 [] Tryz.func105
def fA (a0:List oT) (left1:Int):Option Int :=
 let left1_1:=oL (left1-(a0.length:Int))
 cond (decide (left1_1<0)) (some (-1)) (some left1_1)
def jO:FL:=(106,⟨[.val false (.one (.sl pd)) false,.val false oR false],[.val false oR (some true)],λa=>fA a.1 a.2⟩)::jN
theorem nD:Gd jO:=oX nC 106 Tryz.f106 [] Tryz.func106
def fB (a0:List oZ) (left1:Int):Option Int :=
 let left1_1:=oL (left1-(a0.length:Int))
 cond (decide (left1_1<0)) (some (-1)) (some left1_1)
def jP:FL:=(202,⟨[.val false (.one (.sl pE)) false,.val false oR false],[.val false oR (some true)],λa=>fB a.1 a.2⟩)::jO
theorem nE:Gd jP:=oX nD 202 Tryz.f202 [] Tryz.func202
def d6 (a0:List Int) (left1:Int):Option Int :=
 let left1_1:=oL (left1-(a0.length:Int))
 cond (decide (left1_1<0)) (some (-1)) (some left1_1)
def jQ:FL:=(203,⟨[.val false qu false,.val false oR false],[.val false oR (some true)],λa=>d6 a.1 a.2⟩)::jP
theorem nF:Gd jQ:=oX nE 203 Tryz.f203 [] Tryz.func203
def fC (a0:pU) (left1:Int):Option Int :=
 (fB a0.1 left1).bind λt8 =>
 cond (decide (t8<0))
 (some (-1))
 ((d6 a0.2 t8).bind λt14 =>
 cond (decide (t14<0)) (some (-1)) (some t14))
def jR:FL:=(107,⟨[.val true qO false,.val false oR false],[.val false oR (some true)],λa=>fC a.1 a.2⟩)::jQ
theorem nG:Gd jR:=oX nF 107 Tryz.f107 [] Tryz.func107
def fD (a0:oI) (left1:Int):Option Int :=
 let left1_1:=oL (left1-(a0.2.1.length:Int))
 cond (decide (left1_1<0))
 (some (-1))
 ((fy a0.2.2.1 left1_1).bind λt15 =>
 cond (decide (t15<0))
 (some (-1))
 ((fA a0.2.2.2.1 t15).bind λt21 =>
 cond (decide (t21<0))
 (some (-1))
 ((fC (a0.2.2.2.2.1,a0.2.2.2.2.2.1) t21).bind λt27 =>
 cond (decide (t27<0)) (some (-1)) (some t27))))
def jS:FL:=(26,⟨[.val true p4 false,.val false oR false],[.val false oR (some true)],λa=>fD a.1 a.2⟩)::jR
theorem nH:Gd jS:=oX nG 26 Tryz.f26 [] Tryz.func26
def jT (a0:u4):Option u4 :=
 some a0
def jU:FL:=(215,⟨[.val true sN false],[.val true sN (some true)],λa=>jT a⟩)::jS
theorem nI:Gd jU:=oX nH 215 Tryz.f215 [] Tryz.func215
def fE (a0:Pt):Option Pt :=
 (jT a0.2.2.2).bind λt15 =>
 some (a0.1,a0.2.1,a0.2.2.1,t15.1,t15.2.1,t15.2.2.1,t15.2.2.2.1,t15.2.2.2.2)
def jV:FL:=(209,⟨[.val true qj false],[.val true qj (some true)],λa=>fE a⟩)::jU
theorem nJ:Gd jV:=oX nI 209 Tryz.f209 [] Tryz.func209
def nK (a0:List Pt) (i4:Int) (l:List Pt):Option ((Int×List Pt)⊕(List Pt)) :=
 cond (decide (i4<(a0.length:Int)))
 ((at? a0 i4).bind λx18 =>
 (fE x18).bind λt20 =>
 (ix l.length i4).bind λj21 =>
 (l[j21]?).bind λx =>
 some (.inl (oL (i4+1),l.set j21 t20)))
 (some (.inr l))
def fF (a0:List Pt):Option (List Pt) :=
 (uR (a0.length:Int)).bind λn =>
 (loop (λz=>nK a0 z.1 z.2) (0,List.replicate n ((false,0,false,0,0,0,0,0):Pt))).bind λd =>
 some d
def jW:FL:=(110,⟨[.val false (.one (.sl qj)) false],[.val false (.one (.sl qj)) (some true)],λa=>fF a⟩)::jV
theorem nL:Gd jW:=oX nJ 110 Tryz.f110 [(0,⟨⟨[(4,false,[dI])],[(265216,.keep qj true)]⟩,
 ⟨[],[(265216,.keep qj true)]⟩,none⟩)] Tryz.func110
def fG (a0:oT):Option oT :=
 some a0
def jX:FL:=(210,⟨[.val true pd false],[.val true pd (some true)],λa=>fG a⟩)::jW
theorem nM:Gd jX:=oX nL 210 Tryz.f210 [] Tryz.func210
def nN (a0:List oT) (i4:Int) (l:List oT):Option ((Int×List oT)⊕(List oT)) :=
 cond (decide (i4<(a0.length:Int)))
 ((at? a0 i4).bind λx18 =>
 (fG x18).bind λt20 =>
 (ix l.length i4).bind λj21 =>
 (l[j21]?).bind λx =>
 some (.inl (oL (i4+1),l.set j21 t20)))
 (some (.inr l))
def fH (a0:List oT):Option (List oT) :=
 (uR (a0.length:Int)).bind λn =>
 (loop (λz=>nN a0 z.1 z.2) (0,List.replicate n ((0,0,0,0,false):oT))).bind λd =>
 some d
def jY:FL:=(111,⟨[.val false (.one (.sl pd)) false],[.val false (.one (.sl pd)) (some true)],λa=>fH a⟩)::jX
theorem nO:Gd jY:=oX nM 111 Tryz.f111 [(0,⟨⟨[(4,false,[dI])],[(265216,.keep pd true)]⟩,
 ⟨[],[(265216,.keep pd true)]⟩,none⟩)] Tryz.func111
def fJ (a0:oZ):Option oZ :=
 some a0
def jZ:FL:=(302,⟨[.val true pE false],[.val true pE (some true)],λa=>fJ a⟩)::jY
theorem nP:Gd jZ:=oX nO 302 Tryz.f302 [] Tryz.func302
def nQ (a0:List oZ) (i4:Int) (l:List oZ):Option ((Int×List oZ)⊕(List oZ)) :=
 cond (decide (i4<(a0.length:Int)))
 ((at? a0 i4).bind λx18 =>
 (fJ x18).bind λt20 =>
 (ix l.length i4).bind λj21 =>
 (l[j21]?).bind λx =>
 some (.inl (oL (i4+1),l.set j21 t20)))
 (some (.inr l))
def fK (a0:List oZ):Option (List oZ) :=
 (uR (a0.length:Int)).bind λn =>
 (loop (λz=>nQ a0 z.1 z.2) (0,List.replicate n ((0,0,0):oZ))).bind λd =>
 some d
def kc:FL:=(211,⟨[.val false (.one (.sl pE)) false],[.val false (.one (.sl pE)) (some true)],λa=>fK a⟩)::jZ
theorem nR:Gd kc:=oX nP 211 Tryz.f211 [(0,⟨⟨[(4,false,[dI])],[(265216,.keep pE true)]⟩,
 ⟨[],[(265216,.keep pE true)]⟩,none⟩)] Tryz.func211
def nS (a0:List Int) (i4:Int) (l:List Int):Option ((Int×List Int)⊕(List Int)) :=
 cond (decide (i4<(a0.length:Int)))
 ((at? a0 i4).bind λx18 =>
 (ix l.length i4).bind λj20 =>
 (l[j20]?).bind λx =>
 some (.inl (oL (i4+1),l.set j20 x18)))
 (some (.inr l))
def d7 (a0:List Int):Option (List Int) :=
 (uR (a0.length:Int)).bind λn =>
 (loop (λz=>nS a0 z.1 z.2) (0,List.replicate n (0:Int))).bind λd =>
 some d
def ke:FL:=(212,⟨[.val false qu false],[.val false qu (some true)],λa=>d7 a⟩)::kc
theorem nT:Gd ke:=oX nR 212 Tryz.f212 [(0,⟨⟨[(4,false,[dI])],[(265216,.keep oR true)]⟩,
 ⟨[],[(265216,.keep oR true)]⟩,none⟩)] Tryz.func212
def eF (a0:pU):Option pU :=
 (fK a0.1).bind λt6 =>
 (d7 a0.2).bind λt10 =>
 some (t6,t10)
def kf:FL:=(112,⟨[.val true qO false],[.val true qO (some true)],λa=>eF a⟩)::ke
theorem nU:Gd kf:=oX nT 112 Tryz.f112 [] Tryz.func112
def bB (a0:oI):Option oI :=
 (fF a0.2.2.1).bind λt12 =>
 (fH a0.2.2.2.1).bind λt16 =>
 (eF (a0.2.2.2.2.1,a0.2.2.2.2.2.1)).bind λt20 =>
 some (a0.1,a0.2.1,t12,t16,t20.1,t20.2,a0.2.2.2.2.2.2.1,a0.2.2.2.2.2.2.2.1,a0.2.2.2.2.2.2.2.2.1,a0.2.2.2.2.2.2.2.2.2.1,a0.2.2.2.2.2.2.2.2.2.2)
def kg:FL:=(29,⟨[.val true p4 false],[.val true p4 (some true)],λa=>bB a⟩)::kf
theorem nV:Gd kg:=oX nU 29 Tryz.f29 [] Tryz.func29
def eG (a0:u4) (b1:u4):Option Bool :=
 cond (a0.1 != b1.1)
 (some false)
 (cond (a0.2.1 != b1.2.1)
 (some false)
 (cond (a0.2.2.1 != b1.2.2.1)
 (some false)
 (cond (a0.2.2.2.1 != b1.2.2.2.1)
 (some false)
 (cond (a0.2.2.2.2 != b1.2.2.2.2) (some false) (some true)))))
def kh:FL:=(226,⟨[.val true sN false,.val true sN false],[.val false pL (some true)],λa=>eG a.1 a.2⟩)::kg
theorem nW:Gd kh:=oX nV 226 Tryz.f226 [] Tryz.func226
def d8 (a0:Pt) (b1:Pt):Option Bool :=
 cond (!(a0.1==b1.1))
 (some false)
 (cond (a0.2.1 != b1.2.1)
 (some false)
 (cond (!(a0.2.2.1==b1.2.2.1))
 (some false)
 ((eG a0.2.2.2 b1.2.2.2).bind λt24 =>
 cond (!t24) (some false) (some true))))
def ki:FL:=(220,⟨[.val true qj false,.val true qj false],[.val false pL (some true)],λa=>d8 a.1 a.2⟩)::kh
theorem nX:Gd ki:=oX nW 220 Tryz.f220 [] Tryz.func220
def nY (a0:List Pt) (b1:List Pt) (i5:Int):Option (Int⊕(Unit⊕Bool)) :=
 cond (decide (i5<(a0.length:Int)))
 ((at? a0 i5).bind λx19 =>
 (at? b1 i5).bind λx23 =>
 (d8 x19 x23).bind λt25 =>
 cond (!t25) (some (.inr (.inr false))) (some (.inl (oL (i5+1)))))
 (some (.inr (.inl ())))
def fL (a0:List Pt) (b1:List Pt):Option Bool :=
 cond ((a0.length:Int) != (b1.length:Int))
 (some false)
 ((loop (λz=>nY a0 b1 z) 0).bind (Sum.elim (λd =>
 some true) (λr=>some r)))
def kj:FL:=(115,⟨[.val false (.one (.sl qj)) false,.val false (.one (.sl qj)) false],[.val false pL (some true)],λa=>fL a.1 a.2⟩)::ki
theorem nZ:Gd kj:=oX nX 115 Tryz.f115 [(0,⟨⟨[(5,false,[dI])],[]⟩,
 ⟨[],[]⟩,some ⟨[(4,false,[dB])],[]⟩⟩)] Tryz.func115
def d9 (a0:oT) (b1:oT):Option Bool :=
 cond (a0.1 != b1.1)
 (some false)
 (cond (a0.2.1 != b1.2.1)
 (some false)
 (cond (a0.2.2.1 != b1.2.2.1)
 (some false)
 (cond (a0.2.2.2.1 != b1.2.2.2.1)
 (some false)
 (cond (!(a0.2.2.2.2==b1.2.2.2.2)) (some false) (some true)))))
def kk:FL:=(221,⟨[.val true pd false,.val true pd false],[.val false pL (some true)],λa=>d9 a.1 a.2⟩)::kj
theorem o4:Gd kk:=oX nZ 221 Tryz.f221 [] Tryz.func221
def o5 (a0:List oT) (b1:List oT) (i5:Int):Option (Int⊕(Unit⊕Bool)) :=
 cond (decide (i5<(a0.length:Int)))
 ((at? a0 i5).bind λx19 =>
 (at? b1 i5).bind λx23 =>
 (d9 x19 x23).bind λt25 =>
 cond (!t25) (some (.inr (.inr false))) (some (.inl (oL (i5+1)))))
 (some (.inr (.inl ())))
def fM (a0:List oT) (b1:List oT):Option Bool :=
 cond ((a0.length:Int) != (b1.length:Int))
 (some false)
 ((loop (λz=>o5 a0 b1 z) 0).bind (Sum.elim (λd =>
 some true) (λr=>some r)))
def kl:FL:=(116,⟨[.val false (.one (.sl pd)) false,.val false (.one (.sl pd)) false],[.val false pL (some true)],λa=>fM a.1 a.2⟩)::kk
theorem o6:Gd kl:=oX o4 116 Tryz.f116 [(0,⟨⟨[(5,false,[dI])],[]⟩,
 ⟨[],[]⟩,some ⟨[(4,false,[dB])],[]⟩⟩)] Tryz.func116
def da (a0:oZ) (b1:oZ):Option Bool :=
 cond (a0.1 != b1.1)
 (some false)
 (cond (a0.2.1 != b1.2.1) (some false) (cond (a0.2.2 != b1.2.2) (some false) (some true)))
def ko:FL:=(312,⟨[.val true pE false,.val true pE false],[.val false pL (some true)],λa=>da a.1 a.2⟩)::kl
theorem o7:Gd ko:=oX o6 312 Tryz.f312 [] Tryz.func312
def o8 (a0:List oZ) (b1:List oZ) (i5:Int):Option (Int⊕(Unit⊕Bool)) :=
 cond (decide (i5<(a0.length:Int)))
 ((at? a0 i5).bind λx19 =>
 (at? b1 i5).bind λx23 =>
 (da x19 x23).bind λt25 =>
 cond (!t25) (some (.inr (.inr false))) (some (.inl (oL (i5+1)))))
 (some (.inr (.inl ())))
def fN (a0:List oZ) (b1:List oZ):Option Bool :=
 cond ((a0.length:Int) != (b1.length:Int))
 (some false)
 ((loop (λz=>o8 a0 b1 z) 0).bind (Sum.elim (λd =>
 some true) (λr=>some r)))
def kq:FL:=(222,⟨[.val false (.one (.sl pE)) false,.val false (.one (.sl pE)) false],[.val false pL (some true)],λa=>fN a.1 a.2⟩)::ko
theorem o9:Gd kq:=oX o7 222 Tryz.f222 [(0,⟨⟨[(5,false,[dI])],[]⟩,
 ⟨[],[]⟩,some ⟨[(4,false,[dB])],[]⟩⟩)] Tryz.func222
def oa (a0:List Int) (b1:List Int) (i5:Int):Option (Int⊕(Unit⊕Bool)) :=
 cond (decide (i5<(a0.length:Int)))
 ((at? a0 i5).bind λx19 =>
 (at? b1 i5).bind λx23 =>
 cond (x19 != x23) (some (.inr (.inr false))) (some (.inl (oL (i5+1)))))
 (some (.inr (.inl ())))
def dc (a0:List Int) (b1:List Int):Option Bool :=
 cond ((a0.length:Int) != (b1.length:Int))
 (some false)
 ((loop (λz=>oa a0 b1 z) 0).bind (Sum.elim (λd =>
 some true) (λr=>some r)))
def kt:FL:=(223,⟨[.val false qu false,.val false qu false],[.val false pL (some true)],λa=>dc a.1 a.2⟩)::kq
theorem ob:Gd kt:=oX o9 223 Tryz.f223 [(0,⟨⟨[(5,false,[dI])],[]⟩,
 ⟨[],[]⟩,some ⟨[(4,false,[dB])],[]⟩⟩)] Tryz.func223
def eH (a0:pU) (b1:pU):Option Bool :=
 (fN a0.1 b1.1).bind λt9 =>
 cond (!t9)
 (some false)
 ((dc a0.2 b1.2).bind λt15 =>
 cond (!t15) (some false) (some true))
def ku:FL:=(117,⟨[.val true qO false,.val true qO false],[.val false pL (some true)],λa=>eH a.1 a.2⟩)::kt
theorem oc:Gd ku:=oX ob 117 Tryz.f117 [] Tryz.func117
def bC (a0:oI) (b1:oI):Option Bool :=
 cond (a0.1 != b1.1)
 (some false)
 (cond (!(a0.2.1==b1.2.1))
 (some false)
 ((fL a0.2.2.1 b1.2.2.1).bind λt19 =>
 cond (!t19)
 (some false)
 ((fM a0.2.2.2.1 b1.2.2.2.1).bind λt25 =>
 cond (!t25)
 (some false)
 ((eH (a0.2.2.2.2.1,a0.2.2.2.2.2.1) (b1.2.2.2.2.1,b1.2.2.2.2.2.1)).bind λt31 =>
 cond (!t31)
 (some false)
 (cond (a0.2.2.2.2.2.2.1 != b1.2.2.2.2.2.2.1)
 (some false)
 (cond (a0.2.2.2.2.2.2.2.1 != b1.2.2.2.2.2.2.2.1)
 (some false)
 (cond (a0.2.2.2.2.2.2.2.2.1 != b1.2.2.2.2.2.2.2.2.1)
 (some false)
 (cond (a0.2.2.2.2.2.2.2.2.2.1 != b1.2.2.2.2.2.2.2.2.2.1)
 (some false)
 (cond (a0.2.2.2.2.2.2.2.2.2.2 != b1.2.2.2.2.2.2.2.2.2.2) (some false) (some true))))))))))
def kv:FL:=(32,⟨[.val true p4 false,.val true p4 false],[.val false pL (some true)],λa=>bC a.1 a.2⟩)::ku
theorem od:Gd kv:=oX oc 32 Tryz.f32 [] Tryz.func32
def eI (p0:List Pt) (i1_1:Int) (t5:Int):Option ((Int×Int)⊕(Int⊕Int)) :=
 cond (decide (t5<(p0.length:Int)))
 ((at? p0 t5).bind λx14 =>
 cond (!(x14.1==((i1_1.tmod 3)==0)))
 (some (.inr (.inr (-1))))
 ((at? p0 t5).bind λx25 =>
 cond (x25.2.1 != (oL (i1_1+1)))
 (some (.inr (.inr (-1))))
 (let i1_2:=oL ((oL (i1_1+1))+1)
 (at? p0 t5).bind λx34 =>
 cond (!(x34.2.2.1==((i1_2.tmod 3)==0)))
 (some (.inr (.inr (-1))))
 ((at? p0 t5).bind λx45 =>
 cond (x45.2.2.2.1 != (oL (i1_2+1)))
 (some (.inr (.inr (-1))))
 (let i1_3:=oL ((oL (i1_2+1))+1)
 (at? p0 t5).bind λx55 =>
 cond (x55.2.2.2.2.1 != i1_3)
 (some (.inr (.inr (-1))))
 ((at? p0 t5).bind λx65 =>
 cond (x65.2.2.2.2.2.1 != (oL (i1_3+1)))
 (some (.inr (.inr (-1))))
 (let i1_4:=oL ((oL (i1_3+1))+1)
 (at? p0 t5).bind λx75 =>
 cond (x75.2.2.2.2.2.2.1 != i1_4)
 (some (.inr (.inr (-1))))
 ((at? p0 t5).bind λx85 =>
 cond (x85.2.2.2.2.2.2.2 != (oL (i1_4+1)))
 (some (.inr (.inr (-1))))
 (let i1_5:=oL ((oL (i1_4+1))+1)
 some (.inl (i1_5,oL (t5+1))))))))))))
 (some (.inr (.inl i1_1)))
def eJ (p0:List Pt) (i1:Int):Option Int :=
 (loop (λz=>eI p0 z.1 z.2) (i1,0)).bind (Sum.elim (λd =>
 some d) (λr=>some r))
def kw:FL:=(123,⟨[.val false (.one (.sl qj)) false,.val false oR false],[.val false oR (some true)],λa=>eJ a.1 a.2⟩)::kv
theorem oe:Gd kw:=oX od 123 Tryz.f123 [(0,⟨⟨[(1,false,[dI]),(5,false,[dI])],[]⟩,
 ⟨[(1,false,[dI])],[]⟩,some ⟨[(4,false,[dI])],[]⟩⟩)] Tryz.func123
def eK (a0:List oT) (k1_1:Int) (i5:Int):Option ((Int×Int)⊕(Int⊕Int)) :=
 cond (decide (i5<(a0.length:Int)))
 ((at? a0 i5).bind λx14 =>
 cond (x14.1 != k1_1)
 (some (.inr (.inr (-1))))
 ((at? a0 i5).bind λx23 =>
 cond (x23.2.1 != (oL (k1_1+1)))
 (some (.inr (.inr (-1))))
 (let k1_2:=oL ((oL (k1_1+1))+1)
 (at? a0 i5).bind λx32 =>
 cond (x32.2.2.1 != k1_2)
 (some (.inr (.inr (-1))))
 ((at? a0 i5).bind λx41 =>
 cond (x41.2.2.2.1 != (oL (k1_2+1)))
 (some (.inr (.inr (-1))))
 (let k1_3:=oL ((oL (k1_2+1))+1)
 (at? a0 i5).bind λx50 =>
 cond (!(x50.2.2.2.2==((k1_3.tmod 3)==0)))
 (some (.inr (.inr (-1))))
 (some (.inl (oL (k1_3+1),oL (i5+1)))))))))
 (some (.inr (.inl k1_1)))
def eL (a0:List oT) (k1:Int):Option Int :=
 (loop (λz=>eK a0 z.1 z.2) (k1,0)).bind (Sum.elim (λd =>
 some d) (λr=>some r))
def kz:FL:=(124,⟨[.val false (.one (.sl pd)) false,.val false oR false],[.val false oR (some true)],λa=>eL a.1 a.2⟩)::kw
theorem og:Gd kz:=oX oe 124 Tryz.f124 [(0,⟨⟨[(1,false,[dI]),(5,false,[dI])],[]⟩,
 ⟨[(1,false,[dI])],[]⟩,some ⟨[(4,false,[dI])],[]⟩⟩)] Tryz.func124
def eM (a0:List oZ) (k1_1:Int) (i5:Int):Option ((Int×Int)⊕(Int⊕Int)) :=
 cond (decide (i5<(a0.length:Int)))
 ((at? a0 i5).bind λx14 =>
 cond (x14.1 != k1_1)
 (some (.inr (.inr (-1))))
 ((at? a0 i5).bind λx23 =>
 cond (x23.2.1 != (oL (k1_1+1)))
 (some (.inr (.inr (-1))))
 (let k1_2:=oL ((oL (k1_1+1))+1)
 (at? a0 i5).bind λx32 =>
 cond (x32.2.2 != k1_2)
 (some (.inr (.inr (-1))))
 (some (.inl (oL (k1_2+1),oL (i5+1)))))))
 (some (.inr (.inl k1_1)))
def eN (a0:List oZ) (k1:Int):Option Int :=
 (loop (λz=>eM a0 z.1 z.2) (k1,0)).bind (Sum.elim (λd =>
 some d) (λr=>some r))
def kA:FL:=(229,⟨[.val false (.one (.sl pE)) false,.val false oR false],[.val false oR (some true)],λa=>eN a.1 a.2⟩)::kz
theorem oh:Gd kA:=oX og 229 Tryz.f229 [(0,⟨⟨[(1,false,[dI]),(5,false,[dI])],[]⟩,
 ⟨[(1,false,[dI])],[]⟩,some ⟨[(4,false,[dI])],[]⟩⟩)] Tryz.func229
def eO (a0:List Int) (k1_1:Int) (i5:Int):Option ((Int×Int)⊕(Int⊕Int)) :=
 cond (decide (i5<(a0.length:Int)))
 ((at? a0 i5).bind λx14 =>
 cond (x14 != k1_1)
 (some (.inr (.inr (-1))))
 (some (.inl (oL (k1_1+1),oL (i5+1)))))
 (some (.inr (.inl k1_1)))
def cl (a0:List Int) (k1:Int):Option Int :=
 (loop (λz=>eO a0 z.1 z.2) (k1,0)).bind (Sum.elim (λd =>
 some d) (λr=>some r))
def kB:FL:=(230,⟨[.val false qu false,.val false oR false],[.val false oR (some true)],λa=>cl a.1 a.2⟩)::kA
theorem oi:Gd kB:=oX oh 230 Tryz.f230 [(0,⟨⟨[(1,false,[dI]),(5,false,[dI])],[]⟩,
 ⟨[(1,false,[dI])],[]⟩,some ⟨[(4,false,[dI])],[]⟩⟩)] Tryz.func230
def eP (a0:pU) (k1:Int):Option Int :=
 (eN a0.1 k1).bind λt8 =>
 cond (decide (t8<0))
 (some (-1))
 ((cl a0.2 t8).bind λt14 =>
 cond (decide (t14<0)) (some (-1)) (some t14))
def kC:FL:=(125,⟨[.val true qO false,.val false oR false],[.val false oR (some true)],λa=>eP a.1 a.2⟩)::kB
theorem oj:Gd kC:=oX oi 125 Tryz.f125 [] Tryz.func125
def cm (a0:oI) (k1:Int):Option Int :=
 (eJ a0.2.2.1 k1).bind λt8 =>
 cond (decide (t8<0))
 (some (-1))
 ((eL a0.2.2.2.1 t8).bind λt14 =>
 cond (decide (t14<0))
 (some (-1))
 ((eP (a0.2.2.2.2.1,a0.2.2.2.2.2.1) t14).bind λt20 =>
 cond (decide (t20<0)) (some (-1)) (some t20)))
def kD:FL:=(36,⟨[.val true p4 false,.val false oR false],[.val false oR (some true)],λa=>cm a.1 a.2⟩)::kC
theorem ol:Gd kD:=oX oj 36 Tryz.f36 [] Tryz.func36
def fO (a0:rk) (left1:Int):Option Int :=
 let left1_1:=oL (left1-(a0.2.2.1.length:Int))
 cond (decide (left1_1<0))
 (some (-1))
 ((d6 a0.2.2.2 left1_1).bind λt15 =>
 cond (decide (t15<0)) (some (-1)) (some t15))
def kE:FL:=(328,⟨[.val true sv false,.val false oR false],[.val false oR (some true)],λa=>fO a.1 a.2⟩)::kD
theorem om:Gd kE:=oX ol 328 Tryz.f328 [] Tryz.func328
def eQ (a0:oK) (left1:Int):Option Int :=
 (d6 a0.1 left1).bind λt8 =>
 cond (decide (t8<0))
 (some (-1))
 ((fO a0.2 t8).bind λt14 =>
 cond (decide (t14<0)) (some (-1)) (some t14))
def kF:FL:=(261,⟨[.val true oV false,.val false oR false],[.val false oR (some true)],λa=>eQ a.1 a.2⟩)::kE
theorem oo:Gd kF:=oX om 261 Tryz.f261 [] Tryz.func261
def kG (a0:List oK) (left1_2:Int) (i5:Int):Option ((Int×Int)⊕(Int⊕Int)) :=
 cond (decide (i5<(a0.length:Int)))
 ((at? a0 i5).bind λx20 =>
 (eQ x20 left1_2).bind λt23 =>
 cond (decide (t23<0)) (some (.inr (.inr (-1)))) (some (.inl (t23,oL (i5+1)))))
 (some (.inr (.inl left1_2)))
def fP (a0:List oK) (left1:Int):Option Int :=
 let left1_1:=oL (left1-(a0.length:Int))
 cond (decide (left1_1<0))
 (some (-1))
 ((loop (λz=>kG a0 z.1 z.2) (left1_1,0)).bind (Sum.elim (λd =>
 some d) (λr=>some r)))
def kH:FL:=(153,⟨[.val false (.one (.sl oV)) false,.val false oR false],[.val false oR (some true)],λa=>fP a.1 a.2⟩)::kF
theorem oq:Gd kH:=oX oo 153 Tryz.f153 [(0,⟨⟨[(1,false,[dI]),(5,false,[dI])],[]⟩,
 ⟨[(1,false,[dI])],[]⟩,some ⟨[(4,false,[dI])],[]⟩⟩)] Tryz.func153
def fQ (a0:ph) (left1:Int):Option Int :=
 (fP a0.2.2.2.2 left1).bind λt8 =>
 cond (decide (t8<0)) (some (-1)) (some t8)
def kJ:FL:=(68,⟨[.val true qx false,.val false oR false],[.val false oR (some true)],λa=>fQ a.1 a.2⟩)::kH
theorem ot:Gd kJ:=oX oq 68 Tryz.f68 [] Tryz.func68
def eR (a0:rk):Option rk :=
 (d7 a0.2.2.2).bind λt15 =>
 some (a0.1,a0.2.1,a0.2.2.1,t15)
def kK:FL:=(329,⟨[.val true sv false],[.val true sv (some true)],λa=>eR a⟩)::kJ
theorem ou:Gd kK:=oX ot 329 Tryz.f329 [] Tryz.func329
def de (a0:oK):Option oK :=
 (d7 a0.1).bind λt6 =>
 (eR a0.2).bind λt10 =>
 some (t6,t10.1,t10.2.1,t10.2.2.1,t10.2.2.2)
def kL:FL:=(262,⟨[.val true oV false],[.val true oV (some true)],λa=>de a⟩)::kK
theorem ov:Gd kL:=oX ou 262 Tryz.f262 [] Tryz.func262
def ow (a0:List oK) (i4:Int) (l:List oK):Option ((Int×List oK)⊕(List oK)) :=
 cond (decide (i4<(a0.length:Int)))
 ((at? a0 i4).bind λx18 =>
 (de x18).bind λt20 =>
 (ix l.length i4).bind λj21 =>
 (l[j21]?).bind λx =>
 some (.inl (oL (i4+1),l.set j21 t20)))
 (some (.inr l))
def fR (a0:List oK):Option (List oK) :=
 (uR (a0.length:Int)).bind λn =>
 (loop (λz=>ow a0 z.1 z.2) (0,List.replicate n (([],0,0,[],[]):oK))).bind λd =>
 some d
def kM:FL:=(154,⟨[.val false (.one (.sl oV)) false],[.val false (.one (.sl oV)) (some true)],λa=>fR a⟩)::kL
theorem ox:Gd kM:=oX ov 154 Tryz.f154 [(0,⟨⟨[(4,false,[dI])],[(265216,.keep oV true)]⟩,
 ⟨[],[(265216,.keep oV true)]⟩,none⟩)] Tryz.func154
def bD (a0:ph):Option ph :=
 (fR a0.2.2.2.2).bind λt18 =>
 some (a0.1,a0.2.1,a0.2.2.1,a0.2.2.2.1,t18)
def kN:FL:=(69,⟨[.val true qx false],[.val true qx (some true)],λa=>bD a⟩)::kM
theorem oy:Gd kN:=oX ox 69 Tryz.f69 [] Tryz.func69
def eS (a0:rk) (b1:rk):Option Bool :=
 cond (a0.1 != b1.1)
 (some false)
 (cond (a0.2.1 != b1.2.1)
 (some false)
 (cond (!(a0.2.2.1==b1.2.2.1))
 (some false)
 ((dc a0.2.2.2 b1.2.2.2).bind λt24 =>
 cond (!t24) (some false) (some true))))
def kO:FL:=(330,⟨[.val true sv false,.val true sv false],[.val false pL (some true)],λa=>eS a.1 a.2⟩)::kN
theorem oz:Gd kO:=oX oy 330 Tryz.f330 [] Tryz.func330
def df (a0:oK) (b1:oK):Option Bool :=
 (dc a0.1 b1.1).bind λt9 =>
 cond (!t9)
 (some false)
 ((eS a0.2 b1.2).bind λt15 =>
 cond (!t15) (some false) (some true))
def kP:FL:=(263,⟨[.val true oV false,.val true oV false],[.val false pL (some true)],λa=>df a.1 a.2⟩)::kO
theorem oA:Gd kP:=oX oz 263 Tryz.f263 [] Tryz.func263
def oB (a0:List oK) (b1:List oK) (i5:Int):Option (Int⊕(Unit⊕Bool)) :=
 cond (decide (i5<(a0.length:Int)))
 ((at? a0 i5).bind λx19 =>
 (at? b1 i5).bind λx23 =>
 (df x19 x23).bind λt25 =>
 cond (!t25) (some (.inr (.inr false))) (some (.inl (oL (i5+1)))))
 (some (.inr (.inl ())))
def fS (a0:List oK) (b1:List oK):Option Bool :=
 cond ((a0.length:Int) != (b1.length:Int))
 (some false)
 ((loop (λz=>oB a0 b1 z) 0).bind (Sum.elim (λd =>
 some true) (λr=>some r)))
def kQ:FL:=(155,⟨[.val false (.one (.sl oV)) false,.val false (.one (.sl oV)) false],[.val false pL (some true)],λa=>fS a.1 a.2⟩)::kP
theorem oC:Gd kQ:=oX oA 155 Tryz.f155 [(0,⟨⟨[(5,false,[dI])],[]⟩,
 ⟨[],[]⟩,some ⟨[(4,false,[dB])],[]⟩⟩)] Tryz.func155
def bE (a0:ph) (b1:ph):Option Bool :=
 cond (a0.1 != b1.1)
 (some false)
 (cond (a0.2.1 != b1.2.1)
 (some false)
 (cond (a0.2.2.1 != b1.2.2.1)
 (some false)
 (cond (a0.2.2.2.1 != b1.2.2.2.1)
 (some false)
 ((fS a0.2.2.2.2 b1.2.2.2.2).bind λt29 =>
 cond (!t29) (some false) (some true)))))
def kR:FL:=(70,⟨[.val true qx false,.val true qx false],[.val false pL (some true)],λa=>bE a.1 a.2⟩)::kQ
theorem oD:Gd kR:=oX oC 70 Tryz.f70 [] Tryz.func70
def eT (k0_1:Int) (out3:List UInt8):Option ((Int×List UInt8)⊕(List UInt8)) :=
 cond (decide (k0_1>0))
 ((Da (tE [IntKind.u8.wrap (oL (48+(k0_1.tmod 10)))]) out3).bind λt15 =>
 some (.inl (oL (k0_1.tdiv 10),t15)))
 (some (.inr out3))
def dg (k0:Int):Option (List UInt8) :=
 cond (decide (k0<=0))
 (some [109,48])
 ((loop (λz=>eT z.1 z.2) (k0,[])).bind λd =>
 (Da [109] d).bind λt19 =>
 some t19)
def kS:FL:=(264,⟨[.val false oR false],[.val false LL (some true)],λa=>dg a⟩)::kR
theorem oE:Gd kS:=oX oD 264 Tryz.f264 [(0,⟨⟨[(0,false,[dI]),(3,false,[dS])],[]⟩,
 ⟨[(3,false,[dS])],[]⟩,none⟩)] Tryz.func264
def eU (a0:List oK) (k1_1:Int) (i5:Int):Option ((Int×Int)⊕(Int⊕Int)) :=
 cond (decide (i5<(a0.length:Int)))
 ((at? a0 i5).bind λx14 =>
 (cl x14.1 k1_1).bind λt18 =>
 cond (decide (t18<0))
 (some (.inr (.inr (-1))))
 ((at? a0 i5).bind λx23 =>
 cond (x23.2.1 != t18)
 (some (.inr (.inr (-1))))
 ((at? a0 i5).bind λx33 =>
 cond (x33.2.2.1 != (oL (t18+1)))
 (some (.inr (.inr (-1))))
 (let k1_2:=oL ((oL (t18+1))+1)
 (at? a0 i5).bind λx43 =>
 (dg k1_2).bind λt48 =>
 cond (!(x43.2.2.2.1==t48))
 (some (.inr (.inr (-1))))
 ((at? a0 i5).bind λx54 =>
 (cl x54.2.2.2.2 (oL (k1_2+1))).bind λt59 =>
 cond (decide (t59<0)) (some (.inr (.inr (-1)))) (some (.inl (t59,oL (i5+1)))))))))
 (some (.inr (.inl k1_1)))
def eV (a0:List oK) (k1:Int):Option Int :=
 (loop (λz=>eU a0 z.1 z.2) (k1,0)).bind (Sum.elim (λd =>
 some d) (λr=>some r))
def kT:FL:=(157,⟨[.val false (.one (.sl oV)) false,.val false oR false],[.val false oR (some true)],λa=>eV a.1 a.2⟩)::kS
theorem oF:Gd kT:=oX oE 157 Tryz.f157 [(0,⟨⟨[(1,false,[dI]),(5,false,[dI])],[]⟩,
 ⟨[(1,false,[dI])],[]⟩,some ⟨[(4,false,[dI])],[]⟩⟩)] Tryz.func157
def dh (a0:ph) (k1:Int):Option Int :=
 (eV a0.2.2.2.2 k1).bind λt8 =>
 cond (decide (t8<0)) (some (-1)) (some t8)
def ah:FL:=(72,⟨[.val true qx false,.val false oR false],[.val false oR (some true)],λa=>dh a.1 a.2⟩)::kT
theorem aS:Gd ah:=oX oF 72 Tryz.f72 [] Tryz.func72
def eW (i1:Int) (t5:Int) (l:List Pt):Option ((Int×Int×List Pt)⊕(Int×List Pt)) :=
 cond (decide (t5<(l.length:Int)))
 ((ix l.length t5).bind λj17 =>
 (l[j17]?).bind λx =>
 let ls:List Pt:=l.set j17 ((i1.tmod 3)==0,x.2.1,x.2.2.1,x.2.2.2.1,x.2.2.2.2.1,x.2.2.2.2.2.1,x.2.2.2.2.2.2.1,x.2.2.2.2.2.2.2)
 (ix ls.length t5).bind λj24 =>
 (ls[j24]?).bind λx_1 =>
 let ls_1:List Pt:=ls.set j24 (x_1.1,oL (i1+1),x_1.2.2.1,x_1.2.2.2.1,x_1.2.2.2.2.1,x_1.2.2.2.2.2.1,x_1.2.2.2.2.2.2.1,x_1.2.2.2.2.2.2.2)
 (ix ls_1.length t5).bind λj33 =>
 (ls_1[j33]?).bind λx_2 =>
 let ls_2:List Pt:=ls_1.set j33 (x_2.1,x_2.2.1,((oL ((oL (i1+1))+1)).tmod 3)==0,x_2.2.2.2.1,x_2.2.2.2.2.1,x_2.2.2.2.2.2.1,x_2.2.2.2.2.2.2.1,x_2.2.2.2.2.2.2.2)
 let i1_1:=oL ((oL ((oL (i1+1))+1))+1)
 (ix ls_2.length t5).bind λj40 =>
 (ls_2[j40]?).bind λx_3 =>
 let ls_3:List Pt:=ls_2.set j40 (x_3.1,x_3.2.1,x_3.2.2.1,i1_1,x_3.2.2.2.2.1,x_3.2.2.2.2.2.1,x_3.2.2.2.2.2.2.1,x_3.2.2.2.2.2.2.2)
 (ix ls_3.length t5).bind λj48 =>
 (ls_3[j48]?).bind λx_4 =>
 let ls_4:List Pt:=ls_3.set j48 (x_4.1,x_4.2.1,x_4.2.2.1,x_4.2.2.2.1,oL (i1_1+1),x_4.2.2.2.2.2.1,x_4.2.2.2.2.2.2.1,x_4.2.2.2.2.2.2.2)
 let i1_2:=oL ((oL (i1_1+1))+1)
 (ix ls_4.length t5).bind λj56 =>
 (ls_4[j56]?).bind λx_5 =>
 let ls_5:List Pt:=ls_4.set j56 (x_5.1,x_5.2.1,x_5.2.2.1,x_5.2.2.2.1,x_5.2.2.2.2.1,i1_2,x_5.2.2.2.2.2.2.1,x_5.2.2.2.2.2.2.2)
 (ix ls_5.length t5).bind λj64 =>
 (ls_5[j64]?).bind λx_6 =>
 let ls_6:List Pt:=ls_5.set j64 (x_6.1,x_6.2.1,x_6.2.2.1,x_6.2.2.2.1,x_6.2.2.2.2.1,x_6.2.2.2.2.2.1,oL (i1_2+1),x_6.2.2.2.2.2.2.2)
 let i1_3:=oL ((oL (i1_2+1))+1)
 (ix ls_6.length t5).bind λj72 =>
 (ls_6[j72]?).bind λx_7 =>
 let ls_7:List Pt:=ls_6.set j72 (x_7.1,x_7.2.1,x_7.2.2.1,x_7.2.2.2.1,x_7.2.2.2.2.1,x_7.2.2.2.2.2.1,x_7.2.2.2.2.2.2.1,i1_3)
 some (.inl (oL (i1_3+1),oL (t5+1),ls_7)))
 (some (.inr (i1,l)))
def dj (a0:List Pt) (k1:Int):Option ((List Pt)×Int) :=
 (loop (λz=>eW z.1 z.2.1 z.2.2) (k1,0,a0)).bind λd =>
 some (d.2,d.1)
theorem LS:rF Tryz.prog ⟨tis,ah,[],true⟩:=aS.trees CO
def yt:tz:=⟨false,(.one (.sl qj)),λa k=>dj a k⟩
def yu:List (Nat×oP):=[(0,⟨⟨[(1,false,[dI]),(5,false,[dI])],[(1,.tree qj)]⟩,
 ⟨[(1,false,[dI])],[(1,.tree qj)]⟩,none⟩)]
theorem Cd:ta ⟨tis,ah,[],true⟩ yu Tryz.f119 (qP Tryz.f119) false (.one (.sl qj))=λa k=>dj a k:=by kernel_rfl
theorem Ce:rg Tryz.prog 119 yt:=by
 have h:=tX (ann:=yu) (agg:=false) (cs:=(.one (.sl qj))) LS vI Tryz.func119 (by kernel_rfl) (by kernel_rfl:Tryz.f119.body=some (qP Tryz.f119));rw[Cd]at h;exact h
def xr:List (FuncId×tz):=(119,yt)::[]
theorem H0:∀f M,oH xr f=some M->rg Tryz.prog f M:=sJ CO Ce
theorem JU:rF Tryz.prog ⟨tis,ah,xr,true⟩:=aS.trees H0
def eX (k1_1:Int) (i5:Int) (l:List oT):Option ((Int×Int×List oT)⊕(Int×List oT)) :=
 cond (decide (i5<(l.length:Int)))
 ((ix l.length i5).bind λj15 =>
 (l[j15]?).bind λx =>
 let ls:List oT:=l.set j15 (k1_1,x.2.1,x.2.2.1,x.2.2.2.1,x.2.2.2.2)
 (ix ls.length i5).bind λj22 =>
 (ls[j22]?).bind λx_1 =>
 let ls_1:List oT:=ls.set j22 (x_1.1,oL (k1_1+1),x_1.2.2.1,x_1.2.2.2.1,x_1.2.2.2.2)
 let k1_2:=oL ((oL (k1_1+1))+1)
 (ix ls_1.length i5).bind λj29 =>
 (ls_1[j29]?).bind λx_2 =>
 let ls_2:List oT:=ls_1.set j29 (x_2.1,x_2.2.1,k1_2,x_2.2.2.2.1,x_2.2.2.2.2)
 (ix ls_2.length i5).bind λj36 =>
 (ls_2[j36]?).bind λx_3 =>
 let ls_3:List oT:=ls_2.set j36 (x_3.1,x_3.2.1,x_3.2.2.1,oL (k1_2+1),x_3.2.2.2.2)
 let k1_3:=oL ((oL (k1_2+1))+1)
 (ix ls_3.length i5).bind λj45 =>
 (ls_3[j45]?).bind λx_4 =>
 let ls_4:List oT:=ls_3.set j45 (x_4.1,x_4.2.1,x_4.2.2.1,x_4.2.2.2.1,(k1_3.tmod 3)==0)
 some (.inl (oL (k1_3+1),oL (i5+1),ls_4)))
 (some (.inr (k1_1,l)))
def dk (a0:List oT) (k1:Int):Option ((List oT)×Int) :=
 (loop (λz=>eX z.1 z.2.1 z.2.2) (k1,0,a0)).bind λd =>
 some (d.2,d.1)
def wR:tz:=⟨false,(.one (.sl pd)),λa k=>dk a k⟩
def wS:List (Nat×oP):=[(0,⟨⟨[(1,false,[dI]),(5,false,[dI])],[(1,.tree pd)]⟩,
 ⟨[(1,false,[dI])],[(1,.tree pd)]⟩,none⟩)]
theorem AP:ta ⟨tis,ah,xr,true⟩ wS Tryz.f120 (qP Tryz.f120) false (.one (.sl pd))=λa k=>dk a k:=by kernel_rfl
theorem AQ:rg Tryz.prog 120 wR:=by
 have h:=tX (ann:=wS) (agg:=false) (cs:=(.one (.sl pd))) JU vI Tryz.func120 (by kernel_rfl) (by kernel_rfl:Tryz.f120.body=some (qP Tryz.f120));rw[AP]at h;exact h
def xt:List (FuncId×tz):=(120,wR)::xr
theorem H3:∀f M,oH xt f=some M->rg Tryz.prog f M:=sJ H0 AQ
theorem JV:rF Tryz.prog ⟨tis,ah,xt,true⟩:=aS.trees H3
def eY (k1_1:Int) (i5:Int) (l:List oZ):Option ((Int×Int×List oZ)⊕(Int×List oZ)) :=
 cond (decide (i5<(l.length:Int)))
 ((ix l.length i5).bind λj15 =>
 (l[j15]?).bind λx =>
 let ls:List oZ:=l.set j15 (k1_1,x.2.1,x.2.2)
 (ix ls.length i5).bind λj22 =>
 (ls[j22]?).bind λx_1 =>
 let ls_1:List oZ:=ls.set j22 (x_1.1,oL (k1_1+1),x_1.2.2)
 let k1_2:=oL ((oL (k1_1+1))+1)
 (ix ls_1.length i5).bind λj29 =>
 (ls_1[j29]?).bind λx_2 =>
 let ls_2:List oZ:=ls_1.set j29 (x_2.1,x_2.2.1,k1_2)
 some (.inl (oL (k1_2+1),oL (i5+1),ls_2)))
 (some (.inr (k1_1,l)))
def dl (a0:List oZ) (k1:Int):Option ((List oZ)×Int) :=
 (loop (λz=>eY z.1 z.2.1 z.2.2) (k1,0,a0)).bind λd =>
 some (d.2,d.1)
def wT:tz:=⟨false,(.one (.sl pE)),λa k=>dl a k⟩
def wU:List (Nat×oP):=[(0,⟨⟨[(1,false,[dI]),(5,false,[dI])],[(1,.tree pE)]⟩,
 ⟨[(1,false,[dI])],[(1,.tree pE)]⟩,none⟩)]
theorem AR:ta ⟨tis,ah,xt,true⟩ wU Tryz.f227 (qP Tryz.f227) false (.one (.sl pE))=λa k=>dl a k:=by kernel_rfl
theorem AS:rg Tryz.prog 227 wT:=by
 have h:=tX (ann:=wU) (agg:=false) (cs:=(.one (.sl pE))) JV vI Tryz.func227 (by kernel_rfl) (by kernel_rfl:Tryz.f227.body=some (qP Tryz.f227));rw[AR]at h;exact h
def xu:List (FuncId×tz):=(227,wT)::xt
theorem H4:∀f M,oH xu f=some M->rg Tryz.prog f M:=sJ H3 AS
theorem JW:rF Tryz.prog ⟨tis,ah,xu,true⟩:=aS.trees H4
def eZ (k1_1:Int) (i5:Int) (l:List Int):Option ((Int×Int×List Int)⊕(Int×List Int)) :=
 cond (decide (i5<(l.length:Int)))
 ((ix l.length i5).bind λj15 =>
 (l[j15]?).bind λx =>
 let ls:List Int:=l.set j15 k1_1
 some (.inl (oL (k1_1+1),oL (i5+1),ls)))
 (some (.inr (k1_1,l)))
def bG (a0:List Int) (k1:Int):Option ((List Int)×Int) :=
 (loop (λz=>eZ z.1 z.2.1 z.2.2) (k1,0,a0)).bind λd =>
 some (d.2,d.1)
def xv:tz:=⟨false,qu,λa k=>bG a k⟩
def xw:List (Nat×oP):=[(0,⟨⟨[(1,false,[dI]),(5,false,[dI])],[(1,.tree oR)]⟩,
 ⟨[(1,false,[dI])],[(1,.tree oR)]⟩,none⟩)]
theorem BI:ta ⟨tis,ah,xu,true⟩ xw Tryz.f228 (qP Tryz.f228) false qu=λa k=>bG a k:=by kernel_rfl
theorem BJ:rg Tryz.prog 228 xv:=by
 have h:=tX (ann:=xw) (agg:=false) (cs:=qu) JW vI Tryz.func228 (by kernel_rfl) (by kernel_rfl:Tryz.f228.body=some (qP Tryz.f228));rw[BI]at h;exact h
def xx:List (FuncId×tz):=(228,xv)::xu
theorem H5:∀f M,oH xx f=some M->rg Tryz.prog f M:=sJ H4 BJ
theorem JX:rF Tryz.prog ⟨tis,ah,xx,true⟩:=aS.trees H5
def dp (a0:pU) (k1:Int):Option (pU×Int) :=
 (dl a0.1 k1).bind λz =>
 (bG a0.2 z.2).bind λz_1 =>
 some ((z.1,z_1.1),z_1.2)
def xz:tz:=⟨true,qO,λa k=>dp a k⟩
theorem BK:ta ⟨tis,ah,xx,true⟩ [] Tryz.f121 (qP Tryz.f121) true qO=λa k=>dp a k:=by kernel_rfl
theorem BL:rg Tryz.prog 121 xz:=by
 have h:=tX (ann:=[]) (agg:=true) (cs:=qO) JX vI Tryz.func121 (by kernel_rfl) (by kernel_rfl:Tryz.f121.body=some (qP Tryz.f121));rw[BK]at h;exact h
def xA:List (FuncId×tz):=(121,xz)::xx
theorem H6:∀f M,oH xA f=some M->rg Tryz.prog f M:=sJ H5 BL
theorem JY:rF Tryz.prog ⟨tis,ah,xA,true⟩:=aS.trees H6
def bH (a0:oI) (k1:Int):Option (oI×Int) :=
 (dj a0.2.2.1 k1).bind λz =>
 (dk a0.2.2.2.1 z.2).bind λz_1 =>
 (dp (a0.2.2.2.2.1,a0.2.2.2.2.2.1) z_1.2).bind λz_2 =>
 some ((a0.1,a0.2.1,z.1,z_1.1,z_2.1.1,z_2.1.2,a0.2.2.2.2.2.2.1,a0.2.2.2.2.2.2.2.1,a0.2.2.2.2.2.2.2.2.1,a0.2.2.2.2.2.2.2.2.2.1,a0.2.2.2.2.2.2.2.2.2.2),z_2.2)
def vX:tz:=⟨true,p4,λa k=>bH a k⟩
theorem Ah:ta ⟨tis,ah,xA,true⟩ [] Tryz.f34 (qP Tryz.f34) true p4=λa k=>bH a k:=by kernel_rfl
theorem Ai:rg Tryz.prog 34 vX:=by
 have h:=tX (ann:=[]) (agg:=true) (cs:=p4) JY vI Tryz.func34 (by kernel_rfl) (by kernel_rfl:Tryz.f34.body=some (qP Tryz.f34));rw[Ah]at h;exact h
def yV:List (FuncId×tz):=(34,vX)::xA
theorem Ip:∀f M,oH yV f=some M->rg Tryz.prog f M:=sJ H6 Ai
theorem KU:rF Tryz.prog ⟨tis,ah,yV,true⟩:=aS.trees Ip
def f0 (k1_1:Int) (i5:Int) (l:List oK):Option ((Int×Int×List oK)⊕(Int×List oK)) :=
 cond (decide (i5<(l.length:Int)))
 ((ix l.length i5).bind λj14 =>
 (l[j14]?).bind λx16 =>
 (l[j14]?).bind λx =>
 (bG x.1 k1_1).bind λz =>
 let ls:List oK:=l.set j14 (z.1,x.2.1,x.2.2.1,x.2.2.2.1,x.2.2.2.2)
 (ix ls.length i5).bind λj22 =>
 (ls[j22]?).bind λx_1 =>
 let ls_1:List oK:=ls.set j22 (x_1.1,z.2,x_1.2.2.1,x_1.2.2.2.1,x_1.2.2.2.2)
 (ix ls_1.length i5).bind λj30 =>
 (ls_1[j30]?).bind λx_2 =>
 let ls_2:List oK:=ls_1.set j30 (x_2.1,x_2.2.1,oL (z.2+1),x_2.2.2.2.1,x_2.2.2.2.2)
 let k1_2:=oL ((oL (z.2+1))+1)
 (dg k1_2).bind λt38 =>
 (ix ls_2.length i5).bind λj39 =>
 (ls_2[j39]?).bind λx_3 =>
 let ls_3:List oK:=ls_2.set j39 (x_3.1,x_3.2.1,x_3.2.2.1,t38,x_3.2.2.2.2)
 (ix ls_3.length i5).bind λj46 =>
 (ls_3[j46]?).bind λx49 =>
 (ls_3[j46]?).bind λx_4 =>
 (bG x_4.2.2.2.2 (oL (k1_2+1))).bind λz_1 =>
 let ls_4:List oK:=ls_3.set j46 (x_4.1,x_4.2.1,x_4.2.2.1,x_4.2.2.2.1,z_1.1)
 some (.inl (z_1.2,oL (i5+1),ls_4)))
 (some (.inr (k1_1,l)))
def dq (a0:List oK) (k1:Int):Option ((List oK)×Int) :=
 (loop (λz=>f0 z.1 z.2.1 z.2.2) (k1,0,a0)).bind λd =>
 some (d.2,d.1)
def wV:tz:=⟨false,(.one (.sl oV)),λa k=>dq a k⟩
def wW:List (Nat×oP):=[(0,⟨⟨[(1,false,[dI]),(5,false,[dI])],[(1,.tree oV)]⟩,
 ⟨[(1,false,[dI])],[(1,.tree oV)]⟩,none⟩)]
theorem AT:ta ⟨tis,ah,yV,true⟩ wW Tryz.f156 (qP Tryz.f156) false (.one (.sl oV))=λa k=>dq a k:=by kernel_rfl
theorem AU:rg Tryz.prog 156 wV:=by
 have h:=tX (ann:=wW) (agg:=false) (cs:=(.one (.sl oV))) KU vI Tryz.func156 (by kernel_rfl) (by kernel_rfl:Tryz.f156.body=some (qP Tryz.f156));rw[AT]at h;exact h
def xB:List (FuncId×tz):=(156,wV)::yV
theorem H7:∀f M,oH xB f=some M->rg Tryz.prog f M:=sJ Ip AU
theorem JZ:rF Tryz.prog ⟨tis,ah,xB,true⟩:=aS.trees H7
def cn (a0:ph) (k1:Int):Option (ph×Int) :=
 (dq a0.2.2.2.2 k1).bind λz =>
 some ((a0.1,a0.2.1,a0.2.2.1,a0.2.2.2.1,z.1),z.2)
def yv:tz:=⟨true,qx,λa k=>cn a k⟩
theorem Cf:ta ⟨tis,ah,xB,true⟩ [] Tryz.f71 (qP Tryz.f71) true qx=λa k=>cn a k:=by kernel_rfl
theorem Cg:rg Tryz.prog 71 yv:=by
 have h:=tX (ann:=[]) (agg:=true) (cs:=qx) JZ vI Tryz.func71 (by kernel_rfl) (by kernel_rfl:Tryz.f71.body=some (qP Tryz.f71));rw[Cf]at h;exact h
def AW:List (FuncId×tz):=(71,yv)::xB
theorem KV:∀f M,oH AW f=some M->rg Tryz.prog f M:=sJ H7 Cg
theorem KW:rF Tryz.prog ⟨tis,ah,AW,true⟩:=aS.trees KV
def sn (p0:oI) (i1:ph):Option Bool :=
 (fD p0 1048576).bind λt22 =>
 cond (decide (t22<0))
 (some true)
 ((fQ i1 t22).bind λt27 =>
 cond (decide (t27<0))
 (some true)
 ((bB p0).bind λt32 =>
 (bD i1).bind λt34 =>
 (eE t32 t34).bind λt35 =>
 (bB p0).bind λt40 =>
 (bD i1).bind λt42 =>
 (cK t40 t42).bind λt46 =>
 (bC t46.1 t35.1).bind λt52 =>
 (cond (!t52)
 (some true)
 ((bE t46.2.1 t35.2.1).bind λt57 =>
 some (!t57))).bind λt59 =>
 (cond t59 (some true) (some (!(t46.2.2==t35.2.2)))).bind λt64 =>
 cond t64
 (some false)
 ((bB p0).bind λt67 =>
 (bC t40 t67).bind λt68 =>
 cond (!t68)
 (some false)
 ((bD i1).bind λt72 =>
 (bE t42 t72).bind λt73 =>
 cond (!t73)
 (some false)
 ((bH t40 1).bind λz =>
 (cn t42 z.2).bind λz_1 =>
 (cond (decide (z_1.2<0))
 (some true)
 ((bC t46.1 t35.1).bind λt86 =>
 some (!t86))).bind λt88 =>
 (cond t88
 (some true)
 ((bE t46.2.1 t35.2.1).bind λt92 =>
 some (!t92))).bind λt94 =>
 (cond t94 (some true) (some (!(t46.2.2==t35.2.2)))).bind λt99 =>
 cond t99
 (some false)
 ((bH t46.1 1).bind λz_2 =>
 (cn t46.2.1 z_2.2).bind λz_3 =>
 (cm (t46.1.1,t46.1.2.1,z_2.1.2.2.1,z_2.1.2.2.2.1,z_2.1.2.2.2.2.1,z_2.1.2.2.2.2.2.1,t46.1.2.2.2.2.2.2.1,t46.1.2.2.2.2.2.2.2.1,t46.1.2.2.2.2.2.2.2.2.1,t46.1.2.2.2.2.2.2.2.2.2.1,t46.1.2.2.2.2.2.2.2.2.2.2) 1).bind λt108 =>
 cond (decide (t108<0))
 (some false)
 ((dh (t46.2.1.1,t46.2.1.2.1,t46.2.1.2.2.1,t46.2.1.2.2.2.1,z_3.1.2.2.2.2) t108).bind λt113 =>
 cond (decide (t113<0))
 (some false)
 (cond (t113 != z_3.2)
 (some false)
 ((bB p0).bind λt121 =>
 (bD i1).bind λt123 =>
 (cK t121 t123).bind λt124 =>
 (bC t124.1 t35.1).bind λt130 =>
 (cond (!t130)
 (some true)
 ((bE t124.2.1 t35.2.1).bind λt135 =>
 some (!t135))).bind λt137 =>
 (cond t137 (some true) (some (!(t124.2.2==t35.2.2)))).bind λt142 =>
 cond t142
 (some false)
 ((cm (t46.1.1,t46.1.2.1,z_2.1.2.2.1,z_2.1.2.2.2.1,z_2.1.2.2.2.2.1,z_2.1.2.2.2.2.2.1,t46.1.2.2.2.2.2.2.1,t46.1.2.2.2.2.2.2.2.1,t46.1.2.2.2.2.2.2.2.2.1,t46.1.2.2.2.2.2.2.2.2.2.1,t46.1.2.2.2.2.2.2.2.2.2.2) 1).bind λt145 =>
 cond (decide (t145<0))
 (some false)
 ((dh (t46.2.1.1,t46.2.1.2.1,t46.2.1.2.2.1,t46.2.1.2.2.2.1,z_3.1.2.2.2.2) t145).bind λt150 =>
 cond (decide (t150<0)) (some false) (cond (t150 != z_3.2) (some false) (some true)))))))))))))
def yw:Fn:=⟨[.val true p4 false,.val true qx false],[.val false pL (some true)],λa=>sn a.1 a.2⟩
theorem yy:A3 ⟨tis,ah,AW,true⟩ [] Tryz.f10 (qP Tryz.f10) [.val true p4 false,.val true qx false] [.val false pL (some true)]=λa=>sn a.1 a.2:=by kernel_rfl
theorem m_laws_FnExactReplyOf:wg Tryz.prog 10 yw:=by
 have h:=DO (ann:=[]) (ps:=[.val true p4 false,.val true qx false]) (rs:=[.val false pL (some true)]) KW vI Tryz.func10 (by kernel_rfl) (by kernel_rfl:Tryz.f10.body=some (qP Tryz.f10));rw[yy]at h;exact h
end
end Go.V.W

