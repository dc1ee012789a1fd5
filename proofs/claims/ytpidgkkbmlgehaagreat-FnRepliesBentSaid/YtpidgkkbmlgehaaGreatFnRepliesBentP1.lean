/- The law FnRepliesBent: part of the proof that for every input it returns true. No condition. -/
import Derived.Test.YtpidgkkbmlgehaaGreatV4
import Derived.Test.YtpidgkkbmlgehaaGreatProg
import Derived.Test.YtpidgkkbmlgehaaGreatChecked
import Derived.KernelRfl
set_option linter.unusedVariables false
set_option linter.unusedSimpArgs false
namespace Go.V.W
open Go.Proofs
noncomputable section
def us:Nat->Nat->List (Nat×Bool×List pM)->List (Nat×Bool×List pM)|_,0,l=>l|a,n+1,l=>(a,false,[.undef])::us (a+1) n l
@[reducible] def oJ:Cs:=.one (.int .i64)
@[reducible] def pC:Cs:=.one .bool
@[reducible] def rr:Cs:=.one (.sl (.one (.int .u8)))
@[reducible] def qx:Cs:=.one (.sl (.one (.int .i64)))
@[reducible] def HS:Cs:=.one .str
@[reducible] def dI:pM:=.dat (.int .i64)
@[reducible] def dB:pM:=.dat .bool
@[reducible] def dS:pM:=.dat .str
@[reducible] def sR:Cs:=.cons (.int .i64) (.cons (.int .i64) (.cons .str qx))
@[reducible] def oK:Cs:=.cons (.sl oJ) (.cons (.int .i64) (.cons (.int .i64) (.cons .str qx)))
@[reducible] def qT:Cs:=.cons (.int .i64) (.cons (.int .i64) (.cons (.int .i64) (.cons (.int .i64) (.one (.sl oK)))))
@[reducible] def sS:Cs:=.cons (.int .i64) (.cons (.int .i64) (.cons (.int .i64) (.cons (.int .i64) oJ)))
@[reducible] def qy:Cs:=.cons .bool (.cons (.int .i64) (.cons .bool (.cons (.int .i64) (.cons (.int .i64) (.cons (.int .i64) (.cons (.int .i64) oJ))))))
@[reducible] def p3:Cs:=.cons (.int .i64) (.cons (.int .i64) (.cons (.int .i64) (.cons (.int .i64) pC)))
@[reducible] def pu:Cs:=.cons (.int .i64) (.cons (.int .i64) oJ)
@[reducible] def qh:Cs:=.cons (.sl pu) qx
@[reducible] def oV:Cs:=.cons (.int .i64) (.cons .str (.cons (.sl qy) (.cons (.sl p3) (.cons (.sl pu) (.cons (.sl oJ) (.cons (.int .i64) (.cons (.int .i64) (.cons (.int .i64) (.cons (.int .i64) oJ)))))))))
@[reducible] def pK:Cs:=.cons (.sl (.one (.int .u8))) (.cons (.int .i64) oJ)
abbrev rm:Type:=Int×Int×List UInt8×List Int
abbrev oC:Type:=List Int×Int×Int×List UInt8×List Int
abbrev p7:Type:=Int×Int×Int×Int×List oC
abbrev ul:Type:=Int×Int×Int×Int×Int
abbrev Pt:Type:=Bool×Int×Bool×Int×Int×Int×Int×Int
abbrev oG:Type:=Int×Int×Int×Int×Bool
abbrev oO:Type:=Int×Int×Int
abbrev pk:Type:=List oO×List Int
abbrev oA:Type:=Int×List UInt8×List Pt×List oG×List oO×List Int×Int×Int×Int×Int×Int
abbrev oL:Type:=List Int×Int×Int
def tis:List (Nat×p4):=[(2,⟨false,.one (.int .i64),[],0⟩),
 (3,⟨false,.one (.int .i64),[],0⟩),
 (4,⟨false,.one .bool,[],0⟩),
 (5,⟨false,.one (.int .u8),[],0⟩),
 (6,⟨false,.one (.int .u8),[],0⟩),
 (9,⟨false,.one .str,[],0⟩),
 (10,⟨false,.one .str,[],0⟩),
 (11,⟨false,.one .str,[],0⟩),
 (12,⟨false,.one (.int .u64),[],0⟩),
 (21,⟨false,.one (.int .i32),[],0⟩),
 (22,⟨false,.one (.sl (.one (.int .u8))),[],5⟩),
 (24,⟨false,.one (.sl qy),[],131⟩),
 (25,⟨false,.one (.sl p3),[],133⟩),
 (26,⟨false,.one (.sl pu),[],219⟩),
 (27,⟨false,.one (.sl oJ),[],3⟩),
 (28,⟨true,qh,[(26,0),(27,1)],0⟩),
 (29,⟨true,qh,[(26,0),(27,1)],0⟩),
 (30,⟨true,oV,[(3,0),(9,1),(24,2),(25,3),(29,4),(3,6),(3,7),(3,8),(3,9),(3,10)],0⟩),
 (31,⟨true,oV,[(3,0),(9,1),(24,2),(25,3),(29,4),(3,6),(3,7),(3,8),(3,9),(3,10)],0⟩),
 (32,⟨false,.one (.sl oK),[],46⟩),
 (33,⟨true,qT,[(3,0),(3,1),(3,2),(3,3),(32,4)],0⟩),
 (34,⟨true,qT,[(3,0),(3,1),(3,2),(3,3),(32,4)],0⟩),
 (43,⟨true,sR,[(3,0),(3,1),(9,2),(27,3)],0⟩),
 (44,⟨true,sR,[(3,0),(3,1),(9,2),(27,3)],0⟩),
 (45,⟨true,oK,[(27,0),(44,1)],0⟩),
 (46,⟨true,oK,[(27,0),(44,1)],0⟩),
 (51,⟨false,.one (.sl qy),[],241⟩),
 (52,⟨false,.one (.sl p3),[],243⟩),
 (53,⟨false,.one (.sl pu),[],308⟩),
 (54,⟨true,qh,[(53,0),(27,1)],0⟩),
 (55,⟨true,qh,[(53,0),(27,1)],0⟩),
 (56,⟨true,oV,[(3,0),(9,1),(51,2),(52,3),(55,4),(3,6),(3,7),(3,8),(3,9),(3,10)],0⟩),
 (57,⟨true,oV,[(3,0),(9,1),(51,2),(52,3),(55,4),(3,6),(3,7),(3,8),(3,9),(3,10)],0⟩),
 (58,⟨false,.one (.sl (.cons (.int .i64) (.cons (.int .i64) (.cons .bool (.cons (.sl (.one (.int .u8))) (.cons (.int .i64) (.cons (.int .i64) (.cons (.int .i64) (.cons (.sl (.one (.int .u8))) (.cons (.int .i64) (.cons (.int .i64) (.cons (.int .i64) (.cons (.int .i64) oJ))))))))))))),[],152⟩),
 (63,⟨false,.one (.sl (.cons (.int .i64) (.cons (.int .i64) (.cons .bool (.cons (.sl (.one (.int .u8))) (.cons (.int .i64) (.cons (.int .i64) (.cons (.int .i64) (.cons (.sl (.one (.int .u8))) (.cons (.int .i64) (.cons (.int .i64) (.cons (.int .i64) (.cons (.int .i64) oJ))))))))))))),[],101⟩),
 (69,⟨false,.one (.sl (.cons (.int .i64) (.cons (.sl (.one (.int .u8))) (.cons (.int .i64) (.cons (.int .i64) (.cons (.int .i64) (.cons (.int .i64) (.cons (.int .i64) (.cons (.sl oK) (.cons (.int .i64) (.cons .str (.cons (.sl qy) (.cons (.sl p3) (.cons (.sl pu) (.cons (.sl oJ) (.cons (.int .i64) (.cons (.int .i64) (.cons (.int .i64) (.cons (.int .i64) (.cons (.int .i64) (.cons (.int .i64) oJ))))))))))))))))))))),[],174⟩),
 (70,⟨true,.cons (.int .i64) (.cons .str (.cons (.sl qy) (.cons (.sl p3) (.cons (.sl pu) (.cons (.sl oJ) (.cons (.int .i64) (.cons (.int .i64) (.cons (.int .i64) (.cons (.int .i64) (.cons (.int .i64) (.cons .str (.cons (.sl (.cons (.int .i64) (.cons (.sl (.one (.int .u8))) (.cons (.int .i64) (.cons (.int .i64) (.cons (.int .i64) (.cons (.int .i64) (.cons (.int .i64) (.cons (.sl oK) (.cons (.int .i64) (.cons .str (.cons (.sl qy) (.cons (.sl p3) (.cons (.sl pu) (.cons (.sl oJ) (.cons (.int .i64) (.cons (.int .i64) (.cons (.int .i64) (.cons (.int .i64) (.cons (.int .i64) (.cons (.int .i64) oJ))))))))))))))))))))) (.cons (.int .i64) oJ))))))))))))),[(31,0),(9,11),(69,12),(3,13),(3,14)],0⟩),
 (71,⟨true,.cons (.int .i64) (.cons .str (.cons (.sl qy) (.cons (.sl p3) (.cons (.sl pu) (.cons (.sl oJ) (.cons (.int .i64) (.cons (.int .i64) (.cons (.int .i64) (.cons (.int .i64) (.cons (.int .i64) (.cons .str (.cons (.sl (.cons (.int .i64) (.cons (.sl (.one (.int .u8))) (.cons (.int .i64) (.cons (.int .i64) (.cons (.int .i64) (.cons (.int .i64) (.cons (.int .i64) (.cons (.sl oK) (.cons (.int .i64) (.cons .str (.cons (.sl qy) (.cons (.sl p3) (.cons (.sl pu) (.cons (.sl oJ) (.cons (.int .i64) (.cons (.int .i64) (.cons (.int .i64) (.cons (.int .i64) (.cons (.int .i64) (.cons (.int .i64) oJ))))))))))))))))))))) (.cons (.int .i64) oJ))))))))))))),[(31,0),(9,11),(69,12),(3,13),(3,14)],0⟩),
 (75,⟨false,.one (.sl (.cons (.int .i64) (.cons (.int .i64) (.cons (.int .i64) (.cons (.int .i64) (.cons (.int .i64) (.one (.sl oK)))))))),[],81⟩),
 (80,⟨true,.cons (.int .i64) (.cons (.int .i64) (.cons (.int .i64) (.cons (.int .i64) (.cons (.int .i64) (.one (.sl oK)))))),[(3,0),(34,1)],0⟩),
 (81,⟨true,.cons (.int .i64) (.cons (.int .i64) (.cons (.int .i64) (.cons (.int .i64) (.cons (.int .i64) (.one (.sl oK)))))),[(3,0),(34,1)],0⟩),
 (92,⟨false,.one (.sl (.cons (.int .i64) (.cons (.int .i64) (.cons (.int .i64) (.cons (.int .i64) rr))))),[],190⟩),
 (96,⟨true,.cons (.int .i64) (.cons (.int .i64) (.cons (.int .i64) rr)),[(3,0),(3,1),(3,2),(22,3)],0⟩),
 (97,⟨true,.cons (.int .i64) (.cons (.int .i64) (.cons (.int .i64) rr)),[(3,0),(3,1),(3,2),(22,3)],0⟩),
 (98,⟨true,sS,[(3,0),(3,1),(3,2),(3,3),(3,4)],0⟩),
 (99,⟨true,sS,[(3,0),(3,1),(3,2),(3,3),(3,4)],0⟩),
 (100,⟨true,.cons (.int .i64) (.cons (.int .i64) (.cons .bool (.cons (.sl (.one (.int .u8))) (.cons (.int .i64) (.cons (.int .i64) (.cons (.int .i64) (.cons (.sl (.one (.int .u8))) (.cons (.int .i64) (.cons (.int .i64) (.cons (.int .i64) (.cons (.int .i64) oJ))))))))))),[(3,0),(3,1),(4,2),(22,3),(97,4),(99,8)],0⟩),
 (101,⟨true,.cons (.int .i64) (.cons (.int .i64) (.cons .bool (.cons (.sl (.one (.int .u8))) (.cons (.int .i64) (.cons (.int .i64) (.cons (.int .i64) (.cons (.sl (.one (.int .u8))) (.cons (.int .i64) (.cons (.int .i64) (.cons (.int .i64) (.cons (.int .i64) oJ))))))))))),[(3,0),(3,1),(4,2),(22,3),(97,4),(99,8)],0⟩),
 (108,⟨false,.one (.sl oK),[],284⟩),
 (109,⟨true,qT,[(3,0),(3,1),(3,2),(3,3),(108,4)],0⟩),
 (110,⟨true,qT,[(3,0),(3,1),(3,2),(3,3),(108,4)],0⟩),
 (130,⟨true,qy,[(4,0),(3,1),(4,2),(99,3)],0⟩),
 (131,⟨true,qy,[(4,0),(3,1),(4,2),(99,3)],0⟩),
 (132,⟨true,p3,[(3,0),(3,1),(3,2),(3,3),(4,4)],0⟩),
 (133,⟨true,p3,[(3,0),(3,1),(3,2),(3,3),(4,4)],0⟩),
 (149,⟨true,.cons (.int .i64) (.cons (.int .i64) (.cons (.int .i64) rr)),[(3,0),(3,1),(3,2),(22,3)],0⟩),
 (150,⟨true,sS,[(3,0),(3,1),(3,2),(3,3),(3,4)],0⟩),
 (151,⟨true,.cons (.int .i64) (.cons (.int .i64) (.cons .bool (.cons (.sl (.one (.int .u8))) (.cons (.int .i64) (.cons (.int .i64) (.cons (.int .i64) (.cons (.sl (.one (.int .u8))) (.cons (.int .i64) (.cons (.int .i64) (.cons (.int .i64) (.cons (.int .i64) oJ))))))))))),[(3,0),(3,1),(4,2),(22,3),(149,4),(150,8)],0⟩),
 (152,⟨true,.cons (.int .i64) (.cons (.int .i64) (.cons .bool (.cons (.sl (.one (.int .u8))) (.cons (.int .i64) (.cons (.int .i64) (.cons (.int .i64) (.cons (.sl (.one (.int .u8))) (.cons (.int .i64) (.cons (.int .i64) (.cons (.int .i64) (.cons (.int .i64) oJ))))))))))),[(3,0),(3,1),(4,2),(22,3),(149,4),(150,8)],0⟩),
 (173,⟨true,.cons (.int .i64) (.cons (.sl (.one (.int .u8))) (.cons (.int .i64) (.cons (.int .i64) (.cons (.int .i64) (.cons (.int .i64) (.cons (.int .i64) (.cons (.sl oK) (.cons (.int .i64) (.cons .str (.cons (.sl qy) (.cons (.sl p3) (.cons (.sl pu) (.cons (.sl oJ) (.cons (.int .i64) (.cons (.int .i64) (.cons (.int .i64) (.cons (.int .i64) (.cons (.int .i64) (.cons (.int .i64) oJ))))))))))))))))))),[(3,0),(22,1),(3,2),(34,3),(31,8),(3,19),(3,20)],0⟩),
 (174,⟨true,.cons (.int .i64) (.cons (.sl (.one (.int .u8))) (.cons (.int .i64) (.cons (.int .i64) (.cons (.int .i64) (.cons (.int .i64) (.cons (.int .i64) (.cons (.sl oK) (.cons (.int .i64) (.cons .str (.cons (.sl qy) (.cons (.sl p3) (.cons (.sl pu) (.cons (.sl oJ) (.cons (.int .i64) (.cons (.int .i64) (.cons (.int .i64) (.cons (.int .i64) (.cons (.int .i64) (.cons (.int .i64) oJ))))))))))))))))))),[(3,0),(22,1),(3,2),(34,3),(31,8),(3,19),(3,20)],0⟩),
 (185,⟨false,.one (.sl HS),[],9⟩),
 (189,⟨true,.cons (.int .i64) (.cons (.int .i64) (.cons (.int .i64) (.cons (.int .i64) rr))),[(3,0),(97,1)],0⟩),
 (190,⟨true,.cons (.int .i64) (.cons (.int .i64) (.cons (.int .i64) (.cons (.int .i64) rr))),[(3,0),(97,1)],0⟩),
 (201,⟨true,pK,[(22,0),(3,1),(3,2)],0⟩),
 (202,⟨true,pK,[(22,0),(3,1),(3,2)],0⟩),
 (214,⟨false,.one (.sl qx),[],27⟩),
 (218,⟨true,pu,[(3,0),(3,1),(3,2)],0⟩),
 (219,⟨true,pu,[(3,0),(3,1),(3,2)],0⟩),
 (240,⟨true,qy,[(4,0),(3,1),(4,2),(150,3)],0⟩),
 (241,⟨true,qy,[(4,0),(3,1),(4,2),(150,3)],0⟩),
 (243,⟨true,p3,[(3,0),(3,1),(3,2),(3,3),(4,4)],0⟩),
 (260,⟨true,.cons (.sl (.one (.int .u8))) (.cons (.int .i64) pC),[(22,0),(3,1),(4,2)],0⟩),
 (261,⟨true,.cons (.sl (.one (.int .u8))) (.cons (.int .i64) pC),[(22,0),(3,1),(4,2)],0⟩),
 (270,⟨false,.one (.int .u64),[],0⟩),
 (282,⟨true,sR,[(3,0),(3,1),(9,2),(27,3)],0⟩),
 (283,⟨true,oK,[(27,0),(282,1)],0⟩),
 (284,⟨true,oK,[(27,0),(282,1)],0⟩),
 (308,⟨true,pu,[(3,0),(3,1),(3,2)],0⟩),
 (313,⟨true,.cons (.sl (.one (.int .u8))) (.cons (.int .i64) pC),[(22,0),(3,1),(4,2)],0⟩),
 (314,⟨true,.cons (.sl (.one (.int .u8))) (.cons (.int .i64) pC),[(22,0),(3,1),(4,2)],0⟩),
 (343,⟨false,.one (.int .i8),[],0⟩),
 (351,⟨false,.one (.int .u32),[],0⟩),
 (352,⟨false,.one (.int .u8),[],0⟩),
 (353,⟨false,.one (.int .u8),[],0⟩),
 (356,⟨false,.one (.int .i32),[],0⟩),
 (357,⟨false,.one (.int .i32),[],0⟩)]
theorem tisT:qv Tryz.prog tis:=qv.of_all (by kernel_rfl)
theorem JM:BW Tryz.prog tis:=BW.of_all (by kernel_rfl)
theorem tisD:Deep Tryz.prog tis:=Deep.of_all (by kernel_rfl)
theorem IY:Tryz.prog.follows .mixedOrders=true:=by kernel_rfl
def Aj (fn:Func):Code:=match fn.body with|some c=>c|none=>.skip
theorem mM:sP Tryz.prog ⟨tis,[],[],false⟩:=⟨tisT,JM,(λf F h=>by cases h),(λf M h=>by cases h),(λh=>by cases h)⟩
theorem HT {l : List (FuncId×Fn)} (g : sP Tryz.prog ⟨tis, l, [], false⟩) (n : FuncId) (f : Func) (ann : List (Nat×oI)) (F : Fn) (h1 : Tryz.prog.funcs[n]?=some f) (h2 : (f.name == "runtime.NumGoroutine")=false := by kernel_rfl) (h3 : f.body=some (Aj f) := by kernel_rfl) (h4 : A0 ⟨tis, l, [], false⟩ ann f (Aj f) F.ps F.rs=F.den := by kernel_rfl) : vD Tryz.prog n F := by
 have h:=FU (ann:=ann) (ps:=F.ps) (rs:=F.rs) g IY h1 h2 h3;rw[h4]at h;exact h
abbrev FL:=List (FuncId×Fn)
def Gd (l:FL):Prop:=sP Tryz.prog ⟨tis,l,[],false⟩
theorem oM {l : List (FuncId×Fn)} (g : Gd l) (n : FuncId) (f : Func) (ann : List (Nat×oI)) {F : Fn} (h1 : Tryz.prog.funcs[n]?=some f) (h2 : (f.name == "runtime.NumGoroutine")=false := by kernel_rfl) (h3 : f.body=some (Aj f) := by kernel_rfl) (h4 : A0 ⟨tis, l, [], false⟩ ann f (Aj f) F.ps F.rs=F.den := by kernel_rfl) : Gd ((n, F)::l) := sP.cons g (HT g n f ann F h1 h2 h3 h4)
def fN (code0:List Int):Option Bool :=
 let t2:=decide ((code0.length:Int)>1048576)
 some t2
def iU:FL:=(11,⟨[.val false rr false],[.val false pC (some true)],λa=>fN a⟩)::[]
theorem mN:Gd iU:=oM mM 11 Tryz.f11 [] Tryz.func11
def ae (n0:Int) (low1:Int) (high2:Int):Option Bool :=
 (cond (decide (n0>=low1)) (some (decide (n0<=high2))) (some false)).bind λt14 =>
 some t14
def iV:FL:=(90,⟨[.val false oJ false,.val false oJ false,.val false oJ false],[.val false pC (some true)],λa=>ae a.1 a.2.1 a.2.2⟩)::iU
theorem mO:Gd iV:=oM mN 90 Tryz.f90 [] Tryz.func90
def aI (o0:List Int) (t7:Int):Option (Int⊕(Unit⊕Bool)) :=
 cond (decide (t7<(o0.length:Int)))
 ((at? o0 t7).bind λx9 =>
 (ae x9 0 100000).bind λt12 =>
 cond (!t12) (some (.inr (.inr false))) (some (.inl (oB (t7+1)))))
 (some (.inr (.inl ())))
def ak (o0:List Int):Option Bool :=
 (loop (λz=>aI o0 z) 0).bind (Sum.elim (λd =>
 (ae (o0.length:Int) 1 10).bind λt17 =>
 some t17) (λr=>some r))
def iW:FL:=(91,⟨[.val false qx false],[.val false pC (some true)],λa=>ak a⟩)::iV
theorem mP:Gd iW:=oM mO 91 Tryz.f91 [(0,⟨⟨[(7,false,[dI])],[]⟩,
 ⟨[],[]⟩,some ⟨[(2,false,[dB])],[]⟩⟩)] Tryz.func91
def cG (a0:List Int) (b1:List Int) (t13:Int):Option (Int⊕(Unit⊕Bool)) :=
 cond (decide (t13<(a0.length:Int)))
 ((at? a0 t13).bind λx18 =>
 (at? b1 t13).bind λx22 =>
 cond (x18 != x22) (some (.inr (.inr false))) (some (.inl (oB (t13+1)))))
 (some (.inr (.inl ())))
def au (a0:List Int) (b1:List Int):Option Bool :=
 cond ((a0.length:Int) != (b1.length:Int))
 (some false)
 ((loop (λz=>cG a0 b1 z) 0).bind (Sum.elim (λd =>
 some true) (λr=>some r)))
def iX:FL:=(19,⟨[.val false qx false,.val false qx false],[.val false pC (some true)],λa=>au a.1 a.2⟩)::iW
theorem mQ:Gd iX:=oM mP 19 Tryz.f19 [(0,⟨⟨[(13,false,[dI])],[]⟩,
 ⟨[],[]⟩,some ⟨[(4,false,[dB])],[]⟩⟩)] Tryz.func19
def aA (a0:rm) (b1:rm):Option Bool :=
 (cond (a0.1==b1.1) (some (a0.2.1==b1.2.1)) (some false)).bind λt16 =>
 (cond t16 (some (a0.2.2.1==b1.2.2.1)) (some false)).bind λt23 =>
 (cond t23
 ((au a0.2.2.2 b1.2.2.2).bind λt29 =>
 some t29)
 (some false)).bind λt30 =>
 some t30
def iY:FL:=(20,⟨[.val true sR false,.val true sR false],[.val false pC (some true)],λa=>aA a.1 a.2⟩)::iX
theorem mR:Gd iY:=oM mQ 20 Tryz.f20 [] Tryz.func20
def ax (n0:Int):Option Bool :=
 (ae n0 (-2147483648) 2147483647).bind λt4 =>
 some t4
def iZ:FL:=(93,⟨[.val false oJ false],[.val false pC (some true)],λa=>ax a⟩)::iY
theorem mS:Gd iZ:=oM mR 93 Tryz.f93 [] Tryz.func93
def am (v0:rm):Option Bool :=
 cond (v0.1==2)
 ((ax v0.2.1).bind λt17 =>
 (cond t17
 ((aA v0 (v0.1,v0.2.1,[],[])).bind λt43 =>
 some t43)
 (some false)).bind λt44 =>
 some t44)
 (cond (v0.1==4)
 (let ok4:=decide ((v0.2.2.1.length:Int)<=20)
 (cond ok4
 ((aA v0 (v0.1,0,v0.2.2.1,[])).bind λt43_1 =>
 some t43_1)
 (some false)).bind λt44_1 =>
 some t44_1)
 (cond (v0.1==6)
 ((ak v0.2.2.2).bind λt34 =>
 (cond t34
 ((aA v0 (v0.1,0,[],v0.2.2.2)).bind λt43_2 =>
 some t43_2)
 (some false)).bind λt44_2 =>
 some t44_2)
 (cond (v0.1==5)
 (cond (v0.1==5)
 (((aA v0 (v0.1,0,[],[])).bind λt43_3 =>
 some t43_3).bind λt44_3 =>
 some t44_3)
 (some false))
 (cond (v0.1==128)
 (cond (v0.1==128)
 (((aA v0 (v0.1,0,[],[])).bind λt43_4 =>
 some t43_4).bind λt44_4 =>
 some t44_4)
 (some false))
 (cond (v0.1==130)
 (((aA v0 (v0.1,0,[],[])).bind λt43_5 =>
 some t43_5).bind λt44_5 =>
 some t44_5)
 (some false))))))
def ja:FL:=(92,⟨[.val true sR false],[.val false pC (some true)],λa=>am a⟩)::iZ
theorem mT:Gd ja:=oM mS 92 Tryz.f92 [] Tryz.func92
def f6 (p0:p7) (t35:Int):Option (Int⊕(Unit⊕Bool)) :=
 cond (decide (t35<(p0.2.2.2.2.length:Int)))
 ((at? p0.2.2.2.2 t35).bind λx38 =>
 (cond (decide (t35>=10))
 (some true)
 ((ak x38.1).bind λt45 =>
 some (!t45))).bind λt47 =>
 (cond t47
 (some true)
 ((am x38.2).bind λt51 =>
 some (!t51))).bind λt53 =>
 cond t53 (some (.inr (.inr false))) (some (.inl (oB (t35+1)))))
 (some (.inr (.inl ())))
def jb (p0:p7) (t35_1:Int):Option (Int⊕(Unit⊕Bool)) :=
 cond (decide (t35_1<(p0.2.2.2.2.length:Int)))
 ((at? p0.2.2.2.2 t35_1).bind λx38_1 =>
 (cond (decide (t35_1>=10))
 (some true)
 ((ak x38_1.1).bind λt45_1 =>
 some (!t45_1))).bind λt47_1 =>
 (cond t47_1
 (some true)
 ((am x38_1.2).bind λt51_1 =>
 some (!t51_1))).bind λt53_1 =>
 cond t53_1 (some (.inr (.inr false))) (some (.inl (oB (t35_1+1)))))
 (some (.inr (.inl ())))
def jc (p0:p7) (t35_2:Int):Option (Int⊕(Unit⊕Bool)) :=
 cond (decide (t35_2<(p0.2.2.2.2.length:Int)))
 ((at? p0.2.2.2.2 t35_2).bind λx38_2 =>
 (cond (decide (t35_2>=10))
 (some true)
 ((ak x38_2.1).bind λt45_2 =>
 some (!t45_2))).bind λt47_2 =>
 (cond t47_2
 (some true)
 ((am x38_2.2).bind λt51_2 =>
 some (!t51_2))).bind λt53_2 =>
 cond t53_2 (some (.inr (.inr false))) (some (.inl (oB (t35_2+1)))))
 (some (.inr (.inl ())))
def jd (p0:p7) (t35_3:Int):Option (Int⊕(Unit⊕Bool)) :=
 cond (decide (t35_3<(p0.2.2.2.2.length:Int)))
 ((at? p0.2.2.2.2 t35_3).bind λx38_3 =>
 (cond (decide (t35_3>=10))
 (some true)
 ((ak x38_3.1).bind λt45_3 =>
 some (!t45_3))).bind λt47_3 =>
 (cond t47_3
 (some true)
 ((am x38_3.2).bind λt51_3 =>
 some (!t51_3))).bind λt53_3 =>
 cond t53_3 (some (.inr (.inr false))) (some (.inl (oB (t35_3+1)))))
 (some (.inr (.inl ())))
def je (p0:p7) (t35_4:Int):Option (Int⊕(Unit⊕Bool)) :=
 cond (decide (t35_4<(p0.2.2.2.2.length:Int)))
 ((at? p0.2.2.2.2 t35_4).bind λx38_4 =>
 (cond (decide (t35_4>=10))
 (some true)
 ((ak x38_4.1).bind λt45_4 =>
 some (!t45_4))).bind λt47_4 =>
 (cond t47_4
 (some true)
 ((am x38_4.2).bind λt51_4 =>
 some (!t51_4))).bind λt53_4 =>
 cond t53_4 (some (.inr (.inr false))) (some (.inl (oB (t35_4+1)))))
 (some (.inr (.inl ())))
def jf (p0:p7) (t35_5:Int):Option (Int⊕(Unit⊕Bool)) :=
 cond (decide (t35_5<(p0.2.2.2.2.length:Int)))
 ((at? p0.2.2.2.2 t35_5).bind λx38_5 =>
 (cond (decide (t35_5>=10))
 (some true)
 ((ak x38_5.1).bind λt45_5 =>
 some (!t45_5))).bind λt47_5 =>
 (cond t47_5
 (some true)
 ((am x38_5.2).bind λt51_5 =>
 some (!t51_5))).bind λt53_5 =>
 cond t53_5 (some (.inr (.inr false))) (some (.inl (oB (t35_5+1)))))
 (some (.inr (.inl ())))
def jg (p0:p7) (t35_6:Int):Option (Int⊕(Unit⊕Bool)) :=
 cond (decide (t35_6<(p0.2.2.2.2.length:Int)))
 ((at? p0.2.2.2.2 t35_6).bind λx38_6 =>
 (cond (decide (t35_6>=10))
 (some true)
 ((ak x38_6.1).bind λt45_6 =>
 some (!t45_6))).bind λt47_6 =>
 (cond t47_6
 (some true)
 ((am x38_6.2).bind λt51_6 =>
 some (!t51_6))).bind λt53_6 =>
 cond t53_6 (some (.inr (.inr false))) (some (.inl (oB (t35_6+1)))))
 (some (.inr (.inl ())))
def jh (p0:p7) (t35_7:Int):Option (Int⊕(Unit⊕Bool)) :=
 cond (decide (t35_7<(p0.2.2.2.2.length:Int)))
 ((at? p0.2.2.2.2 t35_7).bind λx38_7 =>
 (cond (decide (t35_7>=10))
 (some true)
 ((ak x38_7.1).bind λt45_7 =>
 some (!t45_7))).bind λt47_7 =>
 (cond t47_7
 (some true)
 ((am x38_7.2).bind λt51_7 =>
 some (!t51_7))).bind λt53_7 =>
 cond t53_7 (some (.inr (.inr false))) (some (.inl (oB (t35_7+1)))))
 (some (.inr (.inl ())))
def ji (p0:p7) (t35_8:Int):Option (Int⊕(Unit⊕Bool)) :=
 cond (decide (t35_8<(p0.2.2.2.2.length:Int)))
 ((at? p0.2.2.2.2 t35_8).bind λx38_8 =>
 (cond (decide (t35_8>=10))
 (some true)
 ((ak x38_8.1).bind λt45_8 =>
 some (!t45_8))).bind λt47_8 =>
 (cond t47_8
 (some true)
 ((am x38_8.2).bind λt51_8 =>
 some (!t51_8))).bind λt53_8 =>
 cond t53_8 (some (.inr (.inr false))) (some (.inl (oB (t35_8+1)))))
 (some (.inr (.inl ())))
def dH (p0:p7):Option Bool :=
 cond (p0.1==160)
 (cond (p0.1==160)
 ((cond (p0.2.2.1 != 0) (some true) (some (p0.2.2.2.1 != 0))).bind λt18 =>
 cond t18
 (some false)
 ((loop (λz=>f6 p0 z) 0).bind (Sum.elim (λd =>
 (ax p0.2.1).bind λt57 =>
 some t57) (λr=>some r))))
 (cond (p0.1==162)
 (cond (p0.1==162)
 ((ae p0.2.2.1 0 1000).bind λt24 =>
 (cond (!t24)
 (some true)
 ((ae p0.2.2.2.1 0 1000).bind λt29 =>
 some (!t29))).bind λt31 =>
 cond t31
 (some false)
 ((loop (λz=>jb p0 z) 0).bind (Sum.elim (λd_1 =>
 (ax p0.2.1).bind λt57_1 =>
 some t57_1) (λr_1=>some r_1))))
 (some false))
 (cond (p0.1==165)
 ((ae p0.2.2.1 0 1000).bind λt24_1 =>
 (cond (!t24_1)
 (some true)
 ((ae p0.2.2.2.1 0 1000).bind λt29_1 =>
 some (!t29_1))).bind λt31_1 =>
 cond t31_1
 (some false)
 ((loop (λz=>jc p0 z) 0).bind (Sum.elim (λd_2 =>
 (ax p0.2.1).bind λt57_2 =>
 some t57_2) (λr_2=>some r_2))))
 (some false))))
 (cond (p0.1==161)
 (cond (p0.1==161)
 ((cond (p0.2.2.1 != 0) (some true) (some (p0.2.2.2.1 != 0))).bind λt18_1 =>
 cond t18_1
 (some false)
 ((loop (λz=>jd p0 z) 0).bind (Sum.elim (λd_3 =>
 (ax p0.2.1).bind λt57_3 =>
 some t57_3) (λr_3=>some r_3))))
 (cond (p0.1==162)
 (cond (p0.1==162)
 ((ae p0.2.2.1 0 1000).bind λt24_2 =>
 (cond (!t24_2)
 (some true)
 ((ae p0.2.2.2.1 0 1000).bind λt29_2 =>
 some (!t29_2))).bind λt31_2 =>
 cond t31_2
 (some false)
 ((loop (λz=>je p0 z) 0).bind (Sum.elim (λd_4 =>
 (ax p0.2.1).bind λt57_4 =>
 some t57_4) (λr_4=>some r_4))))
 (some false))
 (cond (p0.1==165)
 ((ae p0.2.2.1 0 1000).bind λt24_3 =>
 (cond (!t24_3)
 (some true)
 ((ae p0.2.2.2.1 0 1000).bind λt29_3 =>
 some (!t29_3))).bind λt31_3 =>
 cond t31_3
 (some false)
 ((loop (λz=>jf p0 z) 0).bind (Sum.elim (λd_5 =>
 (ax p0.2.1).bind λt57_5 =>
 some t57_5) (λr_5=>some r_5))))
 (some false))))
 (cond (p0.1==163)
 ((cond (p0.2.2.1 != 0) (some true) (some (p0.2.2.2.1 != 0))).bind λt18_2 =>
 cond t18_2
 (some false)
 ((loop (λz=>jg p0 z) 0).bind (Sum.elim (λd_6 =>
 (ax p0.2.1).bind λt57_6 =>
 some t57_6) (λr_6=>some r_6))))
 (cond (p0.1==162)
 (cond (p0.1==162)
 ((ae p0.2.2.1 0 1000).bind λt24_4 =>
 (cond (!t24_4)
 (some true)
 ((ae p0.2.2.2.1 0 1000).bind λt29_4 =>
 some (!t29_4))).bind λt31_4 =>
 cond t31_4
 (some false)
 ((loop (λz=>jh p0 z) 0).bind (Sum.elim (λd_7 =>
 (ax p0.2.1).bind λt57_7 =>
 some t57_7) (λr_7=>some r_7))))
 (some false))
 (cond (p0.1==165)
 ((ae p0.2.2.1 0 1000).bind λt24_5 =>
 (cond (!t24_5)
 (some true)
 ((ae p0.2.2.2.1 0 1000).bind λt29_5 =>
 some (!t29_5))).bind λt31_5 =>
 cond t31_5
 (some false)
 ((loop (λz=>ji p0 z) 0).bind (Sum.elim (λd_8 =>
 (ax p0.2.1).bind λt57_8 =>
 some t57_8) (λr_8=>some r_8))))
 (some false)))))
def jj:FL:=(17,⟨[.val true qT false],[.val false pC (some true)],λa=>dH a⟩)::ja
theorem mU:Gd jj:=oM mT 17 Tryz.f17 [(1,⟨⟨(35,false,[dI])::us 43 4 (us 49 4 []),[]⟩,
 ⟨[],[]⟩,some ⟨[(2,false,[dB])],[]⟩⟩)] Tryz.func17
def bV (tag0:Int) (body1:List Int):Option ((List Int)×Bool) :=
 (ae tag0 0 255).bind λt8 =>
 (cond (!t8) (some true) (some (decide ((body1.length:Int)>250)))).bind λt14 =>
 cond t14
 (some ([],false))
 (cond (decide ((body1.length:Int)>=128))
 ((oX [IntKind.u8.wrap (tag0)] ([129]:List Int)).bind λzs23 =>
 (oX zs23 [IntKind.u8.wrap ((body1.length:Int))]).bind λzs29 =>
 (oX zs29 body1).bind λzs31 =>
 some (zs31,true))
 ((oX [IntKind.u8.wrap (tag0)] [IntKind.u8.wrap ((body1.length:Int))]).bind λzs29_1 =>
 (oX zs29_1 body1).bind λzs31_1 =>
 some (zs31_1,true)))
def jk:FL:=(182,⟨[.val false oJ false,.val false rr false],[.val false rr (some true),.val false pC (some true)],λa=>bV a.1 a.2⟩)::jj
theorem mV:Gd jk:=oM mU 182 Tryz.f182 [] Tryz.func182
def dJ (b0:List Int):Option (List Int) :=
 (oX [] b0).bind λzs4 =>
 some zs4
def jl:FL:=(131,⟨[.val false rr false],[.val false rr (some true)],λa=>dJ a⟩)::jk
theorem mW:Gd jl:=oM mV 131 Tryz.f131 [] Tryz.func131
def aV (b0:List Int) (tag1:Int) (body2:List Int):Option (List Int) :=
 (bV tag1 body2).bind λt12 =>
 (dJ b0).bind λt16 =>
 (oX t16 t12.1).bind λzs18 =>
 some zs18
def jm:FL:=(184,⟨[.val false rr false,.val false oJ false,.val false rr false],[.val false rr (some true)],λa=>aV a.1 a.2.1 a.2.2⟩)::jl
theorem mX:Gd jm:=oM mW 184 Tryz.f184 [] Tryz.func184
def bu (x14:Int) (k6:Int):Option (Int⊕Int) :=
 (shr .i64 x14 (oB (7*k6))).bind λt19 =>
 cond (decide (t19>127)) (some (.inl (oB (k6+1)))) (some (.inr k6))
def bW (x14:Int) (k6_2:Int) (out3_1:List Int):Option ((Int×List Int)⊕(List Int)) :=
 cond (decide (k6_2>0))
 ((shr .i64 x14 (oB (7*k6_2))).bind λt31 =>
 (oX out3_1 [IntKind.u8.wrap (oB ((rJ .i64 t31 127)+128))]).bind λzs36 =>
 some (.inl (oB (k6_2-1),zs36)))
 (some (.inr out3_1))
def cH (o0:List Int) (t12:Int) (out3:List Int):Option ((Int×List Int)⊕(List Int)) :=
 cond (decide (t12<(o0.length:Int)))
 ((at? o0 t12).bind λx14 =>
 (loop (λz=>bu x14 z) 0).bind λd =>
 (loop (λz=>bW x14 z.1 z.2) (d,out3)).bind λd_1 =>
 (oX d_1 [IntKind.u8.wrap (rJ .i64 x14 127)]).bind λzs42 =>
 some (.inl (oB (t12+1),zs42)))
 (some (.inr out3))
def cI (o0:List Int):Option (List Int) :=
 (ak o0).bind λt8 =>
 cond (!t8)
 (some [])
 ((loop (λz=>cH o0 z.1 z.2) (0,[])).bind λd_2 =>
 some d_2)
def jn:FL:=(185,⟨[.val false qx false],[.val false rr (some true)],λa=>cI a⟩)::jm
theorem mY:Gd jn:=oM mX 185 Tryz.f185 [(0,⟨⟨[(3,false,[.own 1000000000]),(12,false,[dI])],[(1000000000,.root (.one (.int .u8)) true)]⟩,
 ⟨[(3,false,[.own 1000000300])],[(1000000300,.root (.one (.int .u8)) true)]⟩,none⟩),
 (2,⟨⟨[(6,false,[dI])],[]⟩,
 ⟨[(6,false,[dI])],[]⟩,none⟩),
 (4,⟨⟨[(3,false,[.own 1000004000]),(6,false,[dI])],[(1000004000,.root (.one (.int .u8)) true)]⟩,
 ⟨[(3,false,[.own 1000004300])],[(1000004300,.root (.one (.int .u8)) true)]⟩,none⟩)] Tryz.func185
def aJ (n0_1:Int) (k3:Int):Option (Int⊕Int) :=
 (cond (decide (k3<4))
 ((shl .i64 (-1) (oB ((oB (8*k3))-1))).bind λt16 =>
 (shl .i64 1 (oB ((oB (8*k3))-1))).bind λt20 =>
 (ae n0_1 t16 (oB (t20-1))).bind λt22 =>
 some (!t22))
 (some false)).bind λt24 =>
 cond t24 (some (.inl (oB (k3+1)))) (some (.inr k3))
def ay (n0_1:Int) (i5:Int) (out4:List Int):Option ((Int×List Int)⊕(List Int)) :=
 cond (decide (i5>=0))
 ((shr .i64 n0_1 (oB (8*i5))).bind λt37 =>
 (oX out4 [IntKind.u8.wrap (t37)]).bind λzs40 =>
 some (.inl (oB (i5-1),zs40)))
 (some (.inr out4))
def dK (n0:Int):Option (List Int) :=
 let n0_1:=max2 (-2147483648) (min2 n0 2147483647)
 (loop (λz=>aJ n0_1 z) 1).bind λd =>
 (loop (λz=>ay n0_1 z.1 z.2) (oB (d-1),[])).bind λd_1 =>
 some d_1
def jo:FL:=(293,⟨[.val false oJ false],[.val false rr (some true)],λa=>dK a⟩)::jn
theorem mZ:Gd jo:=oM mY 293 Tryz.f293 [(0,⟨⟨(3,false,[dI])::us 12 12 [],[]⟩,
 ⟨[(3,false,[dI])],[]⟩,none⟩),
 (2,⟨⟨[(4,false,[.own 1000002000]),(5,false,[dI])],[(1000002000,.root (.one (.int .u8)) true)]⟩,
 ⟨[(4,false,[.own 1000002300])],[(1000002300,.root (.one (.int .u8)) true)]⟩,none⟩)] Tryz.func293
def f7 (b0:List Int) (v1:rm):Option (List Int) :=
 (am v1).bind λt7 =>
 cond (!t7)
 ((dJ b0).bind λt10 =>
 some t10)
 (cond (v1.1==2)
 ((dK v1.2.1).bind λt17 =>
 (aV b0 v1.1 t17).bind λt32 =>
 some t32)
 (cond (v1.1==4)
 ((aV b0 v1.1 (sU v1.2.2.1)).bind λt32_1 =>
 some t32_1)
 (cond (v1.1==6)
 ((cI v1.2.2.2).bind λt27 =>
 (aV b0 v1.1 t27).bind λt32_2 =>
 some t32_2)
 ((aV b0 v1.1 []).bind λt32_3 =>
 some t32_3))))
def jp:FL:=(183,⟨[.val false rr false,.val true sR false],[.val false rr (some true)],λa=>f7 a.1 a.2⟩)::jo
theorem na:Gd jp:=oM mZ 183 Tryz.f183 [] Tryz.func183
def cJ (out0:List Int) (tag1:Int) (n2:Int):Option (List Int) :=
 (dK n2).bind λt10 =>
 (aV out0 tag1 t10).bind λt11 =>
 some t11
def jq:FL:=(186,⟨[.val false rr false,.val false oJ false,.val false oJ false],[.val false rr (some true)],λa=>cJ a.1 a.2.1 a.2.2⟩)::jp
theorem nb:Gd jq:=oM na 186 Tryz.f186 [] Tryz.func186
def cK (p0:p7) (t18:Int) (t3:List Int):Option ((Int×List Int)⊕((List Int)⊕(List Int))) :=
 cond (decide (t18<(p0.2.2.2.2.length:Int)))
 ((at? p0.2.2.2.2 t18).bind λx20 =>
 (cI x20.1).bind λt25 =>
 (aV [] 6 t25).bind λt26 =>
 (f7 t26 x20.2).bind λt29 =>
 (bV 48 t29).bind λt30 =>
 cond (!t30.2)
 (some (.inr (.inr [])))
 ((oX t3 t30.1).bind λzs37 =>
 some (.inl (oB (t18+1),zs37))))
 (some (.inr (.inl t3)))
def f8 (p0:p7):Option (List Int) :=
 (dH p0).bind λt13 =>
 cond (!t13)
 (some [])
 ((loop (λz=>cK p0 z.1 z.2) (0,[])).bind (Sum.elim (λd =>
 (bV 48 d).bind λt41 =>
 cond (!t41.2)
 (some [])
 ((cJ [] 2 p0.2.1).bind λt51 =>
 (cJ t51 2 p0.2.2.1).bind λt54 =>
 (cJ t54 2 p0.2.2.2.1).bind λt57 =>
 (oX t57 t41.1).bind λzs59 =>
 (bV p0.1 zs59).bind λt60 =>
 cond (!t60.2) (some []) (some t60.1))) (λr=>some r)))
def jr:FL:=(94,⟨[.val true qT false],[.val false rr (some true)],λa=>f8 a⟩)::jq
theorem nc:Gd jr:=oM nb 94 Tryz.f94 [(0,⟨⟨[(3,false,[.own 1000000000]),(18,false,[dI])],[(1000000000,.root (.one (.int .u8)) true)]⟩,
 ⟨[(3,false,[.own 1000000300])],[(1000000300,.root (.one (.int .u8)) true)]⟩,some ⟨[(2,false,[.own 1000000600])],[(1000000600,.root (.one (.int .u8)) true)]⟩⟩)] Tryz.func94
def aH (p0:p7):Option Bool :=
 (f8 p0).bind λt4 =>
 (ae (t4.length:Int) 1 120).bind λt6 =>
 some t6
def js:FL:=(18,⟨[.val true qT false],[.val false pC (some true)],λa=>aH a⟩)::jr
theorem nd:Gd js:=oM nc 18 Tryz.f18 [] Tryz.func18
def bv (n0:Int):Option Bool :=
 (ae n0 0 1000000).bind λt4 =>
 some t4
def jt:FL:=(134,⟨[.val false oJ false],[.val false pC (some true)],λa=>bv a⟩)::js
theorem ne:Gd jt:=oM nd 134 Tryz.f134 [] Tryz.func134
def bY (v0:ul):Option Bool :=
 (ae v0.1 1 99).bind λt5 =>
 (cond t5
 ((ae v0.2.1 0 100000).bind λt9 =>
 some t9)
 (some false)).bind λt10 =>
 (cond t10
 ((ae v0.2.2.1 0 10).bind λt14 =>
 some t14)
 (some false)).bind λt15 =>
 (cond t15
 ((ae v0.2.2.2.1 1 99).bind λt19 =>
 some t19)
 (some false)).bind λt20 =>
 (cond t20
 ((ae v0.2.2.2.2 0 7).bind λt24 =>
 some t24)
 (some false)).bind λt25 =>
 some t25
def ju:FL:=(275,⟨[.val true sS false],[.val false pC (some true)],λa=>bY a⟩)::jt
theorem ng:Gd ju:=oM ne 275 Tryz.f275 [] Tryz.func275
def dL (p0:Pt):Option Bool :=
 (ae p0.2.1 1 1000).bind λt5 =>
 (cond (!t5)
 (some true)
 ((cond p0.2.2.1 (some (!p0.1)) (some false)).bind λt14 =>
 some t14)).bind λt15 =>
 cond t15
 (some false)
 (cond p0.2.2.1
 ((bY p0.2.2.2).bind λt20 =>
 some t20)
 (let t2:=p0.2.2.2.1==0&&(p0.2.2.2.2.1==0&&(p0.2.2.2.2.2.1==0&&(p0.2.2.2.2.2.2.1==0&&(p0.2.2.2.2.2.2.2==0))))
 some t2))
def jv:FL:=(168,⟨[.val true qy false],[.val false pC (some true)],λa=>dL a⟩)::ju
theorem nh:Gd jv:=oM ng 168 Tryz.f168 [] Tryz.func168
def cL (e0:oG):Option Bool :=
 (ae e0.1 1 99).bind λt5 =>
 (cond t5
 ((ae e0.2.1 1 9999).bind λt9 =>
 some t9)
 (some false)).bind λt10 =>
 (cond t10
 ((ae e0.2.2.1 0 7).bind λt14 =>
 some t14)
 (some false)).bind λt15 =>
 (cond t15
 ((ae e0.2.2.2.1 0 4).bind λt19 =>
 some t19)
 (some false)).bind λt20 =>
 (cond t20
 ((cond (!e0.2.2.2.2) (some true) (some (e0.2.2.2.1==0))).bind λt29 =>
 some t29)
 (some false)).bind λt30 =>
 some t30
def jw:FL:=(276,⟨[.val true p3 false],[.val false pC (some true)],λa=>cL a⟩)::jv
theorem ni:Gd jw:=oM nh 276 Tryz.f276 [] Tryz.func276
def dM (e0:oG) (tag1:Int) (mac2:Int):Option Bool :=
 (cond (decide (e0.1>tag1))
 (some true)
 ((cond (e0.1==tag1) (some (decide (e0.2.1>mac2))) (some false)).bind λt21 =>
 some t21)).bind λt22 =>
 some t22
def jx:FL:=(277,⟨[.val true p3 false,.val false oJ false,.val false oJ false],[.val false pC (some true)],λa=>dM a.1 a.2.1 a.2.2⟩)::jw
theorem nj:Gd jx:=oM ni 277 Tryz.f277 [] Tryz.func277
def fO (l0:List oG) (t7:Int):Option (Int⊕(Unit⊕Bool)) :=
 cond (decide (t7<(l0.length:Int)))
 ((at? l0 t7).bind λx10 =>
 (cL x10).bind λt13 =>
 (cond (!t13)
 (some true)
 ((cond (decide (t7>0))
 ((at? l0 (oB (t7-1))).bind λx23 =>
 (at? l0 (oB (t7-1))).bind λx29 =>
 (dM x10 x23.1 x29.2.1).bind λt32 =>
 some (!t32))
 (some false)).bind λt34 =>
 some t34)).bind λt35 =>
 cond t35 (some (.inr (.inr false))) (some (.inl (oB (t7+1)))))
 (some (.inr (.inl ())))
def f9 (l0:List oG):Option Bool :=
 (loop (λz=>fO l0 z) 0).bind (Sum.elim (λd =>
 let t2:=decide ((l0.length:Int)<=12)
 some t2) (λr=>some r))
def jy:FL:=(169,⟨[.val false (.one (.sl p3)) false],[.val false pC (some true)],λa=>f9 a⟩)::jx
theorem nk:Gd jy:=oM nj 169 Tryz.f169 [(0,⟨⟨(7,false,[dI])::us 16 19 [],[]⟩,
 ⟨[],[]⟩,some ⟨[(2,false,[dB])],[]⟩⟩)] Tryz.func169
def dN (ports0:Int):Option Int :=
 (shl .i64 1 ports0).bind λt4 =>
 some (oB (t4-1))
def jz:FL:=(278,⟨[.val false oJ false],[.val false oJ (some true)],λa=>dN a⟩)::jy
theorem nl:Gd jz:=oM nk 278 Tryz.f278 [] Tryz.func278
def aB (v0:pk) (id1:Int) (t10:Int):Option (Int⊕(Unit⊕Int)) :=
 cond (decide (t10<(v0.1.length:Int)))
 ((at? v0.1 t10).bind λx13 =>
 cond (x13.1==id1) (some (.inr (.inr t10))) (some (.inl (oB (t10+1)))))
 (some (.inr (.inl ())))
def al (v0:pk) (id1:Int):Option Int :=
 (loop (λz=>aB v0 id1 z) 0).bind (Sum.elim (λd =>
 some (-1)) (λr=>some r))
def jA:FL:=(279,⟨[.val true qh false,.val false oJ false],[.val false oJ (some true)],λa=>al a.1 a.2⟩)::jz
theorem nn:Gd jA:=oM nl 279 Tryz.f279 [(0,⟨⟨[(10,false,[dI])],[]⟩,
 ⟨[],[]⟩,some ⟨[(4,false,[dI])],[]⟩⟩)] Tryz.func279
def fP (p0:pk) (i1:Int) (t28:Int):Option (Int⊕(Unit⊕Bool)) :=
 cond (decide (t28<(p0.1.length:Int)))
 ((at? p0.1 t28).bind λx31 =>
 (ae x31.1 1 99).bind λt35 =>
 (cond (!t35)
 (some true)
 ((cond (decide (t28>0))
 ((at? p0.1 (oB (t28-1))).bind λx45 =>
 some (decide (x45.1>=x31.1)))
 (some false)).bind λt51 =>
 some t51)).bind λt52 =>
 (cond t52
 (some true)
 ((dN i1).bind λt57 =>
 (ae x31.2.1 0 t57).bind λt58 =>
 some (!t58))).bind λt60 =>
 (cond t60 (some true) (some ((wQ .i64 x31.2.2 x31.2.1) != 0))).bind λt68 =>
 cond t68 (some (.inr (.inr false))) (some (.inl (oB (t28+1)))))
 (some (.inr (.inl ())))
def fa (p0:pk) (t73:Int):Option (Int⊕(Unit⊕Bool)) :=
 cond (decide (t73<(p0.2.length:Int)))
 ((at? p0.2 t73).bind λx75 =>
 (al p0 x75).bind λt79 =>
 cond (decide (t79<0)) (some (.inr (.inr false))) (some (.inl (oB (t73+1)))))
 (some (.inr (.inl ())))
def cM (p0:pk) (i1:Int):Option Bool :=
 (ae i1 1 6).bind λt10 =>
 (cond (!t10) (some true) (some ((p0.2.length:Int) != i1))).bind λt18 =>
 (cond t18 (some true) (some (decide ((p0.1.length:Int)>6)))).bind λt24 =>
 cond t24
 (some false)
 ((loop (λz=>fP p0 i1 z) 0).bind (Sum.elim (λd =>
 (loop (λz=>fa p0 z) 0).bind (Sum.elim (λd_1 =>
 some true) (λr=>some r))) (λr_1=>some r_1)))
def jB:FL:=(170,⟨[.val true qh false,.val false oJ false],[.val false pC (some true)],λa=>cM a.1 a.2⟩)::jA
theorem np:Gd jB:=oM nn 170 Tryz.f170 [(0,⟨⟨(28,false,[dI])::us 38 14 (us 54 6 (us 62 6 [])),[]⟩,
 ⟨[],[]⟩,some ⟨[(4,false,[dB])],[]⟩⟩),
 (2,⟨⟨[(73,false,[dI])],[]⟩,
 ⟨[],[]⟩,some ⟨[(4,false,[dB])],[]⟩⟩)] Tryz.func170
def fQ (p0:oA) (t8:Int):Option (Int⊕(Unit⊕Bool)) :=
 cond (decide (t8<(p0.2.2.1.length:Int)))
 ((at? p0.2.2.1 t8).bind λx10 =>
 (dL x10).bind λt13 =>
 cond (!t13) (some (.inr (.inr false))) (some (.inl (oB (t8+1)))))
 (some (.inr (.inl ())))
def cN (p0:oA):Option Bool :=
 (loop (λz=>fQ p0 z) 0).bind (Sum.elim (λd =>
 (ae p0.1 1 99).bind λt18 =>
 (cond (!t18) (some true) (some (decide ((p0.2.1.length:Int)>10)))).bind λt25 =>
 (cond t25
 (some true)
 ((ae (p0.2.2.1.length:Int) 1 6).bind λt30 =>
 some (!t30))).bind λt32 =>
 (cond t32
 (some true)
 ((f9 p0.2.2.2.1).bind λt36 =>
 some (!t36))).bind λt38 =>
 (cond t38
 (some true)
 ((cM (p0.2.2.2.2.1,p0.2.2.2.2.2.1) (p0.2.2.1.length:Int)).bind λt45 =>
 some (!t45))).bind λt47 =>
 cond t47
 (some false)
 ((bv p0.2.2.2.2.2.2.1).bind λt50 =>
 (cond t50
 ((bv p0.2.2.2.2.2.2.2.1).bind λt54 =>
 some t54)
 (some false)).bind λt55 =>
 (cond t55
 ((bv p0.2.2.2.2.2.2.2.2.1).bind λt59 =>
 some t59)
 (some false)).bind λt60 =>
 (cond t60
 ((bv p0.2.2.2.2.2.2.2.2.2.1).bind λt64 =>
 some t64)
 (some false)).bind λt65 =>
 (cond t65
 ((bv p0.2.2.2.2.2.2.2.2.2.2).bind λt69 =>
 some t69)
 (some false)).bind λt70 =>
 some t70)) (λr=>some r))
def jC:FL:=(77,⟨[.val true oV false],[.val false pC (some true)],λa=>cN a⟩)::jB
theorem nq:Gd jC:=oM np 77 Tryz.f77 [(0,⟨⟨[(8,false,[dI])],[]⟩,
 ⟨[],[]⟩,some ⟨[(2,false,[dB])],[]⟩⟩)] Tryz.func77
def aC (v0:rm) (name1:List Int):Option oC :=
 (oX ([1,3,1]:List Int) name1).bind λzs7 =>
 some (zs7,v0.1,v0.2.1,v0.2.2.1,v0.2.2.2)
def jD:FL:=(187,⟨[.val true sR false,.val false qx false],[.val true oK none],λa=>aC a.1 a.2⟩)::jC
theorem nr:Gd jD:=oM nq 187 Tryz.f187 [] Tryz.func187
def aO (n0:Int):Option rm :=
 some (2,n0,[],[])
def jE:FL:=(188,⟨[.val false oJ false],[.val true sR (some true)],λa=>aO a⟩)::jD
theorem nu:Gd jE:=oM nr 188 Tryz.f188 [] Tryz.func188
def dO (is0:Bool):Option Int :=
 cond is0 (some 1) (some 0)
def jF:FL:=(294,⟨[.val false pC false],[.val false oJ (some true)],λa=>dO a⟩)::jE
theorem nv:Gd jF:=oM nu 294 Tryz.f294 [] Tryz.func294
def cO (a0:ul) (b1:ul):Option Bool :=
 cond (a0.1 != b1.1)
 (some (decide (a0.1<b1.1)))
 (cond (a0.2.1 != b1.2.1)
 (some (decide (a0.2.1<b1.2.1)))
 (cond (a0.2.2.2.1 != b1.2.2.2.1)
 (let t4:=decide (a0.2.2.2.1<b1.2.2.2.1)
 some t4)
 (let t4_1:=decide (a0.2.2.2.2<b1.2.2.2.2)
 some t4_1)))
def jG:FL:=(345,⟨[.val true sS false,.val true sS false],[.val false pC (some true)],λa=>cO a.1 a.2⟩)::jF
theorem nx:Gd jG:=oM nv 345 Tryz.f345 [] Tryz.func345
def dP (v0:ul) (cost1:Int):Option (ul×Bool) :=
 (bY v0).bind λt8 =>
 (cond (!t8)
 (some true)
 ((ae cost1 1 1000).bind λt12 =>
 some (!t12))).bind λt14 =>
 cond t14
 (some (v0,false))
 ((bY (v0.1,oB (v0.2.1+cost1),oB (v0.2.2.1+1),v0.2.2.2.1,v0.2.2.2.2)).bind λt27 =>
 cond (!t27)
 (some (v0,false))
 (some ((v0.1,oB (v0.2.1+cost1),oB (v0.2.2.1+1),v0.2.2.2.1,v0.2.2.2.2),true)))
def jH:FL:=(364,⟨[.val true sS false,.val false oJ false],[.val true sS (some true),.val false pC (some true)],λa=>dP a.1 a.2⟩)::jG
theorem ny:Gd jH:=oM nx 364 Tryz.f364 [] Tryz.func364
def cP (p0:Int) (i1:List Pt) (t7:Int) (t18:Int) (b0:Int) (b1:Int) (b2:Int) (b3:Int) (b4:Int) (b0_1:Int) (b1_1:Int) (b2_1:Int) (b3_1:Int) (b4_1:Int):Option ((Int×Int×Int×Int×Int×Int×Int×Int×Int×Int×Int×Int)⊕(Int×Int×Int×Int×Int×Int×Int×Int×Int×Int×Int)) :=
 cond (decide (t18<(i1.length:Int)))
 ((at? i1 t18).bind λx21 =>
 (cond (!x21.1) (some true) (some (!x21.2.2.1))).bind λt30 =>
 cond t30
 (some (.inl (t7,oB (t18+1),b0,b1,b2,b3,b4,b0_1,b1_1,b2_1,b3_1,b4_1)))
 ((dP x21.2.2.2 x21.2.1).bind λt36 =>
 (cond t36.2 (some (decide (t36.1.1<p0))) (some false)).bind λt45 =>
 (cond t45
 ((cond (decide (t7<0))
 (some true)
 ((cO t36.1 (b0_1,b1_1,b2_1,b3_1,b4_1)).bind λt52 =>
 some t52)).bind λt53 =>
 some t53)
 (some false)).bind λt54 =>
 cond t54
 (some (.inl (t18,oB (t18+1),t36.1.1,t36.1.2.1,t36.1.2.2.1,p0,0,t36.1.1,t36.1.2.1,t36.1.2.2.1,t36.1.2.2.2.1,t36.1.2.2.2.2)))
 (some (.inl (t7,oB (t18+1),b0,b1,b2,b3,b4,b0_1,b1_1,b2_1,b3_1,b4_1)))))
 (some (.inr (t7,b0,b1,b2,b3,b4,b0_1,b1_1,b2_1,b3_1,b4_1)))
def ba (p0:Int) (i1:List Pt):Option (ul×Int) :=
 (loop (λz=>cP p0 i1 z.1 z.2.1 z.2.2.1 z.2.2.2.1 z.2.2.2.2.1 z.2.2.2.2.2.1 z.2.2.2.2.2.2.1 z.2.2.2.2.2.2.2.1 z.2.2.2.2.2.2.2.2.1 z.2.2.2.2.2.2.2.2.2.1 z.2.2.2.2.2.2.2.2.2.2.1 z.2.2.2.2.2.2.2.2.2.2.2) ((-1),0,p0,0,0,p0,0,0,0,0,0,0)).bind λd =>
 some ((d.2.1,d.2.2.1,d.2.2.2.1,d.2.2.2.2.1,d.2.2.2.2.2.1),d.1)
def jI:FL:=(344,⟨[.val false oJ false,.val false (.one (.sl qy)) false],[.val true sS (some true),.val false oJ (some true)],λa=>ba a.1 a.2⟩)::jH
theorem nz:Gd jI:=oM ny 344 Tryz.f344 [(0,⟨⟨(7,false,[dI])::(18,false,[dI])::us 27 3 (us 41 4 (us 47 7 [])),[(266240,.box [dI,dI,dI,dI,dI]),(525312,.box [dI,dI,dI,dI,dI])]⟩,
 ⟨[(7,false,[dI])],[(266240,.box [dI,dI,dI,dI,dI]),(525312,.box [dI,dI,dI,dI,dI])]⟩,none⟩)] Tryz.func344
def dQ (id0:Int) (l1:List Pt) (port2:Int):Option ul :=
 (ba id0 l1).bind λt12 =>
 some (t12.1.1,t12.1.2.1,t12.1.2.2.1,t12.1.2.2.2.1,port2)
def jJ:FL:=(346,⟨[.val false oJ false,.val false (.one (.sl qy)) false,.val false oJ false],[.val true sS (some true)],λa=>dQ a.1 a.2.1 a.2.2⟩)::jI
theorem nA:Gd jJ:=oM nz 346 Tryz.f346 [] Tryz.func346
def aK (id0:Int) (l1:List Pt) (port2:Int):Option Int :=
 (ae port2 0 (oB ((l1.length:Int)-1))).bind λt13 =>
 (cond (!t13)
 (some true)
 ((at? l1 port2).bind λx18 =>
 some (!x18.1))).bind λt22 =>
 cond t22
 (some 4)
 ((ba id0 l1).bind λt26 =>
 cond (t26.2==port2)
 (some 1)
 ((at? l1 port2).bind λx36 =>
 (cond (!x36.2.2.1)
 (some true)
 ((dQ id0 l1 port2).bind λt44 =>
 (at? l1 port2).bind λx47 =>
 (cO t44 x47.2.2.2).bind λt50 =>
 some t50)).bind λt51 =>
 cond t51 (some 2) (some 3)))
def jK:FL:=(295,⟨[.val false oJ false,.val false (.one (.sl qy)) false,.val false oJ false],[.val false oJ (some true)],λa=>aK a.1 a.2.1 a.2.2⟩)::jJ
theorem nB:Gd jK:=oM nA 295 Tryz.f295 [] Tryz.func295
def bw (b0:oA) (c1:Int) (p2:Int):Option Int :=
 cond (c1==1)
 ((at? b0.2.2.1 p2).bind λx13 =>
 (dO x13.1).bind λt16 =>
 some t16)
 (cond (c1==2)
 ((at? b0.2.2.1 p2).bind λx22 =>
 some x22.2.1)
 (cond (c1==3)
 ((aK b0.1 b0.2.2.1 p2).bind λt32 =>
 some t32)
 ((at? b0.2.2.2.2.2.1 p2).bind λx37 =>
 some x37)))
def jL:FL:=(189,⟨[.val true oV false,.val false oJ false,.val false oJ false],[.val false oJ (some true)],λa=>bw a.1 a.2.1 a.2.2⟩)::jK
theorem nC:Gd jL:=oM nB 189 Tryz.f189 [] Tryz.func189
def jM (p0:oA) (t32:Int) (t3:List oC):Option ((Int×List oC)⊕(List oC)) :=
 cond (decide (t32<([p0.2.2.2.2.2.2.1,p0.2.2.2.2.2.2.2.1,p0.2.2.2.2.2.2.2.2.1,p0.2.2.2.2.2.2.2.2.2.1].length:Int)))
 ((ix [p0.2.2.2.2.2.2.1,p0.2.2.2.2.2.2.2.1,p0.2.2.2.2.2.2.2.2.1,p0.2.2.2.2.2.2.2.2.2.1].length t32).bind λj35 =>
 ([p0.2.2.2.2.2.2.1,p0.2.2.2.2.2.2.2.1,p0.2.2.2.2.2.2.2.2.1,p0.2.2.2.2.2.2.2.2.2.1][j35]?).bind λx36 =>
 (aO x36).bind λt39 =>
 (aC t39 [1,oB (t32+2)]).bind λt43 =>
 (oX t3 [t43]).bind λzs45 =>
 some (.inl (oB (t32+1),zs45)))
 (some (.inr t3))
def bb (p0:oA) (t6:Int) (t54:Int) (t3_3:List oC):Option ((Int×List oC)⊕(List oC)) :=
 cond (decide (t54<(p0.2.2.1.length:Int)))
 ((bw p0 t6 t54).bind λt61 =>
 (aO t61).bind λt62 =>
 (aC t62 [2,t6,oB (t54+1)]).bind λt67 =>
 (oX t3_3 [t67]).bind λzs69 =>
 some (.inl (oB (t54+1),zs69)))
 (some (.inr t3_3))
def bx (p0:oA) (t6:Int) (t3_2:List oC):Option ((Int×List oC)⊕(List oC)) :=
 cond (decide (t6<=4))
 ((loop (λz=>bb p0 t6 z.1 z.2) (0,t3_2)).bind λd_1 =>
 some (.inl (oB (t6+1),d_1)))
 (some (.inr t3_2))
def bc (p0:oA) (t8:Int) (t79:Int) (t3_7:List oC):Option ((Int×List oC)⊕(List oC)) :=
 cond (decide (t79<(p0.2.2.2.2.1.length:Int)))
 ((at? p0.2.2.2.2.1 t79).bind λx81 =>
 (ix [1,x81.2.1,x81.2.2].length (oB (t8-1))).bind λj91 =>
 ([1,x81.2.1,x81.2.2][j91]?).bind λx92 =>
 (aO x92).bind λt93 =>
 (aC t93 [3,t8,x81.1]).bind λt98 =>
 (oX t3_7 [t98]).bind λzs100 =>
 some (.inl (oB (t79+1),zs100)))
 (some (.inr t3_7))
def bz (p0:oA) (t8:Int) (t3_6:List oC):Option ((Int×List oC)⊕(List oC)) :=
 cond (decide (t8<=3))
 ((loop (λz=>bc p0 t8 z.1 z.2) (0,t3_6)).bind λd_3 =>
 some (.inl (oB (t8+1),d_3)))
 (some (.inr t3_6))
def aW (p0:oA) (t105:Int) (t3_10:List oC):Option ((Int×List oC)⊕(List oC)) :=
 cond (decide (t105<(p0.2.2.2.1.length:Int)))
 ((at? p0.2.2.2.1 t105).bind λx107 =>
 (aO (oB (x107.2.2.1+1))).bind λt113 =>
 (aC t113 [4,1,x107.1,x107.2.1]).bind λt119 =>
 (oX t3_10 [t119]).bind λzs121 =>
 some (.inl (oB (t105+1),zs121)))
 (some (.inr t3_10))
def bd (p0:oA):Option (List oC) :=
 (cN p0).bind λt14 =>
 cond (!t14)
 (some [])
 ((aC (4,0,p0.2.1,[]) ([1,1]:List Int)).bind λt20 =>
 (loop (λz=>jM p0 z.1 z.2) (0,[t20])).bind λd =>
 (loop (λz=>bx p0 z.1 z.2) (1,d)).bind λd_2 =>
 (loop (λz=>bz p0 z.1 z.2) (1,d_2)).bind λd_4 =>
 (loop (λz=>aW p0 z.1 z.2) (0,d_4)).bind λd_5 =>
 some d_5)
def jN:FL:=(95,⟨[.val true oV false],[.val false (.one (.sl oK)) none],λa=>bd a⟩)::jL
theorem nD:Gd jN:=oM nC 95 Tryz.f95 [(0,⟨⟨[(3,false,[.own 1000000000]),(32,false,[dI])],[(1000000000,.root oK false)]⟩,
 ⟨[(3,false,[.own 1000000300])],[(1000000300,.root oK false)]⟩,none⟩),
 (2,⟨⟨[(3,false,[.own 1000002000]),(6,false,[dI])],[(1000002000,.root oK false)]⟩,
 ⟨[(3,false,[.own 1000002300])],[(1000002300,.root oK false)]⟩,none⟩),
 (4,⟨⟨[(3,false,[.own 1000004000]),(54,false,[dI])],[(1000004000,.root oK false)]⟩,
 ⟨[(3,false,[.own 1000004300])],[(1000004300,.root oK false)]⟩,none⟩),
 (6,⟨⟨[(3,false,[.own 1000006000]),(8,false,[dI])],[(1000006000,.root oK false)]⟩,
 ⟨[(3,false,[.own 1000006300])],[(1000006300,.root oK false)]⟩,none⟩),
 (8,⟨⟨[(3,false,[.own 1000008000]),(79,false,[dI])],[(1000008000,.root oK false)]⟩,
 ⟨[(3,false,[.own 1000008300])],[(1000008300,.root oK false)]⟩,none⟩),
 (10,⟨⟨[(3,false,[.own 1000010000]),(105,false,[dI])],[(1000010000,.root oK false)]⟩,
 ⟨[(3,false,[.own 1000010300])],[(1000010300,.root oK false)]⟩,none⟩)] Tryz.func95
def aX (o1:List Int) (t8:List oC) (t10:Int) (b0_1:Int) (b1:Int) (b2:List UInt8) (b3:List Int):Option ((Int×Int×Int×List UInt8×List Int)⊕((Int×Int×List UInt8×List Int)⊕(Int×Int×List UInt8×List Int))) :=
 cond (decide (t10<(t8.length:Int)))
 ((at? t8 t10).bind λx12 =>
 (au x12.1 o1).bind λt17 =>
 cond t17
 (some (.inr (.inr x12.2)))
 (some (.inl (oB (t10+1),b0_1,b1,b2,b3))))
 (some (.inr (.inl (b0_1,b1,b2,b3))))
def bA (b0:oA) (o1:List Int):Option rm :=
 (bd b0).bind λt8 =>
 (loop (λz=>aX o1 t8 z.1 z.2.1 z.2.2.1 z.2.2.2.1 z.2.2.2.2) (0,0,0,[],[])).bind (Sum.elim (λd =>
 some (128,0,[],[])) (λr=>some r))
def jO:FL:=(21,⟨[.val true oV false,.val false qx false],[.val true sR none],λa=>bA a.1 a.2⟩)::jN
theorem nE:Gd jO:=oM nD 21 Tryz.f21 [(0,⟨⟨[(10,false,[dI])],[(2048,.box [dI,dI,dS,.own 1000000000]),(1000000000,.root oJ true)]⟩,
 ⟨[],[(2048,.box [dI,dI,dS,.own 1000000300]),(1000000300,.root oJ true)]⟩,some ⟨[],[(2048,.box [dI,dI,dS,.dat (.sl oJ)])]⟩⟩)] Tryz.func21
def aP (l0:List Int):Option (List Int) :=
 (oX [] l0).bind λzs4 =>
 some zs4
def jP:FL:=(78,⟨[.val false qx false],[.val false qx (some true)],λa=>aP a⟩)::jO
theorem nF:Gd jP:=oM nE 78 Tryz.f78 [] Tryz.func78
def cQ (a0:List Int) (b1:List Int) (i5:Int):Option (Int⊕(Unit⊕Bool)) :=
 (cond (decide (i5<(a0.length:Int))) (some (decide (i5<(b1.length:Int)))) (some false)).bind λt15 =>
 cond t15
 ((at? a0 i5).bind λx20 =>
 (at? b1 i5).bind λx24 =>
 cond (x20 != x24)
 ((at? a0 i5).bind λx29 =>
 (at? b1 i5).bind λx33 =>
 some (.inr (.inr (decide (x29<x33)))))
 (some (.inl (oB (i5+1)))))
 (some (.inr (.inl ())))
def dR (a0:List Int) (b1:List Int):Option Bool :=
 (loop (λz=>cQ a0 b1 z) 0).bind (Sum.elim (λd =>
 let t4:=decide ((a0.length:Int)<(b1.length:Int))
 some t4) (λr=>some r))
def jQ:FL:=(96,⟨[.val false qx false,.val false qx false],[.val false pC (some true)],λa=>dR a.1 a.2⟩)::jP
theorem nG:Gd jQ:=oM nF 96 Tryz.f96 [(0,⟨⟨(5,false,[dI])::us 11 4 [],[]⟩,
 ⟨[],[]⟩,some ⟨[(4,false,[dB])],[]⟩⟩)] Tryz.func96
def bB (o1:List Int) (t8:List oC) (t10:Int) (b1:Int) (b2:Int) (b3:List UInt8) (b0_1:List Int) (b4:List Int):Option ((Int×Int×Int×List UInt8×List Int×List Int)⊕((Int×Int×List UInt8×List Int×List Int)⊕(List Int×Int×Int×List UInt8×List Int))) :=
 cond (decide (t10<(t8.length:Int)))
 ((at? t8 t10).bind λx12 =>
 (dR o1 x12.1).bind λt17 =>
 cond t17
 (some (.inr (.inr x12)))
 (some (.inl (oB (t10+1),b1,b2,b3,b0_1,b4))))
 (some (.inr (.inl (b1,b2,b3,b0_1,b4))))
def aY (b0:oA) (o1:List Int):Option oC :=
 (bd b0).bind λt8 =>
 (loop (λz=>bB o1 t8 z.1 z.2.1 z.2.2.1 z.2.2.2.1 z.2.2.2.2.1 z.2.2.2.2.2) (0,0,0,[],[],[])).bind (Sum.elim (λd =>
 (aP o1).bind λt21 =>
 some (t21,130,0,[],[])) (λr=>some r))
def jR:FL:=(22,⟨[.val true oV false,.val false qx false],[.val true oK none],λa=>aY a.1 a.2⟩)::jQ
theorem nH:Gd jR:=oM nG 22 Tryz.f22 [(0,⟨⟨[(10,false,[dI])],[(2048,.box [.own 1000000000,dI,dI,dS,.own 1000000001]),(1000000000,.root oJ true),(1000000001,.root oJ true)]⟩,
 ⟨[],[(2048,.box [.own 1000000300,dI,dI,dS,.own 1000000301]),(1000000300,.root oJ true),(1000000301,.root oJ true)]⟩,some ⟨[],[(2048,.box [.dat (.sl oJ),dI,dI,dS,.dat (.sl oJ)])]⟩⟩)] Tryz.func22
def fb (l0:List oG):Option (List oG) :=
 (oX [] l0).bind λzs4 =>
 some zs4
def jS:FL:=(166,⟨[.val false (.one (.sl p3)) false],[.val false (.one (.sl p3)) (some true)],λa=>fb a⟩)::jR
theorem nI:Gd jS:=oM nH 166 Tryz.f166 [] Tryz.func166
def cR (v0:pk):Option pk :=
 (oX [] v0.1).bind λzs5 =>
 (aP v0.2).bind λt8 =>
 some (zs5,t8)
def jT:FL:=(167,⟨[.val true qh false],[.val true qh (some true)],λa=>cR a⟩)::jS
theorem nJ:Gd jT:=oM nI 167 Tryz.f167 [] Tryz.func167
def aL (b0:oA):Option oA :=
 (oX [] b0.2.2.1).bind λzs5 =>
 (fb b0.2.2.2.1).bind λt9 =>
 (cR (b0.2.2.2.2.1,b0.2.2.2.2.2.1)).bind λt12 =>
 some (b0.1,b0.2.1,zs5,t9,t12.1,t12.2,b0.2.2.2.2.2.2.1,b0.2.2.2.2.2.2.2.1,b0.2.2.2.2.2.2.2.2.1,b0.2.2.2.2.2.2.2.2.2.1,b0.2.2.2.2.2.2.2.2.2.2)
def jU:FL:=(76,⟨[.val true oV false],[.val true oV (some true)],λa=>aL a⟩)::jT
theorem nK:Gd jU:=oM nJ 76 Tryz.f76 [] Tryz.func76
def cS (p0:oA) (t24:List oC) (t26:Int) (t5:List oC):Option ((Int×List oC)⊕(List oC)) :=
 cond (decide (t26<(t24.length:Int)))
 ((at? t24 t26).bind λx28 =>
 (aY p0 x28.1).bind λt34 =>
 (oX t5 [t34]).bind λzs36 =>
 some (.inl (oB (t26+1),zs36)))
 (some (.inr t5))
def cU (t41:List oC) (t43:Int) (t9:List (List Int)):Option ((Int×List (List Int))⊕(List (List Int))) :=
 cond (decide (t43<(t41.length:Int)))
 ((at? t41 t43).bind λx45 =>
 (oX t9 [x45.1]).bind λzs51 =>
 some (.inl (oB (t43+1),zs51)))
 (some (.inr t9))
def bZ (p0:oA) (l:List (List Int)) (t71:Int) (t5_3:List oC) (l_1:List (List Int)):Option ((Int×List oC×List (List Int))⊕(List oC×List (List Int))) :=
 cond (decide (t71<(l.length:Int)))
 (cond (decide ((t5_3.length:Int)>=10))
 (some (.inr (t5_3,l_1)))
 ((ix l_1.length t71).bind λj80 =>
 (l_1[j80]?).bind λx81 =>
 (aY p0 x81).bind λt82 =>
 (ix l_1.length t71).bind λj87 =>
 (l_1[j87]?).bind λx =>
 (oX t5_3 [t82]).bind λzs91 =>
 some (.inl (oB (t71+1),zs91,l_1.set j87 t82.1))))
 (some (.inr (t5_3,l_1)))
def bf (p0:oA) (i1:p7) (t12:Int) (t5_2:List oC) (l:List (List Int)):Option ((Int×List oC×List (List Int))⊕(List oC×List (List Int))) :=
 (cond (decide (t12<i1.2.2.2.1)) (some (decide ((l.length:Int)>0))) (some false)).bind λt61 =>
 (cond t61 (some (decide ((t5_2.length:Int)<10))) (some false)).bind λt66 =>
 cond t66
 ((loop (λz=>bZ p0 l z.1 z.2.1 z.2.2) (0,t5_2,l)).bind λd_2 =>
 some (.inl (oB (t12+1),d_2.1,d_2.2)))
 (some (.inr (t5_2,l)))
def fc (p0:oA) (i1:p7):Option (List oC) :=
 let t6:=min2 i1.2.2.1 (i1.2.2.2.2.length:Int)
 (cut i1.2.2.2.2 0 t6).bind λt24 =>
 (loop (λz=>cS p0 t24 z.1 z.2) (0,[])).bind λd =>
 (cut i1.2.2.2.2 t6 (i1.2.2.2.2.length:Int)).bind λt41 =>
 (loop (λz=>cU t41 z.1 z.2) (0,[])).bind λd_1 =>
 (loop (λz=>bf p0 i1 z.1 z.2.1 z.2.2) (0,d,d_1)).bind λd_3 =>
 some d_3.1
def jV:FL:=(79,⟨[.val true oV false,.val true qT false],[.val false (.one (.sl oK)) none],λa=>fc a.1 a.2⟩)::jU
theorem nL:Gd jV:=oM nK 79 Tryz.f79 [(0,⟨⟨[(5,false,[.own 1000000000]),(26,false,[dI])],[(1000000000,.root oK false)]⟩,
 ⟨[(5,false,[.own 1000000300])],[(1000000300,.root oK false)]⟩,none⟩),
 (2,⟨⟨[(9,false,[.own 1000002000]),(43,false,[dI])],[(1000002000,.root qx false)]⟩,
 ⟨[(9,false,[.own 1000002300])],[(1000002300,.root qx false)]⟩,none⟩),
 (4,⟨⟨(5,false,[.own 1000004000])::(12,false,[dI])::us 58 3 (us 63 3 []),[(1000004000,.root oK false),(1000002300,.keep qx false)]⟩,
 ⟨[(5,false,[.own 1000004300])],[(1000004300,.root oK false),(1000002300,.keep qx false)]⟩,none⟩),
 (6,⟨⟨[(5,false,[.own 1000006000]),(71,false,[dI])],[(1000006000,.root oK false),(1000002300,.keep qx false)]⟩,
 ⟨[(5,false,[.own 1000006300])],[(1000006300,.root oK false),(1000002300,.keep qx false)]⟩,none⟩)] Tryz.func79
def aM (o0:List Int) (low1:Int) (high2:Int) (head3:List Int):Option Bool :=
 cond ((o0.length:Int)==(oB ((head3.length:Int)+4)))
 ((cut o0 0 (oB ((o0.length:Int)-1))).bind λt20 =>
 (oX ([1,3,1]:List Int) head3).bind λzs23 =>
 (au t20 zs23).bind λt24 =>
 (cond t24
 ((at? o0 (oB ((o0.length:Int)-1))).bind λx31 =>
 (ae x31 low1 high2).bind λt35 =>
 some t35)
 (some false)).bind λt36 =>
 some t36)
 ((some false).bind λt36_1 =>
 some t36_1)
def jW:FL:=(335,⟨[.val false qx false,.val false oJ false,.val false oJ false,.val false qx false],[.val false pC (some true)],λa=>aM a.1 a.2.1 a.2.2.1 a.2.2.2⟩)::jV
theorem nM:Gd jW:=oM nL 335 Tryz.f335 [] Tryz.func335
def fe (b0:oA) (o1:List Int):Option Bool :=
 (aM o1 1 1 ([1]:List Int)).bind λt11 =>
 (cond t11
 (some true)
 ((aM o1 1 (b0.2.2.1.length:Int) ([2,2]:List Int)).bind λt16 =>
 some t16)).bind λt17 =>
 (cond t17
 (some true)
 ((aM o1 1 (b0.2.2.1.length:Int) ([2,4]:List Int)).bind λt22 =>
 some t22)).bind λt23 =>
 (cond t23
 (some true)
 ((aM o1 1 99 ([3,1]:List Int)).bind λt27 =>
 some t27)).bind λt28 =>
 cond t28
 (some true)
 ((aM o1 1 99 ([3,2]:List Int)).bind λt31 =>
 (cond t31
 (some true)
 ((aM o1 1 99 ([3,3]:List Int)).bind λt35 =>
 some t35)).bind λt36 =>
 (cond t36
 ((at? o1 5).bind λx41 =>
 (al (b0.2.2.2.2.1,b0.2.2.2.2.2.1) x41).bind λt43 =>
 some (decide (t43>=0)))
 (some false)).bind λt45 =>
 some t45)
def jX:FL:=(280,⟨[.val true oV false,.val false qx false],[.val false pC (some true)],λa=>fe a.1 a.2⟩)::jW
theorem nN:Gd jX:=oM nM 280 Tryz.f280 [] Tryz.func280
def ff (v0:pk) (r1:oO) (k7:Int):Option (Int⊕Int) :=
 (cond (decide (k7<(v0.1.length:Int)))
 ((at? v0.1 k7).bind λx31 =>
 some (decide (x31.1<=r1.1)))
 (some false)).bind λt37 =>
 cond t37 (some (.inl (oB (k7+1)))) (some (.inr k7))
def dU (v0:pk) (r1:oO):Option pk :=
 (cR v0).bind λt9 =>
 (al v0 r1.1).bind λt13 =>
 cond (decide (t13>=0))
 ((ix t9.1.length t13).bind λj20 =>
 (t9.1[j20]?).bind λx =>
 some (t9.1.set j20 r1,t9.2))
 ((loop (λz=>ff v0 r1 z) 0).bind λd =>
 (cut v0.1 0 d).bind λt43 =>
 (oX [] t43).bind λzs44 =>
 (oX zs44 [r1]).bind λzs47 =>
 (cut v0.1 d (v0.1.length:Int)).bind λt51 =>
 (oX zs47 t51).bind λzs52 =>
 some (zs52,t9.2))
def jY:FL:=(360,⟨[.val true qh false,.val true pu false],[.val true qh (some true)],λa=>dU a.1 a.2⟩)::jX
theorem nO:Gd jY:=oM nN 360 Tryz.f360 [(0,⟨⟨(7,false,[dI])::us 28 9 [],[]⟩,
 ⟨[(7,false,[dI])],[]⟩,none⟩)] Tryz.func360
def dV (v0:pk) (id1:Int):Option pk :=
 (cR v0).bind λt8 =>
 (al v0 id1).bind λt11 =>
 cond (decide (t11>=0))
 ((cut v0.1 0 t11).bind λt17 =>
 (oX [] t17).bind λzs18 =>
 (cut v0.1 (oB (t11+1)) (v0.1.length:Int)).bind λt23 =>
 (oX zs18 t23).bind λzs24 =>
 some (zs24,t8.2))
 (some t8)
def jZ:FL:=(361,⟨[.val true qh false,.val false oJ false],[.val true qh (some true)],λa=>dV a.1 a.2⟩)::jY
theorem nP:Gd jZ:=oM nO 361 Tryz.f361 [] Tryz.func361
def fg (p0:oA) (i1:Int) (a2:Int) (a3:Int):Option (oA×Int) :=
 (al (p0.2.2.2.2.1,p0.2.2.2.2.2.1) a2).bind λt15 =>
 cond (i1==1)
 ((cond (a3==4) (some (decide (t15<0))) (some false)).bind λt24 =>
 (cond t24 (some (decide ((p0.2.2.2.2.1.length:Int)<6))) (some false)).bind λt33 =>
 cond t33
 ((dU (p0.2.2.2.2.1,p0.2.2.2.2.2.1) (a2,0,0)).bind λt41 =>
 some ((p0.1,p0.2.1,p0.2.2.1,p0.2.2.2.1,t41.1,t41.2,p0.2.2.2.2.2.2.1,p0.2.2.2.2.2.2.2.1,p0.2.2.2.2.2.2.2.2.1,p0.2.2.2.2.2.2.2.2.2.1,p0.2.2.2.2.2.2.2.2.2.2),0))
 ((cond (a3==6) (some (decide (t15>=0))) (some false)).bind λt50 =>
 cond t50
 ((dV (p0.2.2.2.2.1,p0.2.2.2.2.2.1) a2).bind λt57 =>
 some ((p0.1,p0.2.1,p0.2.2.1,p0.2.2.2.1,t57.1,t57.2,p0.2.2.2.2.2.2.1,p0.2.2.2.2.2.2.2.1,p0.2.2.2.2.2.2.2.2.1,p0.2.2.2.2.2.2.2.2.2.1,p0.2.2.2.2.2.2.2.2.2.2),0))
 (some (p0,2))))
 ((dN (p0.2.2.1.length:Int)).bind λt66 =>
 (ae a3 0 t66).bind λt67 =>
 cond (!t67)
 (some (p0,2))
 (cond (i1==2)
 ((ix p0.2.2.2.2.1.length t15).bind λj78 =>
 (p0.2.2.2.2.1[j78]?).bind λx =>
 some ((p0.1,p0.2.1,p0.2.2.1,p0.2.2.2.1,p0.2.2.2.2.1.set j78 (x.1,a3,x.2.2),p0.2.2.2.2.2.1,p0.2.2.2.2.2.2.1,p0.2.2.2.2.2.2.2.1,p0.2.2.2.2.2.2.2.2.1,p0.2.2.2.2.2.2.2.2.2.1,p0.2.2.2.2.2.2.2.2.2.2),0))
 ((ix p0.2.2.2.2.1.length t15).bind λj87 =>
 (p0.2.2.2.2.1[j87]?).bind λx_1 =>
 some ((p0.1,p0.2.1,p0.2.2.1,p0.2.2.2.1,p0.2.2.2.2.1.set j87 (x_1.1,x_1.2.1,a3),p0.2.2.2.2.2.1,p0.2.2.2.2.2.2.1,p0.2.2.2.2.2.2.2.1,p0.2.2.2.2.2.2.2.2.1,p0.2.2.2.2.2.2.2.2.2.1,p0.2.2.2.2.2.2.2.2.2.2),0))))
def kc:FL:=(336,⟨[.ptr oV (some true),.val false oJ false,.val false oJ false,.val false oJ false],[.val false oJ (some true)],λa=>fg a.1 a.2.1 a.2.2.1 a.2.2.2⟩)::jZ
theorem nQ:Gd kc:=oM nP 336 Tryz.f336 [] Tryz.func336
def fR (p0:oA) (i1:List Int) (a2:rm):Option (oA×Int) :=
 (at? i1 3).bind λx9 =>
 (cond (x9==1) (some (a2.1 != 4)) (some false)).bind λt17 =>
 (cond t17
 (some true)
 ((cond (!(x9==1)) (some (a2.1 != 2)) (some false)).bind λt25 =>
 some t25)).bind λt26 =>
 cond t26
 (some (p0,1))
 (cond (x9==1)
 (cond (decide ((a2.2.2.1.length:Int)>10))
 (some (p0,2))
 (some ((p0.1,a2.2.2.1,p0.2.2.1,p0.2.2.2.1,p0.2.2.2.2.1,p0.2.2.2.2.2.1,p0.2.2.2.2.2.2.1,p0.2.2.2.2.2.2.2.1,p0.2.2.2.2.2.2.2.2.1,p0.2.2.2.2.2.2.2.2.2.1,p0.2.2.2.2.2.2.2.2.2.2),0)))
 ((at? i1 3).bind λx52 =>
 cond (x52==3)
 ((at? i1 4).bind λx57 =>
 (at? i1 5).bind λx60 =>
 (fg p0 x57 x60 a2.2.1).bind λt64 =>
 some t64)
 ((at? i1 4).bind λx67 =>
 cond (x67==2)
 ((ae a2.2.1 1 1000).bind λt72 =>
 cond (!t72)
 (some (p0,2))
 ((at? i1 5).bind λx79 =>
 (ix p0.2.2.1.length (oB (x79-1))).bind λj84 =>
 (p0.2.2.1[j84]?).bind λx =>
 some ((p0.1,p0.2.1,p0.2.2.1.set j84 (x.1,a2.2.1,x.2.2.1,x.2.2.2.1,x.2.2.2.2.1,x.2.2.2.2.2.1,x.2.2.2.2.2.2.1,x.2.2.2.2.2.2.2),p0.2.2.2.1,p0.2.2.2.2.1,p0.2.2.2.2.2.1,p0.2.2.2.2.2.2.1,p0.2.2.2.2.2.2.2.1,p0.2.2.2.2.2.2.2.2.1,p0.2.2.2.2.2.2.2.2.2.1,p0.2.2.2.2.2.2.2.2.2.2),0)))
 ((at? i1 5).bind λx33 =>
 (ix p0.2.2.2.2.2.1.length (oB (x33-1))).bind λj38 =>
 (p0.2.2.2.2.2.1[j38]?).bind λx_1 =>
 some ((p0.1,p0.2.1,p0.2.2.1,p0.2.2.2.1,p0.2.2.2.2.1,p0.2.2.2.2.2.1.set j38 a2.2.1,p0.2.2.2.2.2.2.1,p0.2.2.2.2.2.2.2.1,p0.2.2.2.2.2.2.2.2.1,p0.2.2.2.2.2.2.2.2.2.1,p0.2.2.2.2.2.2.2.2.2.2),0)))))
def ke:FL:=(281,⟨[.ptr oV (some true),.val false qx false,.val true sR false],[.val false oJ (some true)],λa=>fR a.1 a.2.1 a.2.2⟩)::kc
theorem nR:Gd ke:=oM nQ 281 Tryz.f281 [] Tryz.func281
def ca (l0:List oG) (tag1:Int) (mac2:Int) (t11:Int):Option (Int⊕(Unit⊕Int)) :=
 cond (decide (t11<(l0.length:Int)))
 ((at? l0 t11).bind λx14 =>
 (cond (x14.1==tag1) (some (x14.2.1==mac2)) (some false)).bind λt25 =>
 cond t25 (some (.inr (.inr t11))) (some (.inl (oB (t11+1)))))
 (some (.inr (.inl ())))
def fh (l0:List oG) (tag1:Int) (mac2:Int):Option Int :=
 (loop (λz=>ca l0 tag1 mac2 z) 0).bind (Sum.elim (λd =>
 some (-1)) (λr=>some r))
def kf:FL:=(337,⟨[.val false (.one (.sl p3)) false,.val false oJ false,.val false oJ false],[.val false oJ (some true)],λa=>fh a.1 a.2.1 a.2.2⟩)::ke
theorem nS:Gd kf:=oM nR 337 Tryz.f337 [(0,⟨⟨(11,false,[dI])::us 21 4 [],[]⟩,
 ⟨[],[]⟩,some ⟨[(6,false,[dI])],[]⟩⟩)] Tryz.func337
def fi (b0:oA) (o1:List Int):Option Bool :=
 (aM o1 2 5 ([1]:List Int)).bind λt11 =>
 (cond t11
 (some true)
 ((aM o1 1 (b0.2.2.1.length:Int) ([2,1]:List Int)).bind λt16 =>
 some t16)).bind λt17 =>
 (cond t17
 (some true)
 ((aM o1 1 (b0.2.2.1.length:Int) ([2,3]:List Int)).bind λt22 =>
 some t22)).bind λt23 =>
 cond t23
 (some true)
 ((cond ((o1.length:Int)==7)
 ((cut o1 0 5).bind λt29 =>
 (au t29 ([1,3,1,4,1]:List Int)).bind λt31 =>
 some t31)
 (some false)).bind λt32 =>
 (cond t32
 ((at? o1 5).bind λx37 =>
 (at? o1 6).bind λx40 =>
 (fh b0.2.2.2.1 x37 x40).bind λt42 =>
 some (decide (t42>=0)))
 (some false)).bind λt44 =>
 some t44)
def kg:FL:=(282,⟨[.val true oV false,.val false qx false],[.val false pC (some true)],λa=>fi a.1 a.2⟩)::kf
theorem nT:Gd kg:=oM nS 282 Tryz.f282 [] Tryz.func282
def cb (b0:oA) (x1:oC):Option (oA×Int) :=
 (fe b0 x1.1).bind λt11 =>
 cond t11
 ((fR b0 x1.1 x1.2).bind λt17 =>
 some t17)
 ((fi b0 x1.1).bind λt24 =>
 cond t24 (some (b0,4)) (some (b0,3)))
def kh:FL:=(171,⟨[.ptr oV (some true),.val true oK false],[.val false oJ (some true)],λa=>cb a.1 a.2⟩)::kg
theorem nU:Gd kh:=oM nT 171 Tryz.f171 [] Tryz.func171
def dW (n0:Int):Option Int :=
 let t2:=min2 (oB (n0+1)) 1000000
 some t2
def ki:FL:=(130,⟨[.val false oJ false],[.val false oJ (some true)],λa=>dW a⟩)::kh
theorem nV:Gd ki:=oM nU 130 Tryz.f130 [] Tryz.func130
def aQ (id0:Int) (l1:List Pt) (bits5:Int) (port6:Int):Option ((Int×Int)⊕Int) :=
 (cond (decide (port6<(l1.length:Int))) (some (decide (port6<6))) (some false)).bind λt15 =>
 cond t15
 ((aK id0 l1 port6).bind λt21 =>
 (cond (t21==1) (some true) (some (t21==2))).bind λt27 =>
 cond t27
 ((shl .i64 1 port6).bind λt30 =>
 some (.inl (zS .i64 bits5 t30,oB (port6+1))))
 (some (.inl (bits5,oB (port6+1)))))
 (some (.inr bits5))
def fj (id0:Int) (l1:List Pt):Option Int :=
 (loop (λz=>aQ id0 l1 z.1 z.2) (0,0)).bind λd =>
 some d
def kj:FL:=(283,⟨[.val false oJ false,.val false (.one (.sl qy)) false],[.val false oJ (some true)],λa=>fj a.1 a.2⟩)::ki
theorem nW:Gd kj:=oM nV 283 Tryz.f283 [(0,⟨⟨[(5,false,[dI]),(6,false,[dI]),(13,false,[.undef]),(14,false,[.undef]),(25,false,[.undef]),(26,false,[.undef])],[]⟩,
 ⟨[(5,false,[dI])],[]⟩,none⟩)] Tryz.func283
def fk (bits0:Int) (port1:Int):Option Bool :=
 (ae port1 0 62).bind λt6 =>
 (cond t6
 ((shr .i64 bits0 port1).bind λt10 =>
 some ((rJ .i64 t10 1)==1))
 (some false)).bind λt13 =>
 some t13
def kk:FL:=(284,⟨[.val false oJ false,.val false oJ false],[.val false pC (some true)],λa=>fk a.1 a.2⟩)::kj
theorem nX:Gd kk:=oM nW 284 Tryz.f284 [] Tryz.func284
def cV (l0:List oG) (port1:Int) (t10:Int) (out5:List oG):Option ((Int×List oG)⊕(List oG)) :=
 cond (decide (t10<(l0.length:Int)))
 ((at? l0 t10).bind λx12 =>
 (cond x12.2.2.2.2 (some true) (some (x12.2.2.1 != port1))).bind λt21 =>
 cond t21
 ((oX out5 [x12]).bind λzs25 =>
 some (.inl (oB (t10+1),zs25)))
 (some (.inl (oB (t10+1),out5))))
 (some (.inr out5))
def fm (l0:List oG) (port1:Int):Option (List oG) :=
 (loop (λz=>cV l0 port1 z.1 z.2) (0,[])).bind λd =>
 some d
def kl:FL:=(285,⟨[.val false (.one (.sl p3)) false,.val false oJ false],[.val false (.one (.sl p3)) (some true)],λa=>fm a.1 a.2⟩)::kk
theorem nY:Gd kl:=oM nX 285 Tryz.f285 [(0,⟨⟨(5,false,[.own 1000000000])::(10,false,[dI])::us 17 4 [],[(1000000000,.root p3 true)]⟩,
 ⟨[(5,false,[.own 1000000300])],[(1000000300,.root p3 true)]⟩,none⟩)] Tryz.func285
def fo (b0:oA) (t20:Int) (t26:Int) (b0_1:Int) (b1:List UInt8) (b6:Int) (b7:Int) (b8:Int) (b9:Int) (b10:Int) (b3:List oG):Option ((Int×Int×List UInt8×Int×Int×Int×Int×Int×List oG)⊕(Int×List UInt8×Int×Int×Int×Int×Int×List oG)) :=
 cond (decide (t26<(b0.2.2.1.length:Int)))
 ((fk t20 t26).bind λt31 =>
 cond (!t31)
 ((fm b3 t26).bind λt39 =>
 some (.inl (oB (t26+1),b0_1,b1,b6,b7,b8,b9,b10,t39)))
 (some (.inl (oB (t26+1),b0_1,b1,b6,b7,b8,b9,b10,b3))))
 (some (.inr (b0_1,b1,b6,b7,b8,b9,b10,b3)))
def cc (b0:oA):Option oA :=
 (dW b0.2.2.2.2.2.2.2.2.2.2).bind λt9 =>
 (fj b0.1 b0.2.2.1).bind λt20 =>
 (loop (λz=>fo b0 t20 z.1 z.2.1 z.2.2.1 z.2.2.2.1 z.2.2.2.2.1 z.2.2.2.2.2.1 z.2.2.2.2.2.2.1 z.2.2.2.2.2.2.2.1 z.2.2.2.2.2.2.2.2) (0,b0.1,b0.2.1,b0.2.2.2.2.2.2.1,b0.2.2.2.2.2.2.2.1,b0.2.2.2.2.2.2.2.2.1,b0.2.2.2.2.2.2.2.2.2.1,t9,b0.2.2.2.1)).bind λd =>
 some (d.1,d.2.1,b0.2.2.1,d.2.2.2.2.2.2.2,b0.2.2.2.2.1,b0.2.2.2.2.2.1,d.2.2.1,d.2.2.2.1,d.2.2.2.2.1,d.2.2.2.2.2.1,d.2.2.2.2.2.2.1)
def ko:FL:=(172,⟨[.ptr oV (some true)],[],λa=>cc a⟩)::kl
theorem nZ:Gd ko:=oM nY 172 Tryz.f172 [(0,⟨⟨[(26,false,[dI])],[(1,.box [dI,dS,.same 4,.own 1000000000,.same 6,.same 7,dI,dI,dI,dI,dI]),(1000000000,.root p3 true)]⟩,
 ⟨[],[(1,.box [dI,dS,.same 4,.own 1000000300,.same 6,.same 7,dI,dI,dI,dI,dI]),(1000000300,.root p3 true)]⟩,none⟩)] Tryz.func172
def dX (p0:oA) (t25:Int) (x28:oC) (t32:List oC) (t34:Int) (b0_2:Int) (b1_2:List UInt8) (b6_2:Int) (b7_2:Int) (b8_2:Int) (b9_2:Int) (b10_2:Int):Option ((Int×Int×List UInt8×Int×Int×Int×Int×Int)⊕((Int×List UInt8×Int×Int×Int×Int×Int)⊕(Int×Int×Int×List UInt8×Int×Int×Int×Int×Int×List Pt×List oG×List oO×List Int))) :=
 cond (decide (t34<(t32.length:Int)))
 ((at? t32 t34).bind λx36 =>
 (au x28.1 x36.1).bind λt42 =>
 cond t42
 ((aL p0).bind λt44 =>
 some (.inr (.inr (5,oB (t25+1),t44.1,t44.2.1,t44.2.2.2.2.2.2.1,t44.2.2.2.2.2.2.2.1,t44.2.2.2.2.2.2.2.2.1,t44.2.2.2.2.2.2.2.2.2.1,t44.2.2.2.2.2.2.2.2.2.2,t44.2.2.1,t44.2.2.2.1,t44.2.2.2.2.1,t44.2.2.2.2.2.1))))
 (some (.inl (oB (t34+1),b0_2,b1_2,b6_2,b7_2,b8_2,b9_2,b10_2))))
 (some (.inr (.inl (b0_2,b1_2,b6_2,b7_2,b8_2,b9_2,b10_2))))
def fp (p0:oA) (i1:List oC) (t25:Int) (b0:Int) (b1:List UInt8) (b6:Int) (b7:Int) (b8:Int) (b9:Int) (b10:Int) (b0_1:Int) (b1_1:List UInt8) (b6_1:Int) (b7_1:Int) (b8_1:Int) (b9_1:Int) (b10_1:Int) (b2:List Pt) (b3:List oG) (b4:List oO) (b5:List Int) (b2_1:List Pt) (b3_1:List oG) (b4_1:List oO) (b5_1:List Int):Option ((Int×Int×List UInt8×Int×Int×Int×Int×Int×Int×List UInt8×Int×Int×Int×Int×Int×List Pt×List oG×List oO×List Int×List Pt×List oG×List oO×List Int)⊕((Int×List UInt8×Int×Int×Int×Int×Int×Int×List UInt8×Int×Int×Int×Int×Int×List Pt×List oG×List oO×List Int×List Pt×List oG×List oO×List Int)⊕(Int×Int×Int×List UInt8×Int×Int×Int×Int×Int×List Pt×List oG×List oO×List Int))) :=
 cond (decide (t25<(i1.length:Int)))
 ((at? i1 t25).bind λx28 =>
 (cut i1 0 t25).bind λt32 =>
 (loop (λz=>dX p0 t25 x28 t32 z.1 z.2.1 z.2.2.1 z.2.2.2.1 z.2.2.2.2.1 z.2.2.2.2.2.1 z.2.2.2.2.2.2.1 z.2.2.2.2.2.2.2) (0,b0,b1,b6,b7,b8,b9,b10)).bind (Sum.elim (λd =>
 (cb (b0_1,b1_1,b2_1,b3_1,b4_1,b5_1,b6_1,b7_1,b8_1,b9_1,b10_1) x28).bind λt49 =>
 cond (t49.2 != 0)
 ((aL p0).bind λt53 =>
 some (.inr (.inr (t49.2,oB (t25+1),t53.1,t53.2.1,t53.2.2.2.2.2.2.1,t53.2.2.2.2.2.2.2.1,t53.2.2.2.2.2.2.2.2.1,t53.2.2.2.2.2.2.2.2.2.1,t53.2.2.2.2.2.2.2.2.2.2,t53.2.2.1,t53.2.2.2.1,t53.2.2.2.2.1,t53.2.2.2.2.2.1))))
 (some (.inl (oB (t25+1),d.1,d.2.1,d.2.2.1,d.2.2.2.1,d.2.2.2.2.1,d.2.2.2.2.2.1,d.2.2.2.2.2.2,t49.1.1,t49.1.2.1,t49.1.2.2.2.2.2.2.1,t49.1.2.2.2.2.2.2.2.1,t49.1.2.2.2.2.2.2.2.2.1,t49.1.2.2.2.2.2.2.2.2.2.1,t49.1.2.2.2.2.2.2.2.2.2.2,b2,b3,b4,b5,t49.1.2.2.1,t49.1.2.2.2.1,t49.1.2.2.2.2.1,t49.1.2.2.2.2.2.1)))) (λr=>some (.inr (.inr r)))))
 (some (.inr (.inl (b0,b1,b6,b7,b8,b9,b10,b0_1,b1_1,b6_1,b7_1,b8_1,b9_1,b10_1,b2,b3,b4,b5,b2_1,b3_1,b4_1,b5_1))))
def cW (p0:oA) (i1:List oC):Option (oA×Int×Int) :=
 (aL p0).bind λt14 =>
 cond ((i1.length:Int)==0)
 (some (t14,0,0))
 ((cN p0).bind λt20 =>
 cond (!t20)
 (some (t14,3,1))
 ((loop (λz=>fp p0 i1 z.1 z.2.1 z.2.2.1 z.2.2.2.1 z.2.2.2.2.1 z.2.2.2.2.2.1 z.2.2.2.2.2.2.1 z.2.2.2.2.2.2.2.1 z.2.2.2.2.2.2.2.2.1 z.2.2.2.2.2.2.2.2.2.1 z.2.2.2.2.2.2.2.2.2.2.1 z.2.2.2.2.2.2.2.2.2.2.2.1 z.2.2.2.2.2.2.2.2.2.2.2.2.1 z.2.2.2.2.2.2.2.2.2.2.2.2.2.1 z.2.2.2.2.2.2.2.2.2.2.2.2.2.2.1 z.2.2.2.2.2.2.2.2.2.2.2.2.2.2.2.1 z.2.2.2.2.2.2.2.2.2.2.2.2.2.2.2.2.1 z.2.2.2.2.2.2.2.2.2.2.2.2.2.2.2.2.2.1 z.2.2.2.2.2.2.2.2.2.2.2.2.2.2.2.2.2.2.1 z.2.2.2.2.2.2.2.2.2.2.2.2.2.2.2.2.2.2.2.1 z.2.2.2.2.2.2.2.2.2.2.2.2.2.2.2.2.2.2.2.2.1 z.2.2.2.2.2.2.2.2.2.2.2.2.2.2.2.2.2.2.2.2.2.1 z.2.2.2.2.2.2.2.2.2.2.2.2.2.2.2.2.2.2.2.2.2.2) (0,0,[],0,0,0,0,0,t14.1,t14.2.1,t14.2.2.2.2.2.2.1,t14.2.2.2.2.2.2.2.1,t14.2.2.2.2.2.2.2.2.1,t14.2.2.2.2.2.2.2.2.2.1,t14.2.2.2.2.2.2.2.2.2.2,[],[],[],[],t14.2.2.1,t14.2.2.2.1,t14.2.2.2.2.1,t14.2.2.2.2.2.1)).bind (Sum.elim (λd_1 =>
 (cM d_1.2.2.2.2.2.2.2.2.2.2.2.2.2.2.2.2.2.2.2.2 (d_1.2.2.2.2.2.2.2.2.2.2.2.2.2.2.2.2.2.2.1.length:Int)).bind λt63 =>
 cond (!t63)
 ((aL p0).bind λt66 =>
 some (t66,5,(i1.length:Int)))
 ((cc (d_1.2.2.2.2.2.2.2.1,d_1.2.2.2.2.2.2.2.2.1,d_1.2.2.2.2.2.2.2.2.2.2.2.2.2.2.2.2.2.2.1,d_1.2.2.2.2.2.2.2.2.2.2.2.2.2.2.2.2.2.2.2.1,d_1.2.2.2.2.2.2.2.2.2.2.2.2.2.2.2.2.2.2.2.2.1,d_1.2.2.2.2.2.2.2.2.2.2.2.2.2.2.2.2.2.2.2.2.2,d_1.2.2.2.2.2.2.2.2.2.1,d_1.2.2.2.2.2.2.2.2.2.2.1,d_1.2.2.2.2.2.2.2.2.2.2.2.1,d_1.2.2.2.2.2.2.2.2.2.2.2.2.1,d_1.2.2.2.2.2.2.2.2.2.2.2.2.2.1)).bind λt69 =>
 some (t69,0,0))) (λr_1=>some ((r_1.2.2.1,r_1.2.2.2.1,r_1.2.2.2.2.2.2.2.2.2.1,r_1.2.2.2.2.2.2.2.2.2.2.1,r_1.2.2.2.2.2.2.2.2.2.2.2.1,r_1.2.2.2.2.2.2.2.2.2.2.2.2,r_1.2.2.2.2.1,r_1.2.2.2.2.2.1,r_1.2.2.2.2.2.2.1,r_1.2.2.2.2.2.2.2.1,r_1.2.2.2.2.2.2.2.2.1),r_1.1,r_1.2.1)))))
def kq:FL:=(80,⟨[.val true oV false,.val false (.one (.sl oK)) false],[.val true oV (some true),.val false oJ (some true),.val false oJ (some true)],λa=>cW a.1 a.2⟩)::ko
theorem o4:Gd kq:=oM nZ 80 Tryz.f80 [(0,⟨⟨[(25,false,[dI])],[(2048,.box [dI,dS,.own 1000000000,.own 1000000001,.own 1000000002,.own 1000000003,dI,dI,dI,dI,dI]),(265216,.box [dI,dS,.own 1000000004,.own 1000000005,.own 1000000006,.own 1000000007,dI,dI,dI,dI,dI]),(1000000000,.root qy true),(1000000001,.root p3 true),(1000000002,.root pu true),(1000000003,.root oJ true),(1000000004,.root qy true),(1000000005,.root p3 true),(1000000006,.root pu true),(1000000007,.root oJ true)]⟩,
 ⟨[],[(2048,.box [dI,dS,.own 1000000300,.own 1000000301,.own 1000000302,.own 1000000303,dI,dI,dI,dI,dI]),(265216,.box [dI,dS,.own 1000000304,.own 1000000305,.own 1000000306,.own 1000000307,dI,dI,dI,dI,dI]),(1000000300,.root qy true),(1000000301,.root p3 true),(1000000302,.root pu true),(1000000303,.root oJ true),(1000000304,.root qy true),(1000000305,.root p3 true),(1000000306,.root pu true),(1000000307,.root oJ true)]⟩,some ⟨[(5,false,[dI]),(6,false,[dI])],[(2048,.box [dI,dS,.own 1000000600,.own 1000000601,.own 1000000602,.own 1000000603,dI,dI,dI,dI,dI]),(1000000600,.root qy true),(1000000601,.root p3 true),(1000000602,.root pu true),(1000000603,.root oJ true)]⟩⟩),
 (2,⟨⟨[(34,false,[dI])],[(2048,.box [dI,dS,.same 1000000000,.same 1000000001,.same 1000000002,.same 1000000003,dI,dI,dI,dI,dI])]⟩,
 ⟨[],[(2048,.box [dI,dS,.same 1000000000,.same 1000000001,.same 1000000002,.same 1000000003,dI,dI,dI,dI,dI])]⟩,some ⟨[(5,false,[dI]),(6,false,[dI])],[(2048,.box [dI,dS,.own 1000002600,.own 1000002601,.own 1000002602,.own 1000002603,dI,dI,dI,dI,dI]),(1000002600,.root qy true),(1000002601,.root p3 true),(1000002602,.root pu true),(1000002603,.root oJ true)]⟩⟩)] Tryz.func80
def fq (v0:rm):Option rm :=
 (aP v0.2.2.2).bind λt5 =>
 some (v0.1,v0.2.1,v0.2.2.1,t5)
def kr:FL:=(173,⟨[.val true sR false],[.val true sR (some true)],λa=>fq a⟩)::kq
theorem o5:Gd kr:=oM o4 173 Tryz.f173 [] Tryz.func173
def cX (l0:List oC) (t8:Int) (out3:List oC):Option ((Int×List oC)⊕(List oC)) :=
 cond (decide (t8<(l0.length:Int)))
 ((at? l0 t8).bind λx10 =>
 (aP x10.1).bind λt15 =>
 (fq x10.2).bind λt18 =>
 (oX out3 [(t15,t18.1,t18.2.1,t18.2.2.1,t18.2.2.2)]).bind λzs21 =>
 some (.inl (oB (t8+1),zs21)))
 (some (.inr out3))
def fr (l0:List oC):Option (List oC) :=
 (loop (λz=>cX l0 z.1 z.2) (0,[])).bind λd =>
 some d
def kt:FL:=(81,⟨[.val false (.one (.sl oK)) false],[.val false (.one (.sl oK)) (some true)],λa=>fr a⟩)::kr
theorem o6:Gd kt:=oM o5 81 Tryz.f81 [(0,⟨⟨[(3,false,[.own 1000000000]),(8,false,[dI])],[(1000000000,.root oK true)]⟩,
 ⟨[(3,false,[.own 1000000300])],[(1000000300,.root oK true)]⟩,none⟩)] Tryz.func81
def dY (p0:oA) (i1:p7) (t54:Int) (b0:Int) (b1:Int) (b2:Int) (b3:Int) (b4:List oC):Option ((Int×Int×Int×Int×Int×List oC)⊕(Int×Int×Int×Int×List oC)) :=
 cond (decide (t54<(i1.2.2.2.2.length:Int)))
 ((at? i1.2.2.2.2 t54).bind λx56 =>
 (aP x56.1).bind λt62 =>
 (bA p0 x56.1).bind λt66 =>
 (oX b4 [(t62,t66.1,t66.2.1,t66.2.2.1,t66.2.2.2)]).bind λzs69 =>
 some (.inl (oB (t54+1),b0,b1,b2,b3,zs69)))
 (some (.inr (b0,b1,b2,b3,b4)))
def ku (i1:p7) (b0_2:Int) (b1_2:List UInt8) (b6:Int) (b7:Int) (b8:Int) (b9:Int) (b10:Int) (b0_3:Int) (b1_3:Int) (b2_2:Int) (b3_2:Int) (b0_4:Int) (b1_4:List UInt8) (b6_1:Int) (b7_1:Int) (b8_1:Int) (b9_1:Int) (b10_1:Int) (b0_5:Int) (b1_5:Int) (b2_3:Int) (b3_3:Int) (b4_2:List oC) (b2_4:List Pt) (b3_4:List oG) (b4_3:List oO) (b5:List Int) (b4_4:List oC) (b2_5:List Pt) (b3_5:List oG) (b4_5:List oO) (b5_1:List Int):Option ((Int×List UInt8×Int×Int×Int×Int×Int×Int×Int×Int×Int×Int×List UInt8×Int×Int×Int×Int×Int×Int×Int×Int×Int×List oC×List Pt×List oG×List oO×List Int×List oC×List Pt×List oG×List oO×List Int)⊕((Int×List UInt8×Int×Int×Int×Int×Int×Int×Int×Int×Int×Int×List UInt8×Int×Int×Int×Int×Int×Int×Int×Int×Int×List oC×List Pt×List oG×List oO×List Int×List oC×List Pt×List oG×List oO×List Int)⊕(Bool×Int×List UInt8×Int×Int×Int×Int×Int×Int×Int×Int×Int×List oC×List Pt×List oG×List oO×List Int))) :=
 (cond (i1.1==165) (some (decide ((b4_2.length:Int)>0))) (some false)).bind λt109 =>
 cond t109
 ((cut b4_2 0 (oB ((b4_2.length:Int)-1))).bind λt116 =>
 (aH (b0_5,b1_5,b2_3,b3_3,t116)).bind λt119 =>
 cond t119
 (some (.inr (.inr (true,b0_4,b1_4,b6_1,b7_1,b8_1,b9_1,b10_1,b0_5,b1_5,b2_3,b3_3,t116,b2_5,b3_5,b4_5,b5_1))))
 (some (.inl (b0_2,b1_2,b6,b7,b8,b9,b10,b0_3,b1_3,b2_2,b3_2,b0_4,b1_4,b6_1,b7_1,b8_1,b9_1,b10_1,b0_5,b1_5,b2_3,b3_3,t116,b2_4,b3_4,b4_3,b5,b4_4,b2_5,b3_5,b4_5,b5_1))))
 (some (.inr (.inl (b0_2,b1_2,b6,b7,b8,b9,b10,b0_3,b1_3,b2_2,b3_2,b0_4,b1_4,b6_1,b7_1,b8_1,b9_1,b10_1,b0_5,b1_5,b2_3,b3_3,b4_2,b2_4,b3_4,b4_3,b5,b4_4,b2_5,b3_5,b4_5,b5_1))))
def dZ (p0:oA) (i1:p7) (t77:Int) (b0_10:Int) (b1_10:Int) (b2_10:Int) (b3_10:Int) (b4_10:List oC):Option ((Int×Int×Int×Int×Int×List oC)⊕(Int×Int×Int×Int×List oC)) :=
 cond (decide (t77<(i1.2.2.2.2.length:Int)))
 ((at? i1.2.2.2.2 t77).bind λx79 =>
 (aY p0 x79.1).bind λt86 =>
 (oX b4_10 [t86]).bind λzs88 =>
 some (.inl (oB (t77+1),b0_10,b1_10,b2_10,b3_10,zs88)))
 (some (.inr (b0_10,b1_10,b2_10,b3_10,b4_10)))
def kv (i1:p7) (b0_12:Int) (b1_12:List UInt8) (b6_4:Int) (b7_4:Int) (b8_4:Int) (b9_4:Int) (b10_4:Int) (b0_13:Int) (b1_13:Int) (b2_12:Int) (b3_12:Int) (b0_14:Int) (b1_14:List UInt8) (b6_5:Int) (b7_5:Int) (b8_5:Int) (b9_5:Int) (b10_5:Int) (b0_15:Int) (b1_15:Int) (b2_13:Int) (b3_13:Int) (b4_12:List oC) (b2_14:List Pt) (b3_14:List oG) (b4_13:List oO) (b5_4:List Int) (b4_14:List oC) (b2_15:List Pt) (b3_15:List oG) (b4_15:List oO) (b5_5:List Int):Option ((Int×List UInt8×Int×Int×Int×Int×Int×Int×Int×Int×Int×Int×List UInt8×Int×Int×Int×Int×Int×Int×Int×Int×Int×List oC×List Pt×List oG×List oO×List Int×List oC×List Pt×List oG×List oO×List Int)⊕((Int×List UInt8×Int×Int×Int×Int×Int×Int×Int×Int×Int×Int×List UInt8×Int×Int×Int×Int×Int×Int×Int×Int×Int×List oC×List Pt×List oG×List oO×List Int×List oC×List Pt×List oG×List oO×List Int)⊕(Bool×Int×List UInt8×Int×Int×Int×Int×Int×Int×Int×Int×Int×List oC×List Pt×List oG×List oO×List Int))) :=
 (cond (i1.1==165) (some (decide ((b4_12.length:Int)>0))) (some false)).bind λt109_1 =>
 cond t109_1
 ((cut b4_12 0 (oB ((b4_12.length:Int)-1))).bind λt116_1 =>
 (aH (b0_15,b1_15,b2_13,b3_13,t116_1)).bind λt119_1 =>
 cond t119_1
 (some (.inr (.inr (true,b0_14,b1_14,b6_5,b7_5,b8_5,b9_5,b10_5,b0_15,b1_15,b2_13,b3_13,t116_1,b2_15,b3_15,b4_15,b5_5))))
 (some (.inl (b0_12,b1_12,b6_4,b7_4,b8_4,b9_4,b10_4,b0_13,b1_13,b2_12,b3_12,b0_14,b1_14,b6_5,b7_5,b8_5,b9_5,b10_5,b0_15,b1_15,b2_13,b3_13,t116_1,b2_14,b3_14,b4_13,b5_4,b4_14,b2_15,b3_15,b4_15,b5_5))))
 (some (.inr (.inl (b0_12,b1_12,b6_4,b7_4,b8_4,b9_4,b10_4,b0_13,b1_13,b2_12,b3_12,b0_14,b1_14,b6_5,b7_5,b8_5,b9_5,b10_5,b0_15,b1_15,b2_13,b3_13,b4_12,b2_14,b3_14,b4_13,b5_4,b4_14,b2_15,b3_15,b4_15,b5_5))))
def e9 (i1:p7) (b0_20:Int) (b1_20:List UInt8) (b6_8:Int) (b7_8:Int) (b8_8:Int) (b9_8:Int) (b10_8:Int) (b0_21:Int) (b1_21:Int) (b2_20:Int) (b3_20:Int) (b0_22:Int) (b1_22:List UInt8) (b6_9:Int) (b7_9:Int) (b8_9:Int) (b9_9:Int) (b10_9:Int) (b0_23:Int) (b1_23:Int) (b2_21:Int) (b3_21:Int) (b4_20:List oC) (b2_22:List Pt) (b3_22:List oG) (b4_21:List oO) (b5_8:List Int) (b4_22:List oC) (b2_23:List Pt) (b3_23:List oG) (b4_23:List oO) (b5_9:List Int):Option ((Int×List UInt8×Int×Int×Int×Int×Int×Int×Int×Int×Int×Int×List UInt8×Int×Int×Int×Int×Int×Int×Int×Int×Int×List oC×List Pt×List oG×List oO×List Int×List oC×List Pt×List oG×List oO×List Int)⊕((Int×List UInt8×Int×Int×Int×Int×Int×Int×Int×Int×Int×Int×List UInt8×Int×Int×Int×Int×Int×Int×Int×Int×Int×List oC×List Pt×List oG×List oO×List Int×List oC×List Pt×List oG×List oO×List Int)⊕(Bool×Int×List UInt8×Int×Int×Int×Int×Int×Int×Int×Int×Int×List oC×List Pt×List oG×List oO×List Int))) :=
 (cond (i1.1==165) (some (decide ((b4_20.length:Int)>0))) (some false)).bind λt109_2 =>
 cond t109_2
 ((cut b4_20 0 (oB ((b4_20.length:Int)-1))).bind λt116_2 =>
 (aH (b0_23,b1_23,b2_21,b3_21,t116_2)).bind λt119_2 =>
 cond t119_2
 (some (.inr (.inr (true,b0_22,b1_22,b6_9,b7_9,b8_9,b9_9,b10_9,b0_23,b1_23,b2_21,b3_21,t116_2,b2_23,b3_23,b4_23,b5_9))))
 (some (.inl (b0_20,b1_20,b6_8,b7_8,b8_8,b9_8,b10_8,b0_21,b1_21,b2_20,b3_20,b0_22,b1_22,b6_9,b7_9,b8_9,b9_9,b10_9,b0_23,b1_23,b2_21,b3_21,t116_2,b2_22,b3_22,b4_21,b5_8,b4_22,b2_23,b3_23,b4_23,b5_9))))
 (some (.inr (.inl (b0_20,b1_20,b6_8,b7_8,b8_8,b9_8,b10_8,b0_21,b1_21,b2_20,b3_20,b0_22,b1_22,b6_9,b7_9,b8_9,b9_9,b10_9,b0_23,b1_23,b2_21,b3_21,b4_20,b2_22,b3_22,b4_21,b5_8,b4_22,b2_23,b3_23,b4_23,b5_9))))
def kw (i1:p7) (b0_28:Int) (b1_28:List UInt8) (b6_12:Int) (b7_12:Int) (b8_12:Int) (b9_12:Int) (b10_12:Int) (b0_29:Int) (b1_29:Int) (b2_28:Int) (b3_28:Int) (b0_30:Int) (b1_30:List UInt8) (b6_13:Int) (b7_13:Int) (b8_13:Int) (b9_13:Int) (b10_13:Int) (b0_31:Int) (b1_31:Int) (b2_29:Int) (b3_29:Int) (b4_28:List oC) (b2_30:List Pt) (b3_30:List oG) (b4_29:List oO) (b5_12:List Int) (b4_30:List oC) (b2_31:List Pt) (b3_31:List oG) (b4_31:List oO) (b5_13:List Int):Option ((Int×List UInt8×Int×Int×Int×Int×Int×Int×Int×Int×Int×Int×List UInt8×Int×Int×Int×Int×Int×Int×Int×Int×Int×List oC×List Pt×List oG×List oO×List Int×List oC×List Pt×List oG×List oO×List Int)⊕((Int×List UInt8×Int×Int×Int×Int×Int×Int×Int×Int×Int×Int×List UInt8×Int×Int×Int×Int×Int×Int×Int×Int×Int×List oC×List Pt×List oG×List oO×List Int×List oC×List Pt×List oG×List oO×List Int)⊕(Bool×Int×List UInt8×Int×Int×Int×Int×Int×Int×Int×Int×Int×List oC×List Pt×List oG×List oO×List Int))) :=
 (cond (i1.1==165) (some (decide ((b4_28.length:Int)>0))) (some false)).bind λt109_3 =>
 cond t109_3
 ((cut b4_28 0 (oB ((b4_28.length:Int)-1))).bind λt116_3 =>
 (aH (b0_31,b1_31,b2_29,b3_29,t116_3)).bind λt119_3 =>
 cond t119_3
 (some (.inr (.inr (true,b0_30,b1_30,b6_13,b7_13,b8_13,b9_13,b10_13,b0_31,b1_31,b2_29,b3_29,t116_3,b2_31,b3_31,b4_31,b5_13))))
 (some (.inl (b0_28,b1_28,b6_12,b7_12,b8_12,b9_12,b10_12,b0_29,b1_29,b2_28,b3_28,b0_30,b1_30,b6_13,b7_13,b8_13,b9_13,b10_13,b0_31,b1_31,b2_29,b3_29,t116_3,b2_30,b3_30,b4_29,b5_12,b4_30,b2_31,b3_31,b4_31,b5_13))))
 (some (.inr (.inl (b0_28,b1_28,b6_12,b7_12,b8_12,b9_12,b10_12,b0_29,b1_29,b2_28,b3_28,b0_30,b1_30,b6_13,b7_13,b8_13,b9_13,b10_13,b0_31,b1_31,b2_29,b3_29,b4_28,b2_30,b3_30,b4_29,b5_12,b4_30,b2_31,b3_31,b4_31,b5_13))))
def f0 (p0:oA) (i1:p7):Option (oA×p7×Bool) :=
 (aL p0).bind λt14 =>
 (cN p0).bind λt16 =>
 (cond (!t16)
 (some true)
 ((dH i1).bind λt20 =>
 some (!t20))).bind λt22 =>
 (cond t22 (some true) (some (i1.1==162))).bind λt27 =>
 cond t27
 (some (t14,(0,0,0,0,[]),false))
 (cond (i1.1==160)
 ((loop (λz=>dY p0 i1 z.1 z.2.1 z.2.2.1 z.2.2.2.1 z.2.2.2.2.1 z.2.2.2.2.2) (0,162,i1.2.1,0,0,[])).bind λd =>
 (aH d).bind λt98 =>
 cond t98
 (some (t14,d,true))
 ((loop (λz=>ku i1 z.1 z.2.1 z.2.2.1 z.2.2.2.1 z.2.2.2.2.1 z.2.2.2.2.2.1 z.2.2.2.2.2.2.1 z.2.2.2.2.2.2.2.1 z.2.2.2.2.2.2.2.2.1 z.2.2.2.2.2.2.2.2.2.1 z.2.2.2.2.2.2.2.2.2.2.1 z.2.2.2.2.2.2.2.2.2.2.2.1 z.2.2.2.2.2.2.2.2.2.2.2.2.1 z.2.2.2.2.2.2.2.2.2.2.2.2.2.1 z.2.2.2.2.2.2.2.2.2.2.2.2.2.2.1 z.2.2.2.2.2.2.2.2.2.2.2.2.2.2.2.1 z.2.2.2.2.2.2.2.2.2.2.2.2.2.2.2.2.1 z.2.2.2.2.2.2.2.2.2.2.2.2.2.2.2.2.2.1 z.2.2.2.2.2.2.2.2.2.2.2.2.2.2.2.2.2.2.1 z.2.2.2.2.2.2.2.2.2.2.2.2.2.2.2.2.2.2.2.1 z.2.2.2.2.2.2.2.2.2.2.2.2.2.2.2.2.2.2.2.2.1 z.2.2.2.2.2.2.2.2.2.2.2.2.2.2.2.2.2.2.2.2.2.1 z.2.2.2.2.2.2.2.2.2.2.2.2.2.2.2.2.2.2.2.2.2.2.1 z.2.2.2.2.2.2.2.2.2.2.2.2.2.2.2.2.2.2.2.2.2.2.2.1 z.2.2.2.2.2.2.2.2.2.2.2.2.2.2.2.2.2.2.2.2.2.2.2.2.1 z.2.2.2.2.2.2.2.2.2.2.2.2.2.2.2.2.2.2.2.2.2.2.2.2.2.1 z.2.2.2.2.2.2.2.2.2.2.2.2.2.2.2.2.2.2.2.2.2.2.2.2.2.2.1 z.2.2.2.2.2.2.2.2.2.2.2.2.2.2.2.2.2.2.2.2.2.2.2.2.2.2.2.1 z.2.2.2.2.2.2.2.2.2.2.2.2.2.2.2.2.2.2.2.2.2.2.2.2.2.2.2.2.1 z.2.2.2.2.2.2.2.2.2.2.2.2.2.2.2.2.2.2.2.2.2.2.2.2.2.2.2.2.2.1 z.2.2.2.2.2.2.2.2.2.2.2.2.2.2.2.2.2.2.2.2.2.2.2.2.2.2.2.2.2.2.1 z.2.2.2.2.2.2.2.2.2.2.2.2.2.2.2.2.2.2.2.2.2.2.2.2.2.2.2.2.2.2.2) (0,[],0,0,0,0,0,0,0,0,0,t14.1,t14.2.1,t14.2.2.2.2.2.2.1,t14.2.2.2.2.2.2.2.1,t14.2.2.2.2.2.2.2.2.1,t14.2.2.2.2.2.2.2.2.2.1,t14.2.2.2.2.2.2.2.2.2.2,d.1,d.2.1,d.2.2.1,d.2.2.2.1,d.2.2.2.2,[],[],[],[],[],t14.2.2.1,t14.2.2.2.1,t14.2.2.2.2.1,t14.2.2.2.2.2.1)).bind (Sum.elim (λd_1 =>
 (aL p0).bind λt123 =>
 some (t123,(162,i1.2.1,7,0,[]),true)) (λr=>some ((r.2.1,r.2.2.1,r.2.2.2.2.2.2.2.2.2.2.2.2.2.1,r.2.2.2.2.2.2.2.2.2.2.2.2.2.2.1,r.2.2.2.2.2.2.2.2.2.2.2.2.2.2.2.1,r.2.2.2.2.2.2.2.2.2.2.2.2.2.2.2.2,r.2.2.2.1,r.2.2.2.2.1,r.2.2.2.2.2.1,r.2.2.2.2.2.2.1,r.2.2.2.2.2.2.2.1),(r.2.2.2.2.2.2.2.2.1,r.2.2.2.2.2.2.2.2.2.1,r.2.2.2.2.2.2.2.2.2.2.1,r.2.2.2.2.2.2.2.2.2.2.2.1,r.2.2.2.2.2.2.2.2.2.2.2.2.1),r.1)))))
 (cond (i1.1==161)
 ((loop (λz=>dZ p0 i1 z.1 z.2.1 z.2.2.1 z.2.2.2.1 z.2.2.2.2.1 z.2.2.2.2.2) (0,162,i1.2.1,0,0,[])).bind λd_2 =>
 (aH d_2).bind λt98_1 =>
 cond t98_1
 (some (t14,d_2,true))
 ((loop (λz=>kv i1 z.1 z.2.1 z.2.2.1 z.2.2.2.1 z.2.2.2.2.1 z.2.2.2.2.2.1 z.2.2.2.2.2.2.1 z.2.2.2.2.2.2.2.1 z.2.2.2.2.2.2.2.2.1 z.2.2.2.2.2.2.2.2.2.1 z.2.2.2.2.2.2.2.2.2.2.1 z.2.2.2.2.2.2.2.2.2.2.2.1 z.2.2.2.2.2.2.2.2.2.2.2.2.1 z.2.2.2.2.2.2.2.2.2.2.2.2.2.1 z.2.2.2.2.2.2.2.2.2.2.2.2.2.2.1 z.2.2.2.2.2.2.2.2.2.2.2.2.2.2.2.1 z.2.2.2.2.2.2.2.2.2.2.2.2.2.2.2.2.1 z.2.2.2.2.2.2.2.2.2.2.2.2.2.2.2.2.2.1 z.2.2.2.2.2.2.2.2.2.2.2.2.2.2.2.2.2.2.1 z.2.2.2.2.2.2.2.2.2.2.2.2.2.2.2.2.2.2.2.1 z.2.2.2.2.2.2.2.2.2.2.2.2.2.2.2.2.2.2.2.2.1 z.2.2.2.2.2.2.2.2.2.2.2.2.2.2.2.2.2.2.2.2.2.1 z.2.2.2.2.2.2.2.2.2.2.2.2.2.2.2.2.2.2.2.2.2.2.1 z.2.2.2.2.2.2.2.2.2.2.2.2.2.2.2.2.2.2.2.2.2.2.2.1 z.2.2.2.2.2.2.2.2.2.2.2.2.2.2.2.2.2.2.2.2.2.2.2.2.1 z.2.2.2.2.2.2.2.2.2.2.2.2.2.2.2.2.2.2.2.2.2.2.2.2.2.1 z.2.2.2.2.2.2.2.2.2.2.2.2.2.2.2.2.2.2.2.2.2.2.2.2.2.2.1 z.2.2.2.2.2.2.2.2.2.2.2.2.2.2.2.2.2.2.2.2.2.2.2.2.2.2.2.1 z.2.2.2.2.2.2.2.2.2.2.2.2.2.2.2.2.2.2.2.2.2.2.2.2.2.2.2.2.1 z.2.2.2.2.2.2.2.2.2.2.2.2.2.2.2.2.2.2.2.2.2.2.2.2.2.2.2.2.2.1 z.2.2.2.2.2.2.2.2.2.2.2.2.2.2.2.2.2.2.2.2.2.2.2.2.2.2.2.2.2.2.1 z.2.2.2.2.2.2.2.2.2.2.2.2.2.2.2.2.2.2.2.2.2.2.2.2.2.2.2.2.2.2.2) (0,[],0,0,0,0,0,0,0,0,0,t14.1,t14.2.1,t14.2.2.2.2.2.2.1,t14.2.2.2.2.2.2.2.1,t14.2.2.2.2.2.2.2.2.1,t14.2.2.2.2.2.2.2.2.2.1,t14.2.2.2.2.2.2.2.2.2.2,d_2.1,d_2.2.1,d_2.2.2.1,d_2.2.2.2.1,d_2.2.2.2.2,[],[],[],[],[],t14.2.2.1,t14.2.2.2.1,t14.2.2.2.2.1,t14.2.2.2.2.2.1)).bind (Sum.elim (λd_3 =>
 (aL p0).bind λt123_1 =>
 some (t123_1,(162,i1.2.1,7,0,[]),true)) (λr_1=>some ((r_1.2.1,r_1.2.2.1,r_1.2.2.2.2.2.2.2.2.2.2.2.2.2.1,r_1.2.2.2.2.2.2.2.2.2.2.2.2.2.2.1,r_1.2.2.2.2.2.2.2.2.2.2.2.2.2.2.2.1,r_1.2.2.2.2.2.2.2.2.2.2.2.2.2.2.2.2,r_1.2.2.2.1,r_1.2.2.2.2.1,r_1.2.2.2.2.2.1,r_1.2.2.2.2.2.2.1,r_1.2.2.2.2.2.2.2.1),(r_1.2.2.2.2.2.2.2.2.1,r_1.2.2.2.2.2.2.2.2.2.1,r_1.2.2.2.2.2.2.2.2.2.2.1,r_1.2.2.2.2.2.2.2.2.2.2.2.1,r_1.2.2.2.2.2.2.2.2.2.2.2.2.1),r_1.1)))))
 (cond (i1.1==165)
 ((fc p0 i1).bind λt95 =>
 (aH (162,i1.2.1,0,0,t95)).bind λt98_2 =>
 cond t98_2
 (some (t14,(162,i1.2.1,0,0,t95),true))
 ((loop (λz=>e9 i1 z.1 z.2.1 z.2.2.1 z.2.2.2.1 z.2.2.2.2.1 z.2.2.2.2.2.1 z.2.2.2.2.2.2.1 z.2.2.2.2.2.2.2.1 z.2.2.2.2.2.2.2.2.1 z.2.2.2.2.2.2.2.2.2.1 z.2.2.2.2.2.2.2.2.2.2.1 z.2.2.2.2.2.2.2.2.2.2.2.1 z.2.2.2.2.2.2.2.2.2.2.2.2.1 z.2.2.2.2.2.2.2.2.2.2.2.2.2.1 z.2.2.2.2.2.2.2.2.2.2.2.2.2.2.1 z.2.2.2.2.2.2.2.2.2.2.2.2.2.2.2.1 z.2.2.2.2.2.2.2.2.2.2.2.2.2.2.2.2.1 z.2.2.2.2.2.2.2.2.2.2.2.2.2.2.2.2.2.1 z.2.2.2.2.2.2.2.2.2.2.2.2.2.2.2.2.2.2.1 z.2.2.2.2.2.2.2.2.2.2.2.2.2.2.2.2.2.2.2.1 z.2.2.2.2.2.2.2.2.2.2.2.2.2.2.2.2.2.2.2.2.1 z.2.2.2.2.2.2.2.2.2.2.2.2.2.2.2.2.2.2.2.2.2.1 z.2.2.2.2.2.2.2.2.2.2.2.2.2.2.2.2.2.2.2.2.2.2.1 z.2.2.2.2.2.2.2.2.2.2.2.2.2.2.2.2.2.2.2.2.2.2.2.1 z.2.2.2.2.2.2.2.2.2.2.2.2.2.2.2.2.2.2.2.2.2.2.2.2.1 z.2.2.2.2.2.2.2.2.2.2.2.2.2.2.2.2.2.2.2.2.2.2.2.2.2.1 z.2.2.2.2.2.2.2.2.2.2.2.2.2.2.2.2.2.2.2.2.2.2.2.2.2.2.1 z.2.2.2.2.2.2.2.2.2.2.2.2.2.2.2.2.2.2.2.2.2.2.2.2.2.2.2.1 z.2.2.2.2.2.2.2.2.2.2.2.2.2.2.2.2.2.2.2.2.2.2.2.2.2.2.2.2.1 z.2.2.2.2.2.2.2.2.2.2.2.2.2.2.2.2.2.2.2.2.2.2.2.2.2.2.2.2.2.1 z.2.2.2.2.2.2.2.2.2.2.2.2.2.2.2.2.2.2.2.2.2.2.2.2.2.2.2.2.2.2.1 z.2.2.2.2.2.2.2.2.2.2.2.2.2.2.2.2.2.2.2.2.2.2.2.2.2.2.2.2.2.2.2) (0,[],0,0,0,0,0,0,0,0,0,t14.1,t14.2.1,t14.2.2.2.2.2.2.1,t14.2.2.2.2.2.2.2.1,t14.2.2.2.2.2.2.2.2.1,t14.2.2.2.2.2.2.2.2.2.1,t14.2.2.2.2.2.2.2.2.2.2,162,i1.2.1,0,0,t95,[],[],[],[],[],t14.2.2.1,t14.2.2.2.1,t14.2.2.2.2.1,t14.2.2.2.2.2.1)).bind (Sum.elim (λd_4 =>
 (aL p0).bind λt123_2 =>
 some (t123_2,(162,i1.2.1,7,0,[]),true)) (λr_2=>some ((r_2.2.1,r_2.2.2.1,r_2.2.2.2.2.2.2.2.2.2.2.2.2.2.1,r_2.2.2.2.2.2.2.2.2.2.2.2.2.2.2.1,r_2.2.2.2.2.2.2.2.2.2.2.2.2.2.2.2.1,r_2.2.2.2.2.2.2.2.2.2.2.2.2.2.2.2.2,r_2.2.2.2.1,r_2.2.2.2.2.1,r_2.2.2.2.2.2.1,r_2.2.2.2.2.2.2.1,r_2.2.2.2.2.2.2.2.1),(r_2.2.2.2.2.2.2.2.2.1,r_2.2.2.2.2.2.2.2.2.2.1,r_2.2.2.2.2.2.2.2.2.2.2.1,r_2.2.2.2.2.2.2.2.2.2.2.2.1,r_2.2.2.2.2.2.2.2.2.2.2.2.2.1),r_2.1)))))
 ((cW p0 i1.2.2.2.2).bind λt39 =>
 (fr i1.2.2.2.2).bind λt47 =>
 (aH (162,i1.2.1,t39.2.1,t39.2.2,t47)).bind λt98_3 =>
 cond t98_3
 (some (t39.1,(162,i1.2.1,t39.2.1,t39.2.2,t47),true))
 ((loop (λz=>kw i1 z.1 z.2.1 z.2.2.1 z.2.2.2.1 z.2.2.2.2.1 z.2.2.2.2.2.1 z.2.2.2.2.2.2.1 z.2.2.2.2.2.2.2.1 z.2.2.2.2.2.2.2.2.1 z.2.2.2.2.2.2.2.2.2.1 z.2.2.2.2.2.2.2.2.2.2.1 z.2.2.2.2.2.2.2.2.2.2.2.1 z.2.2.2.2.2.2.2.2.2.2.2.2.1 z.2.2.2.2.2.2.2.2.2.2.2.2.2.1 z.2.2.2.2.2.2.2.2.2.2.2.2.2.2.1 z.2.2.2.2.2.2.2.2.2.2.2.2.2.2.2.1 z.2.2.2.2.2.2.2.2.2.2.2.2.2.2.2.2.1 z.2.2.2.2.2.2.2.2.2.2.2.2.2.2.2.2.2.1 z.2.2.2.2.2.2.2.2.2.2.2.2.2.2.2.2.2.2.1 z.2.2.2.2.2.2.2.2.2.2.2.2.2.2.2.2.2.2.2.1 z.2.2.2.2.2.2.2.2.2.2.2.2.2.2.2.2.2.2.2.2.1 z.2.2.2.2.2.2.2.2.2.2.2.2.2.2.2.2.2.2.2.2.2.1 z.2.2.2.2.2.2.2.2.2.2.2.2.2.2.2.2.2.2.2.2.2.2.1 z.2.2.2.2.2.2.2.2.2.2.2.2.2.2.2.2.2.2.2.2.2.2.2.1 z.2.2.2.2.2.2.2.2.2.2.2.2.2.2.2.2.2.2.2.2.2.2.2.2.1 z.2.2.2.2.2.2.2.2.2.2.2.2.2.2.2.2.2.2.2.2.2.2.2.2.2.1 z.2.2.2.2.2.2.2.2.2.2.2.2.2.2.2.2.2.2.2.2.2.2.2.2.2.2.1 z.2.2.2.2.2.2.2.2.2.2.2.2.2.2.2.2.2.2.2.2.2.2.2.2.2.2.2.1 z.2.2.2.2.2.2.2.2.2.2.2.2.2.2.2.2.2.2.2.2.2.2.2.2.2.2.2.2.1 z.2.2.2.2.2.2.2.2.2.2.2.2.2.2.2.2.2.2.2.2.2.2.2.2.2.2.2.2.2.1 z.2.2.2.2.2.2.2.2.2.2.2.2.2.2.2.2.2.2.2.2.2.2.2.2.2.2.2.2.2.2.1 z.2.2.2.2.2.2.2.2.2.2.2.2.2.2.2.2.2.2.2.2.2.2.2.2.2.2.2.2.2.2.2) (0,[],0,0,0,0,0,0,0,0,0,t39.1.1,t39.1.2.1,t39.1.2.2.2.2.2.2.1,t39.1.2.2.2.2.2.2.2.1,t39.1.2.2.2.2.2.2.2.2.1,t39.1.2.2.2.2.2.2.2.2.2.1,t39.1.2.2.2.2.2.2.2.2.2.2,162,i1.2.1,t39.2.1,t39.2.2,t47,[],[],[],[],[],t39.1.2.2.1,t39.1.2.2.2.1,t39.1.2.2.2.2.1,t39.1.2.2.2.2.2.1)).bind (Sum.elim (λd_5 =>
 (aL p0).bind λt123_3 =>
 some (t123_3,(162,i1.2.1,7,0,[]),true)) (λr_3=>some ((r_3.2.1,r_3.2.2.1,r_3.2.2.2.2.2.2.2.2.2.2.2.2.2.1,r_3.2.2.2.2.2.2.2.2.2.2.2.2.2.2.1,r_3.2.2.2.2.2.2.2.2.2.2.2.2.2.2.2.1,r_3.2.2.2.2.2.2.2.2.2.2.2.2.2.2.2.2,r_3.2.2.2.1,r_3.2.2.2.2.1,r_3.2.2.2.2.2.1,r_3.2.2.2.2.2.2.1,r_3.2.2.2.2.2.2.2.1),(r_3.2.2.2.2.2.2.2.2.1,r_3.2.2.2.2.2.2.2.2.2.1,r_3.2.2.2.2.2.2.2.2.2.2.1,r_3.2.2.2.2.2.2.2.2.2.2.2.1,r_3.2.2.2.2.2.2.2.2.2.2.2.2.1),r_3.1))))))))
def kz:FL:=(13,⟨[.val true oV false,.val true qT false],[.val true oV (some true),.val true qT none,.val false pC (some true)],λa=>f0 a.1 a.2⟩)::kt
theorem o7:Gd kz:=oM o6 13 Tryz.f13 [(1,⟨⟨[(54,false,[dI])],[(1052672,.box [dI,dI,dI,dI,.own 1000001000]),(1000001000,.root oK false)]⟩,
 ⟨[],[(1052672,.box [dI,dI,dI,dI,.own 1000001300]),(1000001300,.root oK false)]⟩,none⟩),
 (3,⟨⟨[(77,false,[dI])],[(1052672,.box [dI,dI,dI,dI,.own 1000003000]),(1000003000,.root oK false)]⟩,
 ⟨[],[(1052672,.box [dI,dI,dI,dI,.own 1000003300]),(1000003300,.root oK false)]⟩,none⟩),
 (5,⟨⟨us 105 4 [],[(3072,.box [dI,dS,.own 1000005000,.own 1000005001,.own 1000005002,.own 1000005003,dI,dI,dI,dI,dI]),(4096,.box [dI,dI,dI,dI,.own 1000005004]),(265216,.box [dI,dS,.own 1000005005,.own 1000005006,.own 1000005007,.own 1000005008,dI,dI,dI,dI,dI]),(1052672,.box [dI,dI,dI,dI,.dat (.sl oK)]),(1000005000,.root qy true),(1000005001,.root p3 true),(1000005002,.root pu true),(1000005003,.root oJ true),(1000005004,.root oK true),(1000005005,.root qy true),(1000005006,.root p3 true),(1000005007,.root pu true),(1000005008,.root oJ true)]⟩,
 ⟨[],[(3072,.box [dI,dS,.own 1000005300,.own 1000005301,.own 1000005302,.own 1000005303,dI,dI,dI,dI,dI]),(4096,.box [dI,dI,dI,dI,.own 1000005304]),(265216,.box [dI,dS,.own 1000005305,.own 1000005306,.own 1000005307,.own 1000005308,dI,dI,dI,dI,dI]),(1052672,.box [dI,dI,dI,dI,.dat (.sl oK)]),(1000005300,.root qy true),(1000005301,.root p3 true),(1000005302,.root pu true),(1000005303,.root oJ true),(1000005304,.root oK true),(1000005305,.root qy true),(1000005306,.root p3 true),(1000005307,.root pu true),(1000005308,.root oJ true)]⟩,some ⟨[(6,false,[dB])],[(3072,.box [dI,dS,.own 1000005600,.own 1000005601,.own 1000005602,.own 1000005603,dI,dI,dI,dI,dI]),(4096,.box [dI,dI,dI,dI,.dat (.sl oK)]),(1000005600,.root qy true),(1000005601,.root p3 true),(1000005602,.root pu true),(1000005603,.root oJ true)]⟩⟩)] Tryz.func13
def af (x0:Int) (least1:Int) (most2:Int):Option Bool :=
 (cond (decide (x0>=least1)) (some (decide (x0<=most2))) (some false)).bind λt14 =>
 some t14
def kA:FL:=(103,⟨[.val false oJ false,.val false oJ false,.val false oJ false],[.val false pC (some true)],λa=>af a.1 a.2.1 a.2.2⟩)::kz
theorem o8:Gd kA:=oM o7 103 Tryz.f103 [] Tryz.func103
def d9 (v0:ul):Option Bool :=
 (af v0.1 1 99).bind λt5 =>
 (cond t5
 ((af v0.2.1 0 100000).bind λt9 =>
 some t9)
 (some false)).bind λt10 =>
 (cond t10
 ((af v0.2.2.1 0 10).bind λt14 =>
 some t14)
 (some false)).bind λt15 =>
 (cond t15
 ((af v0.2.2.2.1 1 99).bind λt19 =>
 some t19)
 (some false)).bind λt20 =>
 (cond t20
 ((af v0.2.2.2.2 0 7).bind λt24 =>
 some t24)
 (some false)).bind λt25 =>
 some t25
def kB:FL:=(247,⟨[.val true sS false],[.val false pC (some true)],λa=>d9 a⟩)::kA
theorem o9:Gd kB:=oM o8 247 Tryz.f247 [] Tryz.func247
def ea (p0:Pt):Option Bool :=
 (af p0.2.1 1 1000).bind λt5 =>
 (cond (!t5)
 (some true)
 ((cond (!p0.1) (some p0.2.2.1) (some false)).bind λt14 =>
 some t14)).bind λt15 =>
 cond t15
 (some false)
 (cond (!p0.2.2.1)
 (let t2:=p0.2.2.2.1==0&&(p0.2.2.2.2.1==0&&(p0.2.2.2.2.2.1==0&&(p0.2.2.2.2.2.2.1==0&&(p0.2.2.2.2.2.2.2==0))))
 some t2)
 ((d9 p0.2.2.2).bind λt25 =>
 some t25))
def kC:FL:=(147,⟨[.val true qy false],[.val false pC (some true)],λa=>ea a⟩)::kB
theorem oa:Gd kC:=oM o9 147 Tryz.f147 [] Tryz.func147
def bQ (e0:oG):Option Bool :=
 (af e0.1 1 99).bind λt5 =>
 (cond t5
 ((af e0.2.1 1 9999).bind λt9 =>
 some t9)
 (some false)).bind λt10 =>
 (cond t10
 ((af e0.2.2.1 0 7).bind λt14 =>
 some t14)
 (some false)).bind λt15 =>
 (cond t15
 ((af e0.2.2.2.1 0 4).bind λt19 =>
 some t19)
 (some false)).bind λt20 =>
 (cond t20
 ((cond (!e0.2.2.2.2) (some true) (some (e0.2.2.2.1==0))).bind λt29 =>
 some t29)
 (some false)).bind λt30 =>
 some t30
def kD:FL:=(248,⟨[.val true p3 false],[.val false pC (some true)],λa=>bQ a⟩)::kC
theorem ob:Gd kD:=oM oa 248 Tryz.f248 [] Tryz.func248
def bo (e0:oG) (tag1:Int) (mac2:Int):Option Bool :=
 cond (e0.1 != tag1) (some (decide (e0.1<tag1))) (some (decide (e0.2.1<mac2)))
def kE:FL:=(249,⟨[.val true p3 false,.val false oJ false,.val false oJ false],[.val false pC (some true)],λa=>bo a.1 a.2.1 a.2.2⟩)::kD
theorem oc:Gd kE:=oM ob 249 Tryz.f249 [] Tryz.func249
def fS (l0:List oG) (i3:Int):Option (Int⊕(Unit⊕Bool)) :=
 cond (decide (i3<(l0.length:Int)))
 ((at? l0 i3).bind λx12 =>
 (bQ x12).bind λt14 =>
 (cond (!t14)
 (some true)
 ((cond (decide (i3>0))
 ((at? l0 (oB (i3-1))).bind λx23 =>
 (at? l0 i3).bind λx27 =>
 (at? l0 i3).bind λx32 =>
 (bo x23 x27.1 x32.2.1).bind λt35 =>
 some (!t35))
 (some false)).bind λt37 =>
 some t37)).bind λt38 =>
 cond t38 (some (.inr (.inr false))) (some (.inl (oB (i3+1)))))
 (some (.inr (.inl ())))
def bP (l0:List oG):Option Bool :=
 (loop (λz=>fS l0 z) 0).bind (Sum.elim (λd =>
 let t2:=decide ((l0.length:Int)<=12)
 some t2) (λr=>some r))
def kF:FL:=(148,⟨[.val false (.one (.sl p3)) false],[.val false pC (some true)],λa=>bP a⟩)::kE
theorem od:Gd kF:=oM oc 148 Tryz.f148 [(0,⟨⟨(3,false,[dI])::us 17 21 [],[]⟩,
 ⟨[],[]⟩,some ⟨[(2,false,[dB])],[]⟩⟩)] Tryz.func148
def oe (v0:pk) (id1:Int) (i5:Int):Option (Int⊕(Unit⊕Int)) :=
 cond (decide (i5<(v0.1.length:Int)))
 ((at? v0.1 i5).bind λx16 =>
 cond (x16.1==id1) (some (.inr (.inr i5))) (some (.inl (oB (i5+1)))))
 (some (.inr (.inl ())))
def aR (v0:pk) (id1:Int):Option Int :=
 (loop (λz=>oe v0 id1 z) 0).bind (Sum.elim (λd =>
 some (-1)) (λr=>some r))
def kG:FL:=(250,⟨[.val true qh false,.val false oJ false],[.val false oJ (some true)],λa=>aR a.1 a.2⟩)::kF
theorem og:Gd kG:=oM od 250 Tryz.f250 [(0,⟨⟨[(5,false,[dI])],[]⟩,
 ⟨[],[]⟩,some ⟨[(4,false,[dI])],[]⟩⟩)] Tryz.func250
def fT (p0:pk) (t27:Int) (t6:Int):Option (Int⊕(Unit⊕Bool)) :=
 cond (decide (t6<(p0.1.length:Int)))
 ((at? p0.1 t6).bind λx39 =>
 (af x39.1 1 99).bind λt43 =>
 (cond (!t43)
 (some true)
 ((af x39.2.1 0 (oB (t27-1))).bind λt49 =>
 some (!t49))).bind λt51 =>
 (cond t51
 (some true)
 ((af x39.2.2 0 (oB (t27-1))).bind λt56 =>
 some (!t56))).bind λt58 =>
 (cond t58 (some true) (some ((rJ .i64 x39.2.2 x39.2.1) != x39.2.2))).bind λt68 =>
 (cond t68
 (some true)
 ((cond (decide (t6>0))
 ((at? p0.1 (oB (t6-1))).bind λx77 =>
 some (decide (x77.1>=x39.1)))
 (some false)).bind λt83 =>
 some t83)).bind λt84 =>
 cond t84 (some (.inr (.inr false))) (some (.inl (oB (t6+1)))))
 (some (.inr (.inl ())))
def kH (p0:pk) (t8:Int):Option (Int⊕(Unit⊕Bool)) :=
 cond (decide (t8<(p0.2.length:Int)))
 ((at? p0.2 t8).bind λx96 =>
 (aR p0 x96).bind λt98 =>
 cond (decide (t98<0)) (some (.inr (.inr false))) (some (.inl (oB (t8+1)))))
 (some (.inr (.inl ())))
def aF (p0:pk) (i1:Int):Option Bool :=
 (af i1 1 6).bind λt10 =>
 (cond (!t10) (some true) (some ((p0.2.length:Int) != i1))).bind λt18 =>
 (cond t18 (some true) (some (decide ((p0.1.length:Int)>6)))).bind λt24 =>
 cond t24
 (some false)
 ((shl .i64 1 (IntKind.u64.wrap (i1))).bind λt27 =>
 (loop (λz=>fT p0 t27 z) 0).bind (Sum.elim (λd =>
 (loop (λz=>kH p0 z) 0).bind (Sum.elim (λd_1 =>
 some true) (λr=>some r))) (λr_1=>some r_1)))
def kI:FL:=(149,⟨[.val true qh false,.val false oJ false],[.val false pC (some true)],λa=>aF a.1 a.2⟩)::kG
theorem oh:Gd kI:=oM og 149 Tryz.f149 [(0,⟨⟨(6,false,[dI])::us 46 5 (us 53 5 (us 60 8 (us 70 14 []))),[]⟩,
 ⟨[],[]⟩,some ⟨[(4,false,[dB])],[]⟩⟩),
 (2,⟨⟨[(8,false,[dI])],[]⟩,
 ⟨[],[]⟩,some ⟨[(4,false,[dB])],[]⟩⟩)] Tryz.func149
def ft (b0:oA):Option Bool :=
 (af b0.2.2.2.2.2.2.1 0 1000000).bind λt5 =>
 (cond t5
 ((af b0.2.2.2.2.2.2.2.1 0 1000000).bind λt9 =>
 some t9)
 (some false)).bind λt10 =>
 (cond t10
 ((af b0.2.2.2.2.2.2.2.2.1 0 1000000).bind λt14 =>
 some t14)
 (some false)).bind λt15 =>
 (cond t15
 ((af b0.2.2.2.2.2.2.2.2.2.1 0 1000000).bind λt19 =>
 some t19)
 (some false)).bind λt20 =>
 (cond t20
 ((af b0.2.2.2.2.2.2.2.2.2.2 0 1000000).bind λt24 =>
 some t24)
 (some false)).bind λt25 =>
 some t25
def kJ:FL:=(150,⟨[.val true oV false],[.val false pC (some true)],λa=>ft a⟩)::kI
theorem oi:Gd kJ:=oM oh 150 Tryz.f150 [] Tryz.func150
def fU (b0:oA) (i3:Int):Option (Int⊕(Unit⊕Bool)) :=
 cond (decide (i3<(b0.2.2.1.length:Int)))
 ((at? b0.2.2.1 i3).bind λx14 =>
 (ea x14).bind λt16 =>
 cond (!t16) (some (.inr (.inr false))) (some (.inl (oB (i3+1)))))
 (some (.inr (.inl ())))
def cj (b0:oA):Option Bool :=
 (loop (λz=>fU b0 z) 0).bind (Sum.elim (λd =>
 (af b0.1 1 99).bind λt20 =>
 (cond t20 (some (decide ((b0.2.1.length:Int)<=10))) (some false)).bind λt26 =>
 (cond t26
 ((af (b0.2.2.1.length:Int) 1 6).bind λt31 =>
 some t31)
 (some false)).bind λt32 =>
 (cond t32
 ((bP b0.2.2.2.1).bind λt36 =>
 some t36)
 (some false)).bind λt37 =>
 (cond t37
 ((aF (b0.2.2.2.2.1,b0.2.2.2.2.2.1) (b0.2.2.1.length:Int)).bind λt44 =>
 some t44)
 (some false)).bind λt45 =>
 (cond t45
 ((ft b0).bind λt48 =>
 some t48)
 (some false)).bind λt49 =>
 some t49) (λr=>some r))
def kK:FL:=(64,⟨[.val true oV false],[.val false pC (some true)],λa=>cj a⟩)::kJ
theorem oj:Gd kK:=oM oi 64 Tryz.f64 [(0,⟨⟨[(3,false,[dI])],[]⟩,
 ⟨[],[]⟩,some ⟨[(2,false,[dB])],[]⟩⟩)] Tryz.func64
def ao (n0:Int):Option Int :=
 cond (decide (n0>2147483647))
 (some 2147483647)
 (cond (decide (n0<(-2147483648))) (some (-2147483648)) (some n0))
def kL:FL:=(198,⟨[.val false oJ false],[.val false oJ (some true)],λa=>ao a⟩)::kK
theorem ol:Gd kL:=oM oj 198 Tryz.f198 [] Tryz.func198
def om (o0:List Int) (i3:Int):Option (Int⊕(Unit⊕Bool)) :=
 cond (decide (i3<(o0.length:Int)))
 ((at? o0 i3).bind λx12 =>
 (af x12 0 100000).bind λt14 =>
 cond (!t14) (some (.inr (.inr false))) (some (.inl (oB (i3+1)))))
 (some (.inr (.inl ())))
def bj (o0:List Int):Option Bool :=
 (loop (λz=>om o0 z) 0).bind (Sum.elim (λd =>
 (af (o0.length:Int) 1 10).bind λt18 =>
 some t18) (λr=>some r))
def kM:FL:=(286,⟨[.val false qx false],[.val false pC (some true)],λa=>bj a⟩)::kL
theorem oo:Gd kM:=oM ol 286 Tryz.f286 [(0,⟨⟨[(3,false,[dI])],[]⟩,
 ⟨[],[]⟩,some ⟨[(2,false,[dB])],[]⟩⟩)] Tryz.func286
def ce (p0:rm):Option Bool :=
 cond (p0.1==5)
 (cond (p0.1==5)
 ((cond (p0.2.1==0) (some (p0.2.2.1==[])) (some false)).bind λt16 =>
 (cond t16 (some ((p0.2.2.2.length:Int)==0)) (some false)).bind λt22 =>
 some t22)
 (cond (p0.1==2)
 ((ao p0.2.1).bind λt27 =>
 (cond (t27==p0.2.1) (some (p0.2.2.1==[])) (some false)).bind λt35 =>
 (cond t35 (some ((p0.2.2.2.length:Int)==0)) (some false)).bind λt41 =>
 some t41)
 (cond (p0.1==4)
 ((cond (decide ((p0.2.2.1.length:Int)<=20)) (some (p0.2.1==0)) (some false)).bind λt52 =>
 (cond t52 (some ((p0.2.2.2.length:Int)==0)) (some false)).bind λt58 =>
 some t58)
 (cond (p0.1==6)
 ((bj p0.2.2.2).bind λt63 =>
 (cond t63 (some (p0.2.1==0)) (some false)).bind λt68 =>
 (cond t68 (some (p0.2.2.1==[])) (some false)).bind λt73 =>
 some t73)
 (some false)))))
 (cond (p0.1==128)
 (cond (p0.1==128)
 ((cond (p0.2.1==0) (some (p0.2.2.1==[])) (some false)).bind λt16_1 =>
 (cond t16_1 (some ((p0.2.2.2.length:Int)==0)) (some false)).bind λt22_1 =>
 some t22_1)
 (cond (p0.1==2)
 ((ao p0.2.1).bind λt27_1 =>
 (cond (t27_1==p0.2.1) (some (p0.2.2.1==[])) (some false)).bind λt35_1 =>
 (cond t35_1 (some ((p0.2.2.2.length:Int)==0)) (some false)).bind λt41_1 =>
 some t41_1)
 (cond (p0.1==4)
 ((cond (decide ((p0.2.2.1.length:Int)<=20)) (some (p0.2.1==0)) (some false)).bind λt52_1 =>
 (cond t52_1 (some ((p0.2.2.2.length:Int)==0)) (some false)).bind λt58_1 =>
 some t58_1)
 (cond (p0.1==6)
 ((bj p0.2.2.2).bind λt63_1 =>
 (cond t63_1 (some (p0.2.1==0)) (some false)).bind λt68_1 =>
 (cond t68_1 (some (p0.2.2.1==[])) (some false)).bind λt73_1 =>
 some t73_1)
 (some false)))))
 (cond (p0.1==130)
 ((cond (p0.2.1==0) (some (p0.2.2.1==[])) (some false)).bind λt16_2 =>
 (cond t16_2 (some ((p0.2.2.2.length:Int)==0)) (some false)).bind λt22_2 =>
 some t22_2)
 (cond (p0.1==2)
 ((ao p0.2.1).bind λt27_2 =>
 (cond (t27_2==p0.2.1) (some (p0.2.2.1==[])) (some false)).bind λt35_2 =>
 (cond t35_2 (some ((p0.2.2.2.length:Int)==0)) (some false)).bind λt41_2 =>
 some t41_2)
 (cond (p0.1==4)
 ((cond (decide ((p0.2.2.1.length:Int)<=20)) (some (p0.2.1==0)) (some false)).bind λt52_2 =>
 (cond t52_2 (some ((p0.2.2.2.length:Int)==0)) (some false)).bind λt58_2 =>
 some t58_2)
 (cond (p0.1==6)
 ((bj p0.2.2.2).bind λt63_2 =>
 (cond t63_2 (some (p0.2.1==0)) (some false)).bind λt68_2 =>
 (cond t68_2 (some (p0.2.2.1==[])) (some false)).bind λt73_2 =>
 some t73_2)
 (some false))))))
def kN:FL:=(287,⟨[.val true sR false],[.val false pC (some true)],λa=>ce a⟩)::kM
theorem oq:Gd kN:=oM oo 287 Tryz.f287 [] Tryz.func287
def fV (k0:Int):Option Bool :=
 (cond (k0==160) (some true) (some (k0==161))).bind λt8 =>
 (cond t8 (some true) (some (k0==162))).bind λt12 =>
 (cond t12 (some true) (some (k0==163))).bind λt16 =>
 (cond t16 (some true) (some (k0==165))).bind λt20 =>
 some t20
def kO:FL:=(288,⟨[.val false oJ false],[.val false pC (some true)],λa=>fV a⟩)::kN
theorem ot:Gd kO:=oM oq 288 Tryz.f288 [] Tryz.func288
def fu (p0:p7) (t3:Int):Option (Int⊕(Unit⊕Bool)) :=
 cond (decide (t3<(p0.2.2.2.2.length:Int)))
 ((at? p0.2.2.2.2 t3).bind λx14 =>
 (bj x14.1).bind λt17 =>
 (cond (!t17)
 (some true)
 ((at? p0.2.2.2.2 t3).bind λx23 =>
 (ce x23.2).bind λt26 =>
 some (!t26))).bind λt28 =>
 cond t28 (some (.inr (.inr false))) (some (.inl (oB (t3+1)))))
 (some (.inr (.inl ())))
def cZ (p0:p7):Option Bool :=
 (loop (λz=>fu p0 z) 0).bind (Sum.elim (λd =>
 (cond (p0.1 != 162) (some (p0.1 != 165)) (some false)).bind λt36 =>
 (cond t36
 ((cond (p0.2.2.1 != 0) (some true) (some (p0.2.2.2.1 != 0))).bind λt45 =>
 some t45)
 (some false)).bind λt46 =>
 cond t46
 (some false)
 ((fV p0.1).bind λt49 =>
 (cond t49
 ((ao p0.2.1).bind λt53 =>
 some (t53==p0.2.1))
 (some false)).bind λt57 =>
 (cond t57
 ((af p0.2.2.1 0 1000).bind λt61 =>
 some t61)
 (some false)).bind λt62 =>
 (cond t62
 ((af p0.2.2.2.1 0 1000).bind λt66 =>
 some t66)
 (some false)).bind λt67 =>
 (cond t67 (some (decide ((p0.2.2.2.2.length:Int)<=10))) (some false)).bind λt73 =>
 some t73)) (λr=>some r))
def kP:FL:=(174,⟨[.val true qT false],[.val false pC (some true)],λa=>cZ a⟩)::kO
theorem ou:Gd kP:=oM ot 174 Tryz.f174 [(0,⟨⟨(3,false,[dI])::us 20 8 [],[]⟩,
 ⟨[],[]⟩,some ⟨[(2,false,[dB])],[]⟩⟩)] Tryz.func174
def fL (b0:oA) (p1:p7):Option Bool :=
 (cj b0).bind λt6 =>
 (cond t6
 ((cZ p1).bind λt9 =>
 some t9)
 (some false)).bind λt10 =>
 (cond t10 (some (p1.1 != 162)) (some false)).bind λt15 =>
 some t15
def kQ:FL:=(82,⟨[.val true oV false,.val true qT false],[.val false pC (some true)],λa=>fL a.1 a.2⟩)::kP
theorem ov:Gd kQ:=oM ou 82 Tryz.f82 [] Tryz.func82
def bp (l0:List oG):Option (List oG) :=
 (oX ([]:List oG) l0).bind λzs5 =>
 some zs5
def kR:FL:=(175,⟨[.val false (.one (.sl p3)) false],[.val false (.one (.sl p3)) (some true)],λa=>bp a⟩)::kQ
theorem ow:Gd kR:=oM ov 175 Tryz.f175 [] Tryz.func175
def aG (v0:pk):Option pk :=
 (oX ([]:List oO) v0.1).bind λzs6 =>
 (oX ([]:List Int) v0.2).bind λzs10 =>
 some (zs6,zs10)
def kS:FL:=(176,⟨[.val true qh false],[.val true qh (some true)],λa=>aG a⟩)::kR
theorem ox:Gd kS:=oM ow 176 Tryz.f176 [] Tryz.func176
def aE (b0:oA):Option oA :=
 (oX ([]:List Pt) b0.2.2.1).bind λzs8 =>
 (bp b0.2.2.2.1).bind λt12 =>
 (aG (b0.2.2.2.2.1,b0.2.2.2.2.2.1)).bind λt16 =>
 some (b0.1,b0.2.1,zs8,t12,t16.1,t16.2,b0.2.2.2.2.2.2.1,b0.2.2.2.2.2.2.2.1,b0.2.2.2.2.2.2.2.2.1,b0.2.2.2.2.2.2.2.2.2.1,b0.2.2.2.2.2.2.2.2.2.2)
def fX:FL:=(83,⟨[.val true oV false],[.val true oV (some true)],λa=>aE a⟩)::kS
theorem fY:Gd fX:=oM ox 83 Tryz.f83 [] Tryz.func83
def ar (b0:List Int) (tag1:Int) (body2:List Int):Option (List Int) :=
 (oX ([]:List Int) b0).bind λzs10 =>
 (af tag1 0 255).bind λt12 =>
 (cond (!t12) (some true) (some (decide ((body2.length:Int)>250)))).bind λt18 =>
 cond t18
 (some zs10)
 ((oX zs10 [IntKind.u8.wrap (tag1)]).bind λzs24 =>
 cond (decide ((body2.length:Int)>127))
 ((oX zs24 ([129]:List Int)).bind λzs30 =>
 (oX zs30 [IntKind.u8.wrap ((body2.length:Int))]).bind λzs36 =>
 (oX zs36 body2).bind λzs38 =>
 some zs38)
 ((oX zs24 [IntKind.u8.wrap ((body2.length:Int))]).bind λzs36_1 =>
 (oX zs36_1 body2).bind λzs38_1 =>
 some zs38_1))
def vn:Fn:=⟨[.val false rr false,.val false oJ false,.val false rr false],[.val false rr (some true)],λa=>ar a.1 a.2.1 a.2.2⟩
theorem Bw:vD Tryz.prog 201 vn:=HT fY 201 Tryz.f201 [] vn Tryz.func201
end
end Go.V.W
