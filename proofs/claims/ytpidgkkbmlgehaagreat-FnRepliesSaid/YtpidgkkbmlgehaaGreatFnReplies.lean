/- The law FnReplies: part of the proof that for every input it returns true. No condition. -/
import Derived.Test.YtpidgkkbmlgehaaGreatV4
import Derived.Test.YtpidgkkbmlgehaaGreatProg
import Derived.Test.YtpidgkkbmlgehaaGreatChecked
import Derived.KernelRfl
set_option linter.unusedVariables false
set_option linter.unusedSimpArgs false
namespace Go.V.W
open Go.Proofs
noncomputable section
def us:Nat->Nat->List (Nat×Bool×List oU)->List (Nat×Bool×List oU)|_,0,l=>l|a,n+1,l=>(a,false,[.undef])::us (a+1) n l
@[reducible] def nR:Cs:=.one (.int .i64)
@[reducible] def oL:Cs:=.one .bool
@[reducible] def qA:Cs:=.one (.sl (.one (.int .u8)))
@[reducible] def pH:Cs:=.one (.sl (.one (.int .i64)))
@[reducible] def GZ:Cs:=.one .str
@[reducible] def dI:oU:=.dat (.int .i64)
@[reducible] def dB:oU:=.dat .bool
@[reducible] def dS:oU:=.dat .str
@[reducible] def pT:Cs:=.cons (.sl (.one (.int .u8))) (.cons (.int .i64) nR)
@[reducible] def oK:Cs:=.cons (.int .i64) (.cons (.int .i64) nR)
@[reducible] def pC:Cs:=.cons (.sl oK) pH
@[reducible] def se:Cs:=.cons (.int .i64) (.cons (.int .i64) (.cons (.int .i64) (.cons (.int .i64) nR)))
@[reducible] def pI:Cs:=.cons .bool (.cons (.int .i64) (.cons .bool (.cons (.int .i64) (.cons (.int .i64) (.cons (.int .i64) (.cons (.int .i64) nR))))))
@[reducible] def og:Cs:=.cons (.int .i64) (.cons (.int .i64) (.cons (.int .i64) (.cons (.int .i64) oL)))
@[reducible] def o6:Cs:=.cons (.int .i64) (.cons .str (.cons (.sl pI) (.cons (.sl og) (.cons (.sl oK) (.cons (.sl nR) (.cons (.int .i64) (.cons (.int .i64) (.cons (.int .i64) (.cons (.int .i64) nR)))))))))
@[reducible] def sf:Cs:=.cons (.int .i64) (.cons (.int .i64) (.cons .str pH))
@[reducible] def nU:Cs:=.cons (.sl nR) (.cons (.int .i64) (.cons (.int .i64) (.cons .str pH)))
@[reducible] def qu:Cs:=.cons (.int .i64) (.cons (.int .i64) (.cons (.int .i64) (.cons (.int .i64) (.one (.sl nU)))))
abbrev ob:Type:=List Int×Int×Int
abbrev nW:Type:=Int×Int×Int
abbrev oy:Type:=List nW×List Int
abbrev tP:Type:=Int×Int×Int×Int×Int
abbrev Pt:Type:=Bool×Int×Bool×Int×Int×Int×Int×Int
abbrev nO:Type:=Int×Int×Int×Int×Bool
abbrev nI:Type:=Int×List UInt8×List Pt×List nO×List nW×List Int×Int×Int×Int×Int×Int
abbrev qB:Type:=Int×Int×List UInt8×List Int
abbrev nJ:Type:=List Int×Int×Int×List UInt8×List Int
abbrev oe:Type:=Int×Int×Int×Int×List nJ
def tis:List (Nat×oa):=[(2,⟨false,.one (.int .i64),[],0⟩),
 (3,⟨false,.one (.int .i64),[],0⟩),
 (4,⟨false,.one .bool,[],0⟩),
 (5,⟨false,.one (.int .u8),[],0⟩),
 (6,⟨false,.one (.int .u8),[],0⟩),
 (9,⟨false,.one .str,[],0⟩),
 (10,⟨false,.one .str,[],0⟩),
 (11,⟨false,.one .str,[],0⟩),
 (12,⟨false,.one (.int .u64),[],0⟩),
 (21,⟨false,.one (.int .i32),[],0⟩),
 (22,⟨false,.one (.sl (.one (.int .u8))),[],5⟩),
 (24,⟨false,.one (.sl pI),[],131⟩),
 (25,⟨false,.one (.sl og),[],133⟩),
 (26,⟨false,.one (.sl oK),[],219⟩),
 (27,⟨false,.one (.sl nR),[],3⟩),
 (28,⟨true,pC,[(26,0),(27,1)],0⟩),
 (29,⟨true,pC,[(26,0),(27,1)],0⟩),
 (30,⟨true,o6,[(3,0),(9,1),(24,2),(25,3),(29,4),(3,6),(3,7),(3,8),(3,9),(3,10)],0⟩),
 (31,⟨true,o6,[(3,0),(9,1),(24,2),(25,3),(29,4),(3,6),(3,7),(3,8),(3,9),(3,10)],0⟩),
 (32,⟨false,.one (.sl nU),[],46⟩),
 (33,⟨true,qu,[(3,0),(3,1),(3,2),(3,3),(32,4)],0⟩),
 (34,⟨true,qu,[(3,0),(3,1),(3,2),(3,3),(32,4)],0⟩),
 (43,⟨true,sf,[(3,0),(3,1),(9,2),(27,3)],0⟩),
 (44,⟨true,sf,[(3,0),(3,1),(9,2),(27,3)],0⟩),
 (45,⟨true,nU,[(27,0),(44,1)],0⟩),
 (46,⟨true,nU,[(27,0),(44,1)],0⟩),
 (51,⟨false,.one (.sl pI),[],241⟩),
 (52,⟨false,.one (.sl og),[],243⟩),
 (53,⟨false,.one (.sl oK),[],308⟩),
 (54,⟨true,pC,[(53,0),(27,1)],0⟩),
 (55,⟨true,pC,[(53,0),(27,1)],0⟩),
 (56,⟨true,o6,[(3,0),(9,1),(51,2),(52,3),(55,4),(3,6),(3,7),(3,8),(3,9),(3,10)],0⟩),
 (57,⟨true,o6,[(3,0),(9,1),(51,2),(52,3),(55,4),(3,6),(3,7),(3,8),(3,9),(3,10)],0⟩),
 (58,⟨false,.one (.sl (.cons (.int .i64) (.cons (.int .i64) (.cons .bool (.cons (.sl (.one (.int .u8))) (.cons (.int .i64) (.cons (.int .i64) (.cons (.int .i64) (.cons (.sl (.one (.int .u8))) (.cons (.int .i64) (.cons (.int .i64) (.cons (.int .i64) (.cons (.int .i64) nR))))))))))))),[],152⟩),
 (63,⟨false,.one (.sl (.cons (.int .i64) (.cons (.int .i64) (.cons .bool (.cons (.sl (.one (.int .u8))) (.cons (.int .i64) (.cons (.int .i64) (.cons (.int .i64) (.cons (.sl (.one (.int .u8))) (.cons (.int .i64) (.cons (.int .i64) (.cons (.int .i64) (.cons (.int .i64) nR))))))))))))),[],101⟩),
 (69,⟨false,.one (.sl (.cons (.int .i64) (.cons (.sl (.one (.int .u8))) (.cons (.int .i64) (.cons (.int .i64) (.cons (.int .i64) (.cons (.int .i64) (.cons (.int .i64) (.cons (.sl nU) (.cons (.int .i64) (.cons .str (.cons (.sl pI) (.cons (.sl og) (.cons (.sl oK) (.cons (.sl nR) (.cons (.int .i64) (.cons (.int .i64) (.cons (.int .i64) (.cons (.int .i64) (.cons (.int .i64) (.cons (.int .i64) nR))))))))))))))))))))),[],174⟩),
 (70,⟨true,.cons (.int .i64) (.cons .str (.cons (.sl pI) (.cons (.sl og) (.cons (.sl oK) (.cons (.sl nR) (.cons (.int .i64) (.cons (.int .i64) (.cons (.int .i64) (.cons (.int .i64) (.cons (.int .i64) (.cons .str (.cons (.sl (.cons (.int .i64) (.cons (.sl (.one (.int .u8))) (.cons (.int .i64) (.cons (.int .i64) (.cons (.int .i64) (.cons (.int .i64) (.cons (.int .i64) (.cons (.sl nU) (.cons (.int .i64) (.cons .str (.cons (.sl pI) (.cons (.sl og) (.cons (.sl oK) (.cons (.sl nR) (.cons (.int .i64) (.cons (.int .i64) (.cons (.int .i64) (.cons (.int .i64) (.cons (.int .i64) (.cons (.int .i64) nR))))))))))))))))))))) (.cons (.int .i64) nR))))))))))))),[(31,0),(9,11),(69,12),(3,13),(3,14)],0⟩),
 (71,⟨true,.cons (.int .i64) (.cons .str (.cons (.sl pI) (.cons (.sl og) (.cons (.sl oK) (.cons (.sl nR) (.cons (.int .i64) (.cons (.int .i64) (.cons (.int .i64) (.cons (.int .i64) (.cons (.int .i64) (.cons .str (.cons (.sl (.cons (.int .i64) (.cons (.sl (.one (.int .u8))) (.cons (.int .i64) (.cons (.int .i64) (.cons (.int .i64) (.cons (.int .i64) (.cons (.int .i64) (.cons (.sl nU) (.cons (.int .i64) (.cons .str (.cons (.sl pI) (.cons (.sl og) (.cons (.sl oK) (.cons (.sl nR) (.cons (.int .i64) (.cons (.int .i64) (.cons (.int .i64) (.cons (.int .i64) (.cons (.int .i64) (.cons (.int .i64) nR))))))))))))))))))))) (.cons (.int .i64) nR))))))))))))),[(31,0),(9,11),(69,12),(3,13),(3,14)],0⟩),
 (75,⟨false,.one (.sl (.cons (.int .i64) (.cons (.int .i64) (.cons (.int .i64) (.cons (.int .i64) (.cons (.int .i64) (.one (.sl nU)))))))),[],81⟩),
 (80,⟨true,.cons (.int .i64) (.cons (.int .i64) (.cons (.int .i64) (.cons (.int .i64) (.cons (.int .i64) (.one (.sl nU)))))),[(3,0),(34,1)],0⟩),
 (81,⟨true,.cons (.int .i64) (.cons (.int .i64) (.cons (.int .i64) (.cons (.int .i64) (.cons (.int .i64) (.one (.sl nU)))))),[(3,0),(34,1)],0⟩),
 (92,⟨false,.one (.sl (.cons (.int .i64) (.cons (.int .i64) (.cons (.int .i64) (.cons (.int .i64) qA))))),[],190⟩),
 (96,⟨true,.cons (.int .i64) (.cons (.int .i64) (.cons (.int .i64) qA)),[(3,0),(3,1),(3,2),(22,3)],0⟩),
 (97,⟨true,.cons (.int .i64) (.cons (.int .i64) (.cons (.int .i64) qA)),[(3,0),(3,1),(3,2),(22,3)],0⟩),
 (98,⟨true,se,[(3,0),(3,1),(3,2),(3,3),(3,4)],0⟩),
 (99,⟨true,se,[(3,0),(3,1),(3,2),(3,3),(3,4)],0⟩),
 (100,⟨true,.cons (.int .i64) (.cons (.int .i64) (.cons .bool (.cons (.sl (.one (.int .u8))) (.cons (.int .i64) (.cons (.int .i64) (.cons (.int .i64) (.cons (.sl (.one (.int .u8))) (.cons (.int .i64) (.cons (.int .i64) (.cons (.int .i64) (.cons (.int .i64) nR))))))))))),[(3,0),(3,1),(4,2),(22,3),(97,4),(99,8)],0⟩),
 (101,⟨true,.cons (.int .i64) (.cons (.int .i64) (.cons .bool (.cons (.sl (.one (.int .u8))) (.cons (.int .i64) (.cons (.int .i64) (.cons (.int .i64) (.cons (.sl (.one (.int .u8))) (.cons (.int .i64) (.cons (.int .i64) (.cons (.int .i64) (.cons (.int .i64) nR))))))))))),[(3,0),(3,1),(4,2),(22,3),(97,4),(99,8)],0⟩),
 (108,⟨false,.one (.sl nU),[],284⟩),
 (109,⟨true,qu,[(3,0),(3,1),(3,2),(3,3),(108,4)],0⟩),
 (110,⟨true,qu,[(3,0),(3,1),(3,2),(3,3),(108,4)],0⟩),
 (130,⟨true,pI,[(4,0),(3,1),(4,2),(99,3)],0⟩),
 (131,⟨true,pI,[(4,0),(3,1),(4,2),(99,3)],0⟩),
 (132,⟨true,og,[(3,0),(3,1),(3,2),(3,3),(4,4)],0⟩),
 (133,⟨true,og,[(3,0),(3,1),(3,2),(3,3),(4,4)],0⟩),
 (149,⟨true,.cons (.int .i64) (.cons (.int .i64) (.cons (.int .i64) qA)),[(3,0),(3,1),(3,2),(22,3)],0⟩),
 (150,⟨true,se,[(3,0),(3,1),(3,2),(3,3),(3,4)],0⟩),
 (151,⟨true,.cons (.int .i64) (.cons (.int .i64) (.cons .bool (.cons (.sl (.one (.int .u8))) (.cons (.int .i64) (.cons (.int .i64) (.cons (.int .i64) (.cons (.sl (.one (.int .u8))) (.cons (.int .i64) (.cons (.int .i64) (.cons (.int .i64) (.cons (.int .i64) nR))))))))))),[(3,0),(3,1),(4,2),(22,3),(149,4),(150,8)],0⟩),
 (152,⟨true,.cons (.int .i64) (.cons (.int .i64) (.cons .bool (.cons (.sl (.one (.int .u8))) (.cons (.int .i64) (.cons (.int .i64) (.cons (.int .i64) (.cons (.sl (.one (.int .u8))) (.cons (.int .i64) (.cons (.int .i64) (.cons (.int .i64) (.cons (.int .i64) nR))))))))))),[(3,0),(3,1),(4,2),(22,3),(149,4),(150,8)],0⟩),
 (173,⟨true,.cons (.int .i64) (.cons (.sl (.one (.int .u8))) (.cons (.int .i64) (.cons (.int .i64) (.cons (.int .i64) (.cons (.int .i64) (.cons (.int .i64) (.cons (.sl nU) (.cons (.int .i64) (.cons .str (.cons (.sl pI) (.cons (.sl og) (.cons (.sl oK) (.cons (.sl nR) (.cons (.int .i64) (.cons (.int .i64) (.cons (.int .i64) (.cons (.int .i64) (.cons (.int .i64) (.cons (.int .i64) nR))))))))))))))))))),[(3,0),(22,1),(3,2),(34,3),(31,8),(3,19),(3,20)],0⟩),
 (174,⟨true,.cons (.int .i64) (.cons (.sl (.one (.int .u8))) (.cons (.int .i64) (.cons (.int .i64) (.cons (.int .i64) (.cons (.int .i64) (.cons (.int .i64) (.cons (.sl nU) (.cons (.int .i64) (.cons .str (.cons (.sl pI) (.cons (.sl og) (.cons (.sl oK) (.cons (.sl nR) (.cons (.int .i64) (.cons (.int .i64) (.cons (.int .i64) (.cons (.int .i64) (.cons (.int .i64) (.cons (.int .i64) nR))))))))))))))))))),[(3,0),(22,1),(3,2),(34,3),(31,8),(3,19),(3,20)],0⟩),
 (185,⟨false,.one (.sl GZ),[],9⟩),
 (189,⟨true,.cons (.int .i64) (.cons (.int .i64) (.cons (.int .i64) (.cons (.int .i64) qA))),[(3,0),(97,1)],0⟩),
 (190,⟨true,.cons (.int .i64) (.cons (.int .i64) (.cons (.int .i64) (.cons (.int .i64) qA))),[(3,0),(97,1)],0⟩),
 (201,⟨true,pT,[(22,0),(3,1),(3,2)],0⟩),
 (202,⟨true,pT,[(22,0),(3,1),(3,2)],0⟩),
 (214,⟨false,.one (.sl pH),[],27⟩),
 (218,⟨true,oK,[(3,0),(3,1),(3,2)],0⟩),
 (219,⟨true,oK,[(3,0),(3,1),(3,2)],0⟩),
 (240,⟨true,pI,[(4,0),(3,1),(4,2),(150,3)],0⟩),
 (241,⟨true,pI,[(4,0),(3,1),(4,2),(150,3)],0⟩),
 (243,⟨true,og,[(3,0),(3,1),(3,2),(3,3),(4,4)],0⟩),
 (260,⟨true,.cons (.sl (.one (.int .u8))) (.cons (.int .i64) oL),[(22,0),(3,1),(4,2)],0⟩),
 (261,⟨true,.cons (.sl (.one (.int .u8))) (.cons (.int .i64) oL),[(22,0),(3,1),(4,2)],0⟩),
 (270,⟨false,.one (.int .u64),[],0⟩),
 (282,⟨true,sf,[(3,0),(3,1),(9,2),(27,3)],0⟩),
 (283,⟨true,nU,[(27,0),(282,1)],0⟩),
 (284,⟨true,nU,[(27,0),(282,1)],0⟩),
 (308,⟨true,oK,[(3,0),(3,1),(3,2)],0⟩),
 (313,⟨true,.cons (.sl (.one (.int .u8))) (.cons (.int .i64) oL),[(22,0),(3,1),(4,2)],0⟩),
 (314,⟨true,.cons (.sl (.one (.int .u8))) (.cons (.int .i64) oL),[(22,0),(3,1),(4,2)],0⟩),
 (343,⟨false,.one (.int .i8),[],0⟩),
 (351,⟨false,.one (.int .u32),[],0⟩),
 (352,⟨false,.one (.int .u8),[],0⟩),
 (353,⟨false,.one (.int .u8),[],0⟩),
 (356,⟨false,.one (.int .i32),[],0⟩),
 (357,⟨false,.one (.int .i32),[],0⟩)]
theorem tisT:pF Tryz.prog tis:=pF.of_all (by kernel_rfl)
theorem IV:Bb Tryz.prog tis:=Bb.of_all (by kernel_rfl)
theorem tisD:Deep Tryz.prog tis:=Deep.of_all (by kernel_rfl)
theorem HZ:Tryz.prog.follows .mixedOrders=true:=by kernel_rfl
def zx (fn:Func):Code:=match fn.body with|some c=>c|none=>.skip
theorem kh:sd Tryz.prog ⟨tis,[],[],false⟩:=⟨tisT,IV,(λf F h=>by cases h),(λf M h=>by cases h),(λh=>by cases h)⟩
theorem IJ {l : List (FuncId×Fn)} (g : sd Tryz.prog ⟨tis, l, [], false⟩) (n : FuncId) (f : Func) (ann : List (Nat×nQ)) (F : Fn) (h1 : Tryz.prog.funcs[n]?=some f) (h2 : (f.name == "runtime.NumGoroutine")=false := by kernel_rfl) (h3 : f.body=some (zx f) := by kernel_rfl) (h4 : zd ⟨tis, l, [], false⟩ ann f (zx f) F.ps F.rs=F.den := by kernel_rfl) : vB Tryz.prog n F := by
 have h:=ET (ann:=ann) (ps:=F.ps) (rs:=F.rs) g HZ h1 h2 h3;rw[h4]at h;exact h
abbrev FL:=List (FuncId×Fn)
def Gd (l:FL):Prop:=sd Tryz.prog ⟨tis,l,[],false⟩
theorem nV {l : List (FuncId×Fn)} (g : Gd l) (n : FuncId) (f : Func) (ann : List (Nat×nQ)) {F : Fn} (h1 : Tryz.prog.funcs[n]?=some f) (h2 : (f.name == "runtime.NumGoroutine")=false := by kernel_rfl) (h3 : f.body=some (zx f) := by kernel_rfl) (h4 : zd ⟨tis, l, [], false⟩ ann f (zx f) F.ps F.rs=F.den := by kernel_rfl) : Gd ((n, F)::l) := sd.cons g (IJ g n f ann F h1 h2 h3 h4)
def f7 (code0:List Int):Option Bool :=
 let t2:=decide ((code0.length:Int)>1048576)
 some t2
def fB:FL:=(11,⟨[.val false qA false],[.val false oL (some true)],λa=>f7 a⟩)::[]
theorem ki:Gd fB:=nV kh 11 Tryz.f11 [] Tryz.func11
def bC (code0:List Int) (h3_1:Int) (i4:Int):Option ((Int×Int)⊕Int) :=
 (cond (decide (i4<(code0.length:Int))) (some (decide (i4<4000))) (some false)).bind λt15 =>
 cond t15
 ((at? code0 i4).bind λx22 =>
 let h3_2:=qL .i64 (nK ((nK ((nK (h3_1*137))+(nK (x22))))+11)) 1073741823
 some (.inl (h3_2,nK (i4+1))))
 (some (.inr h3_1))
def dN (code0:List Int):Option ob :=
 let h3:=nK (762762+(code0.length:Int))
 (loop (λz=>bC code0 z.1 z.2) (h3,0)).bind λd =>
 some (code0,0,d)
def fC:FL:=(73,⟨[.val false qA false],[.ptr pT none],λa=>dN a⟩)::fB
theorem kj:Gd fC:=nV ki 73 Tryz.f73 [(0,⟨⟨[(3,false,[dI]),(4,false,[dI]),(13,false,[.undef]),(14,false,[.undef])],[]⟩,
 ⟨[(3,false,[dI])],[]⟩,none⟩)] Tryz.func73
def bD (c0:ob):Option (ob×Int) :=
 let x3:=qL .i64 (Ey .i64 ((nK ((nK (c0.2.2*6364136223846793005))+1442695040888963407)).fdiv (2^33)) ((nK ((nK (c0.2.2*6364136223846793005))+1442695040888963407)).fdiv (2^47))) 255
 cond (decide (c0.2.1<(c0.1.length:Int)))
 ((at? c0.1 c0.2.1).bind λx44 =>
 let x3_1:=qL .i64 (nK (x3+(nK (x44)))) 255
 some ((c0.1,nK (c0.2.1+1),nK ((nK (c0.2.2*6364136223846793005))+1442695040888963407)),x3_1))
 (some ((c0.1,c0.2.1,nK ((nK (c0.2.2*6364136223846793005))+1442695040888963407)),x3))
def fD:FL:=(190,⟨[.ptr pT none],[.val false nR (some true)],λa=>bD a⟩)::fC
theorem kk:Gd fD:=nV kj 190 Tryz.f190 [] Tryz.func190
def aa (c0:ob) (n1:Int):Option (ob×Int) :=
 cond (decide (n1<=0))
 (some (c0,0))
 (cond (decide (n1<=256))
 ((bD c0).bind λt13 =>
 (rem t13.2 n1).bind λt15 =>
 some (t13.1,t15))
 ((bD c0).bind λt17 =>
 (bD t17.1).bind λt19 =>
 (bD t19.1).bind λt21 =>
 (rem (nK ((nK ((nK (t17.2*65536))+(nK (t19.2*256))))+t21.2)) n1).bind λt30 =>
 some (t21.1,t30)))
def fE:FL:=(97,⟨[.ptr pT none,.val false nR false],[.val false nR (some true)],λa=>aa a.1 a.2⟩)::fD
theorem kl:Gd fE:=nV kk 97 Tryz.f97 [] Tryz.func97
def aZ (c0:ob) (n1:Int):Option (ob×Bool) :=
 (aa c0 n1).bind λt7 =>
 some (t7.1,t7.2==0)
def fF:FL:=(100,⟨[.ptr pT none,.val false nR false],[.val false oL (some true)],λa=>aZ a.1 a.2⟩)::fE
theorem ko:Gd fF:=nV kl 100 Tryz.f100 [] Tryz.func100
def ai (c0:ob) (list1:List Int):Option (ob×Int) :=
 (aa c0 (list1.length:Int)).bind λt9 =>
 (at? list1 t9.2).bind λx10 =>
 some (t9.1,x10)
def fG:FL:=(138,⟨[.ptr pT none,.val false pH false],[.val false nR (some true)],λa=>ai a.1 a.2⟩)::fF
theorem kq:Gd fG:=nV ko 138 Tryz.f138 [] Tryz.func138
def aO (c0:ob) (list1:List (List UInt8)):Option (ob×List UInt8) :=
 (aa c0 (list1.length:Int)).bind λt9 =>
 (at? list1 t9.2).bind λx10 =>
 some (t9.1,x10)
def fH:FL:=(141,⟨[.ptr pT none,.val false (.one (.sl GZ)) false],[.val false GZ (some true)],λa=>aO a.1 a.2⟩)::fG
theorem kr:Gd fH:=nV kq 141 Tryz.f141 [] Tryz.func141
def af (x0:Int) (least1:Int) (most2:Int):Option Bool :=
 (cond (decide (x0>=least1)) (some (decide (x0<=most2))) (some false)).bind λt14 =>
 some t14
def fJ:FL:=(103,⟨[.val false nR false,.val false nR false,.val false nR false],[.val false oL (some true)],λa=>af a.1 a.2.1 a.2.2⟩)::fH
theorem kt:Gd fJ:=nV kr 103 Tryz.f103 [] Tryz.func103
def bZ (ports0:Int) (i5:Int) (b1:List Int):Option ((Int×List Int)⊕(List Int)) :=
 cond (decide (i5<ports0))
 ((od b1 ([1]:List Int)).bind λzs27 =>
 some (.inl (nK (i5+1),zs27)))
 (some (.inr b1))
def cO (ports0:Int):Option oy :=
 (af ports0 1 6).bind λt7 =>
 cond (!t7)
 (some ([],[]))
 ((shl .i64 1 (IntKind.u64.wrap (ports0))).bind λt12 =>
 (loop (λz=>bZ ports0 z.1 z.2) (0,[])).bind λd =>
 some ([(1,nK (t12-1),nK (t12-1))],d))
def fK:FL:=(265,⟨[.val false nR false],[.val true pC (some true)],λa=>cO a⟩)::fJ
theorem ku:Gd fK:=nV kt 265 Tryz.f265 [(0,⟨⟨[(5,false,[dI])],[(1054720,.box [.same 1052672,.own 1000000000]),(1000000000,.root nR true)]⟩,
 ⟨[],[(1054720,.box [.same 1052672,.own 1000000300]),(1000000300,.root nR true)]⟩,none⟩)] Tryz.func265
def ca (ports1:Int) (i6:Int) (b0:Int) (b1:List UInt8) (b6:Int) (b7:Int) (b8:Int) (b9:Int) (b10:Int) (b2:List Pt) (b3:List nO):Option ((Int×Int×List UInt8×Int×Int×Int×Int×Int×List Pt×List nO)⊕(Int×List UInt8×Int×Int×Int×Int×Int×List Pt×List nO)) :=
 cond (decide (i6<ports1))
 ((od b2 [(false,1,false,0,0,0,0,0)]).bind λzs29 =>
 some (.inl (nK (i6+1),b0,b1,b6,b7,b8,b9,b10,zs29,b3)))
 (some (.inr (b0,b1,b6,b7,b8,b9,b10,b2,b3)))
def cP (id0:Int) (ports1:Int):Option nI :=
 (af id0 1 99).bind λt8 =>
 (cond (!t8)
 (some true)
 ((af ports1 1 6).bind λt12 =>
 some (!t12))).bind λt14 =>
 cond t14
 (some (0,[],[],[],[],[],0,0,0,0,0))
 ((cO ports1).bind λt18 =>
 (loop (λz=>ca ports1 z.1 z.2.1 z.2.2.1 z.2.2.2.1 z.2.2.2.2.1 z.2.2.2.2.2.1 z.2.2.2.2.2.2.1 z.2.2.2.2.2.2.2.1 z.2.2.2.2.2.2.2.2.1 z.2.2.2.2.2.2.2.2.2) (0,id0,[],0,0,0,0,0,[],[])).bind λd =>
 some (d.1,d.2.1,d.2.2.2.2.2.2.2.1,d.2.2.2.2.2.2.2.2,t18.1,t18.2,d.2.2.1,d.2.2.2.1,d.2.2.2.2.1,d.2.2.2.2.2.1,d.2.2.2.2.2.2.1))
def fL:FL:=(158,⟨[.val false nR false,.val false nR false],[.val true o6 (some true)],λa=>cP a.1 a.2⟩)::fK
theorem kv:Gd fL:=nV ku 158 Tryz.f158 [(0,⟨⟨[(6,false,[dI])],[(791552,.box [dI,dS,.own 1000000000,.own 1000000001,.same 789504,.same 789505,dI,dI,dI,dI,dI]),(1000000000,.root pI true),(1000000001,.root og true)]⟩,
 ⟨[],[(791552,.box [dI,dS,.own 1000000300,.own 1000000301,.same 789504,.same 789505,dI,dI,dI,dI,dI]),(1000000300,.root pI true),(1000000301,.root og true)]⟩,none⟩)] Tryz.func158
def dO (c0:ob):Option (ob×tP) :=
 (aa c0 5).bind λt4 =>
 (ai t4.1 ([0,1,2,5,10,100]:List Int)).bind λt8 =>
 (ai t8.1 ([0,1,2,9,10]:List Int)).bind λt11 =>
 (aa t11.1 5).bind λt13 =>
 (aa t13.1 4).bind λt16 =>
 some (t16.1,(nK (1+t4.2),t8.2,t11.2,nK (1+t13.2),t16.2))
def fM:FL:=(252,⟨[.ptr pT none],[.val true se (some true)],λa=>dO a⟩)::fL
theorem kw:Gd fM:=nV kv 252 Tryz.f252 [] Tryz.func252
def cb (n1:Int) (i6:Int) (b0:List Int) (b1:Int) (b2:Int) (out5:List Pt):Option ((Int×List Int×Int×Int×List Pt)⊕(List Int×Int×Int×List Pt)) :=
 cond (decide (i6<n1))
 ((aZ (b0,b1,b2) 4).bind λt15 =>
 (ai t15.1 ([1,1,2,5,10]:List Int)).bind λt19 =>
 cond (!t15.2)
 ((aZ t19.1 4).bind λt25 =>
 cond (!t25.2)
 ((dO t25.1).bind λt30 =>
 (od out5 [(!t15.2,t19.2,true,t30.2.1,t30.2.2.1,t30.2.2.2.1,t30.2.2.2.2.1,t30.2.2.2.2.2)]).bind λzs35 =>
 some (.inl (nK (i6+1),t30.1.1,t30.1.2.1,t30.1.2.2,zs35)))
 ((od out5 [(!t15.2,t19.2,false,0,0,0,0,0)]).bind λzs35_1 =>
 some (.inl (nK (i6+1),t25.1.1,t25.1.2.1,t25.1.2.2,zs35_1))))
 ((od out5 [(!t15.2,t19.2,false,0,0,0,0,0)]).bind λzs35_2 =>
 some (.inl (nK (i6+1),t19.1.1,t19.1.2.1,t19.1.2.2,zs35_2))))
 (some (.inr (b0,b1,b2,out5)))
def cQ (c0:ob) (n1:Int):Option (ob×List Pt) :=
 (loop (λz=>cb n1 z.1 z.2.1 z.2.2.1 z.2.2.2.1 z.2.2.2.2) (0,c0.1,c0.2.1,c0.2.2,([]:List Pt))).bind λd =>
 some ((d.1,d.2.1,d.2.2.1),d.2.2.2)
def fN:FL:=(159,⟨[.ptr pT none,.val false nR false],[.val false (.one (.sl pI)) (some true)],λa=>cQ a.1 a.2⟩)::fM
theorem kz:Gd fN:=nV kw 159 Tryz.f159 [(0,⟨⟨(5,false,[.own 1000000000])::(6,false,[dI])::us 24 3 [],[(1,.box [.dat (.sl (.one (.int .u8))),dI,dI]),(1000000000,.root pI true)]⟩,
 ⟨[(5,false,[.own 1000000300])],[(1,.box [.dat (.sl (.one (.int .u8))),dI,dI]),(1000000300,.root pI true)]⟩,none⟩)] Tryz.func159
def kA (v0:oy) (id1:Int) (i5:Int):Option (Int⊕(Unit⊕Int)) :=
 cond (decide (i5<(v0.1.length:Int)))
 ((at? v0.1 i5).bind λx16 =>
 cond (x16.1==id1) (some (.inr (.inr i5))) (some (.inl (nK (i5+1)))))
 (some (.inr (.inl ())))
def aP (v0:oy) (id1:Int):Option Int :=
 (loop (λz=>kA v0 id1 z) 0).bind (Sum.elim (λd =>
 some (-1)) (λr=>some r))
def fO:FL:=(250,⟨[.val true pC false,.val false nR false],[.val false nR (some true)],λa=>aP a.1 a.2⟩)::fN
theorem kB:Gd fO:=nV kz 250 Tryz.f250 [(0,⟨⟨[(5,false,[dI])],[]⟩,
 ⟨[],[]⟩,some ⟨[(4,false,[dI])],[]⟩⟩)] Tryz.func250
def f8 (p0:oy) (t27:Int) (t6:Int):Option (Int⊕(Unit⊕Bool)) :=
 cond (decide (t6<(p0.1.length:Int)))
 ((at? p0.1 t6).bind λx39 =>
 (af x39.1 1 99).bind λt43 =>
 (cond (!t43)
 (some true)
 ((af x39.2.1 0 (nK (t27-1))).bind λt49 =>
 some (!t49))).bind λt51 =>
 (cond t51
 (some true)
 ((af x39.2.2 0 (nK (t27-1))).bind λt56 =>
 some (!t56))).bind λt58 =>
 (cond t58 (some true) (some ((qL .i64 x39.2.2 x39.2.1) != x39.2.2))).bind λt68 =>
 (cond t68
 (some true)
 ((cond (decide (t6>0))
 ((at? p0.1 (nK (t6-1))).bind λx77 =>
 some (decide (x77.1>=x39.1)))
 (some false)).bind λt83 =>
 some t83)).bind λt84 =>
 cond t84 (some (.inr (.inr false))) (some (.inl (nK (t6+1)))))
 (some (.inr (.inl ())))
def fP (p0:oy) (t8:Int):Option (Int⊕(Unit⊕Bool)) :=
 cond (decide (t8<(p0.2.length:Int)))
 ((at? p0.2 t8).bind λx96 =>
 (aP p0 x96).bind λt98 =>
 cond (decide (t98<0)) (some (.inr (.inr false))) (some (.inl (nK (t8+1)))))
 (some (.inr (.inl ())))
def az (p0:oy) (i1:Int):Option Bool :=
 (af i1 1 6).bind λt10 =>
 (cond (!t10) (some true) (some ((p0.2.length:Int) != i1))).bind λt18 =>
 (cond t18 (some true) (some (decide ((p0.1.length:Int)>6)))).bind λt24 =>
 cond t24
 (some false)
 ((shl .i64 1 (IntKind.u64.wrap (i1))).bind λt27 =>
 (loop (λz=>f8 p0 t27 z) 0).bind (Sum.elim (λd =>
 (loop (λz=>fP p0 z) 0).bind (Sum.elim (λd_1 =>
 some true) (λr=>some r))) (λr_1=>some r_1)))
def fQ:FL:=(149,⟨[.val true pC false,.val false nR false],[.val false oL (some true)],λa=>az a.1 a.2⟩)::fO
theorem kC:Gd fQ:=nV kB 149 Tryz.f149 [(0,⟨⟨(6,false,[dI])::us 46 5 (us 53 5 (us 60 8 (us 70 14 []))),[]⟩,
 ⟨[],[]⟩,some ⟨[(4,false,[dB])],[]⟩⟩),
 (2,⟨⟨[(8,false,[dI])],[]⟩,
 ⟨[],[]⟩,some ⟨[(4,false,[dB])],[]⟩⟩)] Tryz.func149
def aA (v0:oy):Option oy :=
 (od ([]:List nW) v0.1).bind λzs6 =>
 (od ([]:List Int) v0.2).bind λzs10 =>
 some (zs6,zs10)
def fR:FL:=(176,⟨[.val true pC false],[.val true pC (some true)],λa=>aA a⟩)::fQ
theorem kD:Gd fR:=nV kC 176 Tryz.f176 [] Tryz.func176
def cc (x0:oy) (v1:oy):Option (oy×Bool) :=
 (az x0 (v1.2.length:Int)).bind λt10 =>
 cond (!t10)
 ((aA v1).bind λt13 =>
 some (t13,false))
 (some (x0,true))
def fS:FL:=(331,⟨[.val true pC true,.val true pC false],[.val true pC (some true),.val false oL (some true)],λa=>cc a.1 a.2⟩)::fR
theorem kE:Gd fS:=nV kD 331 Tryz.f331 [] Tryz.func331
def cR (v0:oy) (port1:Int) (id2:Int):Option (oy×Bool) :=
 (az v0 (v0.2.length:Int)).bind λt13 =>
 (cond (!t13)
 (some true)
 ((af port1 0 (nK ((v0.2.length:Int)-1))).bind λt21 =>
 some (!t21))).bind λt23 =>
 cond t23
 ((aA v0).bind λt25 =>
 some (t25,false))
 ((aA v0).bind λt27 =>
 (ix t27.2.length port1).bind λj32 =>
 (t27.2[j32]?).bind λx =>
 (cc (t27.1,t27.2.set j32 id2) v0).bind λt35 =>
 some t35)
def fT:FL:=(266,⟨[.val true pC false,.val false nR false,.val false nR false],[.val true pC (some true),.val false oL (some true)],λa=>cR a.1 a.2.1 a.2.2⟩)::fS
theorem kF:Gd fT:=nV kE 266 Tryz.f266 [] Tryz.func266
def cS (v0:oy) (id1:Int):Option (oy×Bool) :=
 (aP v0 id1).bind λt10 =>
 (az v0 (v0.2.length:Int)).bind λt15 =>
 (cond (!t15) (some true) (some (decide (t10<0)))).bind λt20 =>
 cond t20
 ((aA v0).bind λt22 =>
 some (t22,false))
 ((aA v0).bind λt24 =>
 (cut v0.1 0 t10).bind λt29 =>
 (od ([]:List nW) t29).bind λzs30 =>
 (cut v0.1 (nK (t10+1)) (v0.1.length:Int)).bind λt35 =>
 (od zs30 t35).bind λzs36 =>
 (cc (zs36,t24.2) v0).bind λt40 =>
 some t40)
def fU:FL:=(267,⟨[.val true pC false,.val false nR false],[.val true pC (some true),.val false oL (some true)],λa=>cS a.1 a.2⟩)::fT
theorem kG:Gd fU:=nV kF 267 Tryz.f267 [] Tryz.func267
def ba (p0:oy) (i1:nW) (t6:Bool) (t7:Int) (b0:List nW):Option ((Bool×Int×List nW)⊕(Bool×List nW)) :=
 cond (decide (t7<(p0.1.length:Int)))
 ((cond (!t6)
 ((at? p0.1 t7).bind λx26 =>
 some (decide (x26.1>=i1.1)))
 (some false)).bind λt32 =>
 cond t32
 ((od b0 [i1]).bind λzs37 =>
 (at? p0.1 t7).bind λx42 =>
 cond (x42.1 != i1.1)
 ((at? p0.1 t7).bind λx53 =>
 (od zs37 [x53]).bind λzs56 =>
 some (.inl (true,nK (t7+1),zs56)))
 (some (.inl (true,nK (t7+1),zs37))))
 ((at? p0.1 t7).bind λx42_1 =>
 cond (x42_1.1 != i1.1)
 ((at? p0.1 t7).bind λx53_1 =>
 (od b0 [x53_1]).bind λzs56_1 =>
 some (.inl (t6,nK (t7+1),zs56_1)))
 (some (.inl (t6,nK (t7+1),b0)))))
 (some (.inr (t6,b0)))
def aQ (p0:oy) (i1:nW):Option oy :=
 (od ([]:List Int) p0.2).bind λzs11 =>
 (loop (λz=>ba p0 i1 z.1 z.2.1 z.2.2) (false,0,[])).bind λd =>
 cond (!d.1)
 ((od d.2 [i1]).bind λzs64 =>
 some (zs64,zs11))
 (some (d.2,zs11))
def fV:FL:=(298,⟨[.val true pC false,.val true oK false],[.val true pC (some true)],λa=>aQ a.1 a.2⟩)::fU
theorem kH:Gd fV:=nV kG 298 Tryz.f298 [(0,⟨⟨(6,false,[dB])::(7,false,[dI])::us 23 9 [],[(268288,.box [.own 1000000000,.same 266240]),(1000000000,.root oK true)]⟩,
 ⟨[(6,false,[dB])],[(268288,.box [.own 1000000300,.same 266240]),(1000000300,.root oK true)]⟩,none⟩)] Tryz.func298
def cU (v0:oy) (r1:nW):Option (oy×Bool) :=
 (az v0 (v0.2.length:Int)).bind λt10 =>
 cond (!t10)
 ((aA v0).bind λt13 =>
 some (t13,false))
 ((aQ v0 r1).bind λt16 =>
 (cc t16 v0).bind λt18 =>
 some t18)
def fW:FL:=(268,⟨[.val true pC false,.val true oK false],[.val true pC (some true),.val false oL (some true)],λa=>cU a.1 a.2⟩)::fV
theorem kI:Gd fW:=nV kH 268 Tryz.f268 [] Tryz.func268
def dP (c0:ob) (ports1:Int):Option (ob×nW) :=
 (shl .i64 1 (IntKind.u64.wrap (ports1))).bind λt9 =>
 (aa c0 (nK ((nK (t9-1))+1))).bind λt14 =>
 (ai t14.1 ([1,2,3,2]:List Int)).bind λt17 =>
 (aa t17.1 (nK ((nK (t9-1))+1))).bind λt23 =>
 some (t23.1,(t17.2,t14.2,qL .i64 t14.2 t23.2))
def fX:FL:=(269,⟨[.ptr pT none,.val false nR false],[.val true oK (some true)],λa=>dP a.1 a.2⟩)::fW
theorem kJ:Gd fX:=nV kI 269 Tryz.f269 [] Tryz.func269
def ce (ports1:Int) (i6:Int) (b0:List Int) (b1:Int) (b2:Int) (b0_1:List nW) (b1_1:List Int):Option ((Int×List Int×Int×Int×List nW×List Int)⊕(List Int×Int×Int×List nW×List Int)) :=
 cond (decide (i6>0))
 ((aa (b0,b1,b2) 4).bind λt16 =>
 cond (t16.2==0)
 ((aa t16.1 ports1).bind λt31 =>
 (aa t31.1 3).bind λt33 =>
 (cR (b0_1,b1_1) t31.2 (nK (1+t33.2))).bind λt35 =>
 some (.inl (nK (i6-1),t33.1.1,t33.1.2.1,t33.1.2.2,t35.1.1,t35.1.2)))
 (cond (t16.2==1)
 ((aa t16.1 2).bind λt43 =>
 (cS (b0_1,b1_1) (nK (2+t43.2))).bind λt45 =>
 some (.inl (nK (i6-1),t43.1.1,t43.1.2.1,t43.1.2.2,t45.1.1,t45.1.2)))
 ((dP t16.1 ports1).bind λt21 =>
 (cU (b0_1,b1_1) t21.2).bind λt22 =>
 some (.inl (nK (i6-1),t21.1.1,t21.1.2.1,t21.1.2.2,t22.1.1,t22.1.2)))))
 (some (.inr (b0,b1,b2,b0_1,b1_1)))
def cV (c0:ob) (ports1:Int):Option (ob×oy) :=
 (cO ports1).bind λt8 =>
 (aa c0 6).bind λt10 =>
 (loop (λz=>ce ports1 z.1 z.2.1 z.2.2.1 z.2.2.2.1 z.2.2.2.2.1 z.2.2.2.2.2) (t10.2,t10.1.1,t10.1.2.1,t10.1.2.2,t8.1,t8.2)).bind λd =>
 some ((d.1,d.2.1,d.2.2.1),d.2.2.2)
def fY:FL:=(160,⟨[.ptr pT none,.val false nR false],[.val true pC (some true)],λa=>cV a.1 a.2⟩)::fX
theorem kK:Gd fY:=nV kJ 160 Tryz.f160 [(0,⟨⟨[(6,false,[dI])],[(1,.box [.dat (.sl (.one (.int .u8))),dI,dI]),(265216,.box [.own 1000000000,.own 1000000001]),(1000000000,.root oK true),(1000000001,.root nR true)]⟩,
 ⟨[],[(1,.box [.dat (.sl (.one (.int .u8))),dI,dI]),(265216,.box [.own 1000000300,.own 1000000301]),(1000000300,.root oK true),(1000000301,.root nR true)]⟩,none⟩)] Tryz.func160
def bE (e0:nO):Option Bool :=
 (af e0.1 1 99).bind λt5 =>
 (cond t5
 ((af e0.2.1 1 9999).bind λt9 =>
 some t9)
 (some false)).bind λt10 =>
 (cond t10
 ((af e0.2.2.1 0 7).bind λt14 =>
 some t14)
 (some false)).bind λt15 =>
 (cond t15
 ((af e0.2.2.2.1 0 4).bind λt19 =>
 some t19)
 (some false)).bind λt20 =>
 (cond t20
 ((cond (!e0.2.2.2.2) (some true) (some (e0.2.2.2.1==0))).bind λt29 =>
 some t29)
 (some false)).bind λt30 =>
 some t30
def fZ:FL:=(248,⟨[.val true og false],[.val false oL (some true)],λa=>bE a⟩)::fY
theorem kL:Gd fZ:=nV kK 248 Tryz.f248 [] Tryz.func248
def bm (e0:nO) (tag1:Int) (mac2:Int):Option Bool :=
 cond (e0.1 != tag1) (some (decide (e0.1<tag1))) (some (decide (e0.2.1<mac2)))
def ga:FL:=(249,⟨[.val true og false,.val false nR false,.val false nR false],[.val false oL (some true)],λa=>bm a.1 a.2.1 a.2.2⟩)::fZ
theorem kM:Gd ga:=nV kL 249 Tryz.f249 [] Tryz.func249
def f9 (l0:List nO) (i3:Int):Option (Int⊕(Unit⊕Bool)) :=
 cond (decide (i3<(l0.length:Int)))
 ((at? l0 i3).bind λx12 =>
 (bE x12).bind λt14 =>
 (cond (!t14)
 (some true)
 ((cond (decide (i3>0))
 ((at? l0 (nK (i3-1))).bind λx23 =>
 (at? l0 i3).bind λx27 =>
 (at? l0 i3).bind λx32 =>
 (bm x23 x27.1 x32.2.1).bind λt35 =>
 some (!t35))
 (some false)).bind λt37 =>
 some t37)).bind λt38 =>
 cond t38 (some (.inr (.inr false))) (some (.inl (nK (i3+1)))))
 (some (.inr (.inl ())))
def bG (l0:List nO):Option Bool :=
 (loop (λz=>f9 l0 z) 0).bind (Sum.elim (λd =>
 let t2:=decide ((l0.length:Int)<=12)
 some t2) (λr=>some r))
def gb:FL:=(148,⟨[.val false (.one (.sl og)) false],[.val false oL (some true)],λa=>bG a⟩)::ga
theorem kN:Gd gb:=nV kM 148 Tryz.f148 [(0,⟨⟨(3,false,[dI])::us 17 21 [],[]⟩,
 ⟨[],[]⟩,some ⟨[(2,false,[dB])],[]⟩⟩)] Tryz.func148
def bn (l0:List nO):Option (List nO) :=
 (od ([]:List nO) l0).bind λzs5 =>
 some zs5
def gd:FL:=(175,⟨[.val false (.one (.sl og)) false],[.val false (.one (.sl og)) (some true)],λa=>bn a⟩)::gb
theorem kO:Gd gd:=nV kN 175 Tryz.f175 [] Tryz.func175
def aB (l0:List nO) (tag1:Int) (mac2:Int) (i7:Int):Option (Int⊕(Unit⊕Int)) :=
 cond (decide (i7<(l0.length:Int)))
 ((at? l0 i7).bind λx16 =>
 (cond (x16.1==tag1)
 ((at? l0 i7).bind λx24 =>
 some (x24.2.1==mac2))
 (some false)).bind λt29 =>
 cond t29 (some (.inr (.inr i7))) (some (.inl (nK (i7+1)))))
 (some (.inr (.inl ())))
def bo (l0:List nO) (tag1:Int) (mac2:Int):Option Int :=
 (loop (λz=>aB l0 tag1 mac2 z) 0).bind (Sum.elim (λd =>
 some (-1)) (λr=>some r))
def gg:FL:=(270,⟨[.val false (.one (.sl og)) false,.val false nR false,.val false nR false],[.val false nR (some true)],λa=>bo a.1 a.2.1 a.2.2⟩)::gd
theorem kP:Gd gg:=nV kO 270 Tryz.f270 [(0,⟨⟨(7,false,[dI])::us 22 7 [],[]⟩,
 ⟨[],[]⟩,some ⟨[(6,false,[dI])],[]⟩⟩)] Tryz.func270
def bH (p0:List nO) (i1:nO) (t6:Bool) (t7:Int) (t5:List nO):Option ((Bool×Int×List nO)⊕(Bool×List nO)) :=
 cond (decide (t7<(p0.length:Int)))
 ((cond (!t6)
 ((at? p0 t7).bind λx20 =>
 (bm x20 i1.1 i1.2.1).bind λt26 =>
 some (!t26))
 (some false)).bind λt28 =>
 cond t28
 ((od t5 [i1]).bind λzs32 =>
 (at? p0 t7).bind λx35 =>
 (cond (x35.1 != i1.1)
 (some true)
 ((at? p0 t7).bind λx44 =>
 some (x44.2.1 != i1.2.1))).bind λt50 =>
 cond t50
 ((at? p0 t7).bind λx54 =>
 (od zs32 [x54]).bind λzs57 =>
 some (.inl (true,nK (t7+1),zs57)))
 (some (.inl (true,nK (t7+1),zs32))))
 ((at? p0 t7).bind λx35_1 =>
 (cond (x35_1.1 != i1.1)
 (some true)
 ((at? p0 t7).bind λx44_1 =>
 some (x44_1.2.1 != i1.2.1))).bind λt50_1 =>
 cond t50_1
 ((at? p0 t7).bind λx54_1 =>
 (od t5 [x54_1]).bind λzs57_1 =>
 some (.inl (t6,nK (t7+1),zs57_1)))
 (some (.inl (t6,nK (t7+1),t5)))))
 (some (.inr (t6,t5)))
def cW (p0:List nO) (i1:nO):Option (List nO) :=
 (loop (λz=>bH p0 i1 z.1 z.2.1 z.2.2) (false,0,([]:List nO))).bind λd =>
 cond (!d.1)
 ((od d.2 [i1]).bind λzs63 =>
 some zs63)
 (some d.2)
def gh:FL:=(271,⟨[.val false (.one (.sl og)) false,.val true og false],[.val false (.one (.sl og)) (some true)],λa=>cW a.1 a.2⟩)::gg
theorem kQ:Gd gh:=nV kP 271 Tryz.f271 [(0,⟨⟨(5,false,[.own 1000000000])::(6,false,[dB])::(7,false,[dI])::us 18 10 (us 42 8 []),[(1000000000,.root og true)]⟩,
 ⟨[(5,false,[.own 1000000300]),(6,false,[dB])],[(1000000300,.root og true)]⟩,none⟩)] Tryz.func271
def dQ (l0:List nO) (tag1:Int) (mac2:Int) (port3:Int):Option (List nO) :=
 (bo l0 tag1 mac2).bind λt18 =>
 (bG l0).bind λt20 =>
 (cond (!t20)
 (some true)
 ((bE (tag1,mac2,port3,0,false)).bind λt24 =>
 some (!t24))).bind λt26 =>
 (cond t26
 (some true)
 ((cond (decide (t18>=0))
 ((at? l0 t18).bind λx33 =>
 some x33.2.2.2.2)
 (some false)).bind λt36 =>
 some t36)).bind λt37 =>
 (cond t37
 (some true)
 ((cond (decide (t18<0)) (some (decide ((l0.length:Int)>=12))) (some false)).bind λt45 =>
 some t45)).bind λt46 =>
 cond t46
 ((bn l0).bind λt48 =>
 some t48)
 ((cW l0 (tag1,mac2,port3,0,false)).bind λt51 =>
 some t51)
def gi:FL:=(161,⟨[.val false (.one (.sl og)) false,.val false nR false,.val false nR false,.val false nR false],[.val false (.one (.sl og)) (some true)],λa=>dQ a.1 a.2.1 a.2.2.1 a.2.2.2⟩)::gh
theorem kR:Gd gi:=nV kQ 161 Tryz.f161 [] Tryz.func161
def cf (c0:ob):Option (ob×Int) :=
 (ai c0 ([11,12,13,14]:List Int)).bind λt5 =>
 some t5
def gj:FL:=(162,⟨[.ptr pT none],[.val false nR (some true)],λa=>cf a⟩)::gi
theorem kS:Gd gj:=nV kR 162 Tryz.f162 [] Tryz.func162
def cX (l0:List nO) (tag1:Int) (mac2:Int) (port3:Int):Option ((List nO)×Bool) :=
 (bG l0).bind λt16 =>
 (cond (!t16)
 (some true)
 ((bE (tag1,mac2,port3,0,true)).bind λt20 =>
 some (!t20))).bind λt22 =>
 (cond t22
 (some true)
 ((bo l0 tag1 mac2).bind λt27 =>
 (cond (decide (t27<0)) (some (decide ((l0.length:Int)>=12))) (some false)).bind λt33 =>
 some t33)).bind λt34 =>
 cond t34
 ((bn l0).bind λt36 =>
 some (t36,false))
 ((cW l0 (tag1,mac2,port3,0,true)).bind λt39 =>
 some (t39,true))
def gk:FL:=(163,⟨[.val false (.one (.sl og)) false,.val false nR false,.val false nR false,.val false nR false],[.val false (.one (.sl og)) (some true),.val false oL (some true)],λa=>cX a.1 a.2.1 a.2.2.1 a.2.2.2⟩)::gj
theorem kT:Gd gk:=nV kS 163 Tryz.f163 [] Tryz.func163
def cg (t7:ob×Int) (t5:Int) (b0:List Int) (b1:Int) (b2:Int) (b0_1:Int) (b1_1:List UInt8) (b6:Int) (b7:Int) (b8:Int) (b9:Int) (b10:Int) (b3:List nO):Option ((Int×List Int×Int×Int×Int×List UInt8×Int×Int×Int×Int×Int×List nO)⊕(List Int×Int×Int×Int×List UInt8×Int×Int×Int×Int×Int×List nO)) :=
 cond (decide (t5>0))
 ((aa (b0,b1,b2) 3).bind λt35 =>
 (cf t35.1).bind λt38 =>
 (aa t38.1 (nK (1+t7.2))).bind λt41 =>
 (dQ b3 (nK (1+t35.2)) t38.2 t41.2).bind λt42 =>
 some (.inl (nK (t5-1),t41.1.1,t41.1.2.1,t41.1.2.2,b0_1,b1_1,b6,b7,b8,b9,b10,t42)))
 (some (.inr (b0,b1,b2,b0_1,b1_1,b6,b7,b8,b9,b10,b3)))
def dR (p0:ob):Option (ob×nI) :=
 (aa p0 4).bind λt7 =>
 (aa t7.1 5).bind λt10 =>
 (cP (nK (1+t10.2)) (nK (1+t7.2))).bind λt13 =>
 (aO t10.1 ([[],[121,97,114,100],[98,49]]:List (List UInt8))).bind λt16 =>
 (cQ t16.1 (nK (1+t7.2))).bind λt20 =>
 (cV t20.1 (nK (1+t7.2))).bind λt24 =>
 (aa t24.1 6).bind λt27 =>
 (loop (λz=>cg t7 z.1 z.2.1 z.2.2.1 z.2.2.2.1 z.2.2.2.2.1 z.2.2.2.2.2.1 z.2.2.2.2.2.2.1 z.2.2.2.2.2.2.2.1 z.2.2.2.2.2.2.2.2.1 z.2.2.2.2.2.2.2.2.2.1 z.2.2.2.2.2.2.2.2.2.2.1 z.2.2.2.2.2.2.2.2.2.2.2) (t27.2,t27.1.1,t27.1.2.1,t27.1.2.2,t13.1,t16.2,t13.2.2.2.2.2.2.1,t13.2.2.2.2.2.2.2.1,t13.2.2.2.2.2.2.2.2.1,t13.2.2.2.2.2.2.2.2.2.1,t13.2.2.2.2.2.2.2.2.2.2,t13.2.2.2.1)).bind λd =>
 (aZ (d.1,d.2.1,d.2.2.1) 3).bind λt45 =>
 cond t45.2
 ((cf t45.1).bind λt50 =>
 (aa t50.1 (nK (1+t7.2))).bind λt53 =>
 (cX d.2.2.2.2.2.2.2.2.2.2 1 t50.2 t53.2).bind λt54 =>
 (aa t53.1 5).bind λt59 =>
 (ai t59.1 ([0,1,5,1000000]:List Int)).bind λt63 =>
 some (t63.1,(d.2.2.2.1,d.2.2.2.2.1,t20.2,t54.1,t24.2.1,t24.2.2,t59.2,d.2.2.2.2.2.2.1,d.2.2.2.2.2.2.2.1,d.2.2.2.2.2.2.2.2.1,t63.2)))
 ((aa t45.1 5).bind λt59_1 =>
 (ai t59_1.1 ([0,1,5,1000000]:List Int)).bind λt63_1 =>
 some (t63_1.1,(d.2.2.2.1,d.2.2.2.2.1,t20.2,d.2.2.2.2.2.2.2.2.2.2,t24.2.1,t24.2.2,t59_1.2,d.2.2.2.2.2.2.1,d.2.2.2.2.2.2.2.1,d.2.2.2.2.2.2.2.2.1,t63_1.2)))
def gl:FL:=(74,⟨[.ptr pT none],[.val true o6 (some true)],λa=>dR a⟩)::gk
theorem kU:Gd gl:=nV kT 74 Tryz.f74 [(0,⟨⟨[(5,false,[dI])],[(1,.box [.dat (.sl (.one (.int .u8))),dI,dI]),(530432,.box [dI,dS,.same 1051712,.own 1000000000,.same 1313856,.same 1313857,dI,dI,dI,dI,dI]),(1000000000,.root og true)]⟩,
 ⟨[],[(1,.box [.dat (.sl (.one (.int .u8))),dI,dI]),(530432,.box [dI,dS,.same 1051712,.own 1000000300,.same 1313856,.same 1313857,dI,dI,dI,dI,dI]),(1000000300,.root og true)]⟩,none⟩)] Tryz.func74
def ch (i4:Int) (b0:List Int) (b1:Int) (b2:Int) (out3:List Int):Option ((Int×List Int×Int×Int×List Int)⊕(List Int×Int×Int×List Int)) :=
 cond (decide (i4>0))
 ((ai (b0,b1,b2) ([0,1,2,3,127,128,16384,100000]:List Int)).bind λt16 =>
 (od out3 [t16.2]).bind λzs18 =>
 some (.inl (nK (i4-1),t16.1.1,t16.1.2.1,t16.1.2.2,zs18)))
 (some (.inr (b0,b1,b2,out3)))
def aR (c0:ob):Option (ob×List Int) :=
 (aa c0 6).bind λt7 =>
 (loop (λz=>ch z.1 z.2.1 z.2.2.1 z.2.2.2.1 z.2.2.2.2) (nK (1+t7.2),t7.1.1,t7.1.2.1,t7.1.2.2,([]:List Int))).bind λd =>
 some ((d.1,d.2.1,d.2.2.1),d.2.2.2)
def gm:FL:=(101,⟨[.ptr pT none],[.val false pH (some true)],λa=>aR a⟩)::gl
theorem kV:Gd gm:=nV kU 101 Tryz.f101 [(0,⟨⟨[(3,false,[.own 1000000000]),(4,false,[dI])],[(1,.box [.dat (.sl (.one (.int .u8))),dI,dI]),(1000000000,.root nR true)]⟩,
 ⟨[(3,false,[.own 1000000300])],[(1,.box [.dat (.sl (.one (.int .u8))),dI,dI]),(1000000300,.root nR true)]⟩,none⟩)] Tryz.func101
def ah (n0:Int):Option qB :=
 some (2,n0,[],[])
def gn:FL:=(197,⟨[.val false nR false],[.val true sf (some true)],λa=>ah a⟩)::gm
theorem kW:Gd gn:=nV kV 197 Tryz.f197 [] Tryz.func197
def aq (n0:Int):Option Int :=
 cond (decide (n0>2147483647))
 (some 2147483647)
 (cond (decide (n0<(-2147483648))) (some (-2147483648)) (some n0))
def gp:FL:=(198,⟨[.val false nR false],[.val false nR (some true)],λa=>aq a⟩)::gn
theorem kX:Gd gp:=nV kW 198 Tryz.f198 [] Tryz.func198
def ci (c0:ob):Option (ob×Int) :=
 (aa c0 1000).bind λt5 =>
 (ai t5.1 [0,1,(-1),127,128,(-128),(-129),255,256,32767,32768,(-32769),8388608,2147483647,(-2147483648),2147483648,(-2147483649),9223372036854775807,(-9223372036854775808),t5.2]).bind λt7 =>
 some t7
def gq:FL:=(199,⟨[.ptr pT none],[.val false nR (some true)],λa=>ci a⟩)::gp
theorem kY:Gd gq:=nV kX 199 Tryz.f199 [] Tryz.func199
def aC (c0:ob):Option (ob×qB) :=
 (aa c0 6).bind λt4 =>
 cond (t4.2==0)
 (some (t4.1,(5,0,[],[])))
 (cond (t4.2==1)
 (cond (t4.2==1)
 ((ci t4.1).bind λt12 =>
 (aq t12.2).bind λt13 =>
 (ah t13).bind λt14 =>
 some (t12.1,t14))
 (cond (t4.2==3)
 ((aO t4.1 ([[],[97],[121,97,114,100],[0]]:List (List UInt8))).bind λt19 =>
 some (t19.1,(4,0,t19.2,[])))
 (cond (t4.2==4)
 ((aR t4.1).bind λt24 =>
 some (t24.1,(6,0,[],t24.2)))
 ((ai t4.1 ([128,130]:List Int)).bind λt28 =>
 some (t28.1,(t28.2,0,[],[]))))))
 (cond (t4.2==2)
 ((ci t4.1).bind λt12_1 =>
 (aq t12_1.2).bind λt13_1 =>
 (ah t13_1).bind λt14_1 =>
 some (t12_1.1,t14_1))
 (cond (t4.2==3)
 ((aO t4.1 ([[],[97],[121,97,114,100],[0]]:List (List UInt8))).bind λt19_1 =>
 some (t19_1.1,(4,0,t19_1.2,[])))
 (cond (t4.2==4)
 ((aR t4.1).bind λt24_1 =>
 some (t24_1.1,(6,0,[],t24_1.2)))
 ((ai t4.1 ([128,130]:List Int)).bind λt28_1 =>
 some (t28_1.1,(t28_1.2,0,[],[])))))))
def gt:FL:=(102,⟨[.ptr pT none],[.val true sf (some true)],λa=>aC a⟩)::gq
theorem kZ:Gd gt:=nV kY 102 Tryz.f102 [] Tryz.func102
def cY (v0:tP):Option Bool :=
 (af v0.1 1 99).bind λt5 =>
 (cond t5
 ((af v0.2.1 0 100000).bind λt9 =>
 some t9)
 (some false)).bind λt10 =>
 (cond t10
 ((af v0.2.2.1 0 10).bind λt14 =>
 some t14)
 (some false)).bind λt15 =>
 (cond t15
 ((af v0.2.2.2.1 1 99).bind λt19 =>
 some t19)
 (some false)).bind λt20 =>
 (cond t20
 ((af v0.2.2.2.2 0 7).bind λt24 =>
 some t24)
 (some false)).bind λt25 =>
 some t25
def gu:FL:=(247,⟨[.val true se false],[.val false oL (some true)],λa=>cY a⟩)::gt
theorem l6:Gd gu:=nV kZ 247 Tryz.f247 [] Tryz.func247
def cZ (p0:Pt):Option Bool :=
 (af p0.2.1 1 1000).bind λt5 =>
 (cond (!t5)
 (some true)
 ((cond (!p0.1) (some p0.2.2.1) (some false)).bind λt14 =>
 some t14)).bind λt15 =>
 cond t15
 (some false)
 (cond (!p0.2.2.1)
 (let t2:=p0.2.2.2.1==0&&(p0.2.2.2.2.1==0&&(p0.2.2.2.2.2.1==0&&(p0.2.2.2.2.2.2.1==0&&(p0.2.2.2.2.2.2.2==0))))
 some t2)
 ((cY p0.2.2.2).bind λt25 =>
 some t25))
def gv:FL:=(147,⟨[.val true pI false],[.val false oL (some true)],λa=>cZ a⟩)::gu
theorem l7:Gd gv:=nV l6 147 Tryz.f147 [] Tryz.func147
def dU (b0:nI):Option Bool :=
 (af b0.2.2.2.2.2.2.1 0 1000000).bind λt5 =>
 (cond t5
 ((af b0.2.2.2.2.2.2.2.1 0 1000000).bind λt9 =>
 some t9)
 (some false)).bind λt10 =>
 (cond t10
 ((af b0.2.2.2.2.2.2.2.2.1 0 1000000).bind λt14 =>
 some t14)
 (some false)).bind λt15 =>
 (cond t15
 ((af b0.2.2.2.2.2.2.2.2.2.1 0 1000000).bind λt19 =>
 some t19)
 (some false)).bind λt20 =>
 (cond t20
 ((af b0.2.2.2.2.2.2.2.2.2.2 0 1000000).bind λt24 =>
 some t24)
 (some false)).bind λt25 =>
 some t25
def gw:FL:=(150,⟨[.val true o6 false],[.val false oL (some true)],λa=>dU a⟩)::gv
theorem l8:Gd gw:=nV l7 150 Tryz.f150 [] Tryz.func150
def fa (b0:nI) (i3:Int):Option (Int⊕(Unit⊕Bool)) :=
 cond (decide (i3<(b0.2.2.1.length:Int)))
 ((at? b0.2.2.1 i3).bind λx14 =>
 (cZ x14).bind λt16 =>
 cond (!t16) (some (.inr (.inr false))) (some (.inl (nK (i3+1)))))
 (some (.inr (.inl ())))
def cj (b0:nI):Option Bool :=
 (loop (λz=>fa b0 z) 0).bind (Sum.elim (λd =>
 (af b0.1 1 99).bind λt20 =>
 (cond t20 (some (decide ((b0.2.1.length:Int)<=10))) (some false)).bind λt26 =>
 (cond t26
 ((af (b0.2.2.1.length:Int) 1 6).bind λt31 =>
 some t31)
 (some false)).bind λt32 =>
 (cond t32
 ((bG b0.2.2.2.1).bind λt36 =>
 some t36)
 (some false)).bind λt37 =>
 (cond t37
 ((az (b0.2.2.2.2.1,b0.2.2.2.2.2.1) (b0.2.2.1.length:Int)).bind λt44 =>
 some t44)
 (some false)).bind λt45 =>
 (cond t45
 ((dU b0).bind λt48 =>
 some t48)
 (some false)).bind λt49 =>
 some t49) (λr=>some r))
def gx:FL:=(64,⟨[.val true o6 false],[.val false oL (some true)],λa=>cj a⟩)::gw
theorem l9:Gd gx:=nV l8 64 Tryz.f64 [(0,⟨⟨[(3,false,[dI])],[]⟩,
 ⟨[],[]⟩,some ⟨[(2,false,[dB])],[]⟩⟩)] Tryz.func64
def ac (l0:List Int):Option (List Int) :=
 (od ([1,3,1]:List Int) l0).bind λzs5 =>
 some zs5
def gy:FL:=(274,⟨[.val false pH false],[.val false pH (some true)],λa=>ac a⟩)::gx
theorem la:Gd gy:=nV l9 274 Tryz.f274 [] Tryz.func274
def aj (out0:List nJ) (name1:List Int) (n2:Int):Option (List nJ) :=
 (ac name1).bind λt9 =>
 (ah n2).bind λt11 =>
 (od out0 [(t9,t11.1,t11.2.1,t11.2.2.1,t11.2.2.2)]).bind λzs14 =>
 some zs14
def gz:FL:=(332,⟨[.val false (.one (.sl nU)) true,.val false pH false,.val false nR false],[.val false (.one (.sl nU)) (some true)],λa=>aj a.1 a.2.1 a.2.2⟩)::gy
theorem lb:Gd gz:=nV la 332 Tryz.f332 [] Tryz.func332
def dV (a0:tP) (b1:tP):Option Bool :=
 cond (a0.1 != b1.1)
 (some (decide (a0.1<b1.1)))
 (cond (a0.2.1 != b1.2.1)
 (some (decide (a0.2.1<b1.2.1)))
 (cond (a0.2.2.2.1 != b1.2.2.2.1)
 (let t4:=decide (a0.2.2.2.1<b1.2.2.2.1)
 some t4)
 (let t4_1:=decide (a0.2.2.2.2<b1.2.2.2.2)
 some t4_1)))
def gA:FL:=(357,⟨[.val true se false,.val true se false],[.val false oL (some true)],λa=>dV a.1 a.2⟩)::gz
theorem lc:Gd gA:=nV lb 357 Tryz.f357 [] Tryz.func357
def fb (v0:tP) (cost1:Int):Option (tP×Bool) :=
 (cY v0).bind λt8 =>
 (cond (!t8)
 (some true)
 ((af cost1 1 1000).bind λt12 =>
 some (!t12))).bind λt14 =>
 cond t14
 (some (v0,false))
 ((cY (v0.1,nK (v0.2.1+cost1),nK (v0.2.2.1+1),v0.2.2.2.1,v0.2.2.2.2)).bind λt27 =>
 cond (!t27)
 (some (v0,false))
 (some ((v0.1,nK (v0.2.1+cost1),nK (v0.2.2.1+1),v0.2.2.2.1,v0.2.2.2.2),true)))
def gB:FL:=(368,⟨[.val true se false,.val false nR false],[.val true se (some true),.val false oL (some true)],λa=>fb a.1 a.2⟩)::gA
theorem ld:Gd gB:=nV lc 368 Tryz.f368 [] Tryz.func368
def fc (p0:Int) (i1:List Pt) (t8:Int) (t9:Int) (b0:Int) (b1:Int) (b2:Int) (b3:Int) (b4:Int) (b0_1:Int) (b1_1:Int) (b2_1:Int) (b3_1:Int) (b4_1:Int):Option ((Int×Int×Int×Int×Int×Int×Int×Int×Int×Int×Int×Int)⊕(Int×Int×Int×Int×Int×Int×Int×Int×Int×Int×Int)) :=
 cond (decide (t9<(i1.length:Int)))
 ((at? i1 t9).bind λx24 =>
 (cond (!x24.1)
 (some true)
 ((at? i1 t9).bind λx31 =>
 some (!x31.2.2.1))).bind λt35 =>
 cond t35
 (some (.inl (t8,nK (t9+1),b0,b1,b2,b3,b4,b0_1,b1_1,b2_1,b3_1,b4_1)))
 ((at? i1 t9).bind λx39 =>
 (at? i1 t9).bind λx44 =>
 (fb x39.2.2.2 x44.2.1).bind λt47 =>
 (cond t47.2 (some (decide (t47.1.1<p0))) (some false)).bind λt56 =>
 (cond t56
 ((cond (decide (t8<0))
 (some true)
 ((dV t47.1 (b0_1,b1_1,b2_1,b3_1,b4_1)).bind λt63 =>
 some t63)).bind λt64 =>
 some t64)
 (some false)).bind λt65 =>
 cond t65
 (some (.inl (t9,nK (t9+1),t47.1.1,t47.1.2.1,t47.1.2.2.1,p0,0,t47.1.1,t47.1.2.1,t47.1.2.2.1,t47.1.2.2.2.1,t47.1.2.2.2.2)))
 (some (.inl (t8,nK (t9+1),b0,b1,b2,b3,b4,b0_1,b1_1,b2_1,b3_1,b4_1)))))
 (some (.inr (t8,b0,b1,b2,b3,b4,b0_1,b1_1,b2_1,b3_1,b4_1)))
def d6 (p0:Int) (i1:List Pt):Option (tP×Int) :=
 (loop (λz=>fc p0 i1 z.1 z.2.1 z.2.2.1 z.2.2.2.1 z.2.2.2.2.1 z.2.2.2.2.2.1 z.2.2.2.2.2.2.1 z.2.2.2.2.2.2.2.1 z.2.2.2.2.2.2.2.2.1 z.2.2.2.2.2.2.2.2.2.1 z.2.2.2.2.2.2.2.2.2.2.1 z.2.2.2.2.2.2.2.2.2.2.2) ((-1),0,p0,0,0,p0,0,0,0,0,0,0)).bind λd =>
 some ((d.2.1,d.2.2.1,d.2.2.2.1,d.2.2.2.2.1,d.2.2.2.2.2.1),d.1)
def gC:FL:=(356,⟨[.val false nR false,.val false (.one (.sl pI)) false],[.val true se (some true),.val false nR (some true)],λa=>d6 a.1 a.2⟩)::gB
theorem lf:Gd gC:=nV ld 356 Tryz.f356 [(0,⟨⟨(8,false,[dI])::(9,false,[dI])::us 29 6 (us 52 4 (us 58 7 [])),[(266240,.box [dI,dI,dI,dI,dI]),(526336,.box [dI,dI,dI,dI,dI])]⟩,
 ⟨[(8,false,[dI])],[(266240,.box [dI,dI,dI,dI,dI]),(526336,.box [dI,dI,dI,dI,dI])]⟩,none⟩)] Tryz.func356
def dW (id0:Int) (l1:List Pt) (port2:Int):Option tP :=
 (d6 id0 l1).bind λt12 =>
 some (t12.1.1,t12.1.2.1,t12.1.2.2.1,t12.1.2.2.2.1,port2)
def gD:FL:=(358,⟨[.val false nR false,.val false (.one (.sl pI)) false,.val false nR false],[.val true se (some true)],λa=>dW a.1 a.2.1 a.2.2⟩)::gC
theorem lg:Gd gD:=nV lf 358 Tryz.f358 [] Tryz.func358
def d7 (id0:Int) (l1:List Pt) (port2:Int):Option Int :=
 (af port2 0 (nK ((l1.length:Int)-1))).bind λt13 =>
 (cond (!t13)
 (some true)
 ((at? l1 port2).bind λx18 =>
 some (!x18.1))).bind λt22 =>
 cond t22
 (some 4)
 ((d6 id0 l1).bind λt26 =>
 cond (t26.2==port2)
 (some 1)
 ((at? l1 port2).bind λx36 =>
 (cond (!x36.2.2.1)
 (some true)
 ((dW id0 l1 port2).bind λt44 =>
 (at? l1 port2).bind λx47 =>
 (dV t44 x47.2.2.2).bind λt50 =>
 some t50)).bind λt51 =>
 cond t51 (some 2) (some 3)))
def gE:FL:=(325,⟨[.val false nR false,.val false (.one (.sl pI)) false,.val false nR false],[.val false nR (some true)],λa=>d7 a.1 a.2.1 a.2.2⟩)::gD
theorem lh:Gd gE:=nV lg 325 Tryz.f325 [] Tryz.func325
def dX (b0:nI) (c1:Int) (p2:Int):Option Int :=
 cond (c1==1)
 ((at? b0.2.2.1 p2).bind λx13 =>
 cond x13.1 (some 1) (some 0))
 (cond (c1==2)
 ((at? b0.2.2.1 p2).bind λx21 =>
 some x21.2.1)
 (cond (c1==3)
 ((d7 b0.1 b0.2.2.1 p2).bind λt31 =>
 some t31)
 ((at? b0.2.2.2.2.2.1 p2).bind λx36 =>
 some x36)))
def gF:FL:=(333,⟨[.val true o6 false,.val false nR false,.val false nR false],[.val false nR (some true)],λa=>dX a.1 a.2.1 a.2.2⟩)::gE
theorem li:Gd gF:=nV lh 333 Tryz.f333 [] Tryz.func333
def fe (r0:nW) (c1:Int):Option Int :=
 cond (c1==1) (some 1) (cond (c1==2) (some r0.2.1) (some r0.2.2))
def gG:FL:=(334,⟨[.val true oK false,.val false nR false],[.val false nR (some true)],λa=>fe a.1 a.2⟩)::gF
theorem lj:Gd gG:=nV li 334 Tryz.f334 [] Tryz.func334
def ff (p0:nI) (t4:Int) (t5:Int) (t3_1:List nJ):Option ((Int×List nJ)⊕(List nJ)) :=
 cond (decide (t5<(p0.2.2.1.length:Int)))
 ((dX p0 t4 t5).bind λt59 =>
 (aj t3_1 [2,t4,nK (t5+1)] t59).bind λt60 =>
 some (.inl (nK (t5+1),t60)))
 (some (.inr t3_1))
def fg (p0:nI) (t4:Int) (t3:List nJ):Option ((Int×List nJ)⊕(List nJ)) :=
 cond (decide (t4<=4))
 ((loop (λz=>ff p0 t4 z.1 z.2) (0,t3)).bind λd =>
 some (.inl (nK (t4+1),d)))
 (some (.inr t3))
def fh (p0:nI) (t6:Int) (t7:Int) (t3_5:List nJ):Option ((Int×List nJ)⊕(List nJ)) :=
 cond (decide (t7<(p0.2.2.2.2.1.length:Int)))
 ((at? p0.2.2.2.2.1 t7).bind λx79 =>
 (at? p0.2.2.2.2.1 t7).bind λx87 =>
 (fe x87 t6).bind λt90 =>
 (aj t3_5 [3,t6,x79.1] t90).bind λt91 =>
 some (.inl (nK (t7+1),t91)))
 (some (.inr t3_5))
def d8 (p0:nI) (t6:Int) (t3_4:List nJ):Option ((Int×List nJ)⊕(List nJ)) :=
 cond (decide (t6<=3))
 ((loop (λz=>fh p0 t6 z.1 z.2) (0,t3_4)).bind λd_2 =>
 some (.inl (nK (t6+1),d_2)))
 (some (.inr t3_4))
def fi (p0:nI) (t8:Int) (t3_8:List nJ):Option ((Int×List nJ)⊕(List nJ)) :=
 cond (decide (t8<(p0.2.2.2.1.length:Int)))
 ((at? p0.2.2.2.1 t8).bind λx103 =>
 (at? p0.2.2.2.1 t8).bind λx109 =>
 (at? p0.2.2.2.1 t8).bind λx116 =>
 (aj t3_8 [4,1,x103.1,x109.2.1] (nK (x116.2.2.1+1))).bind λt120 =>
 some (.inl (nK (t8+1),t120)))
 (some (.inr t3_8))
def bI (p0:nI):Option (List nJ) :=
 (cj p0).bind λt10 =>
 cond (!t10)
 (some ([]:List nJ))
 ((ac ([1,1]:List Int)).bind λt14 =>
 (aj ([(t14,4,0,p0.2.1,[])]) ([1,2]:List Int) p0.2.2.2.2.2.2.1).bind λt24 =>
 (aj t24 ([1,3]:List Int) p0.2.2.2.2.2.2.2.1).bind λt29 =>
 (aj t29 ([1,4]:List Int) p0.2.2.2.2.2.2.2.2.1).bind λt34 =>
 (aj t34 ([1,5]:List Int) p0.2.2.2.2.2.2.2.2.2.1).bind λt39 =>
 (loop (λz=>fg p0 z.1 z.2) (1,t39)).bind λd_1 =>
 (loop (λz=>d8 p0 z.1 z.2) (1,d_1)).bind λd_3 =>
 (loop (λz=>fi p0 z.1 z.2) (0,d_3)).bind λd_4 =>
 some d_4)
def gH:FL:=(273,⟨[.val true o6 false],[.val false (.one (.sl nU)) (some true)],λa=>bI a⟩)::gG
theorem lk:Gd gH:=nV lj 273 Tryz.f273 [(0,⟨⟨[(3,false,[.own 1000000000]),(4,false,[dI])],[(1000000000,.root nU true)]⟩,
 ⟨[(3,false,[.own 1000000300])],[(1000000300,.root nU true)]⟩,none⟩),
 (2,⟨⟨[(3,false,[.own 1000002000]),(5,false,[dI])],[(1000002000,.root nU true)]⟩,
 ⟨[(3,false,[.own 1000002300])],[(1000002300,.root nU true)]⟩,none⟩),
 (4,⟨⟨[(3,false,[.own 1000004000]),(6,false,[dI])],[(1000004000,.root nU true)]⟩,
 ⟨[(3,false,[.own 1000004300])],[(1000004300,.root nU true)]⟩,none⟩),
 (6,⟨⟨[(3,false,[.own 1000006000]),(7,false,[dI])],[(1000006000,.root nU true)]⟩,
 ⟨[(3,false,[.own 1000006300])],[(1000006300,.root nU true)]⟩,none⟩),
 (8,⟨⟨[(3,false,[.own 1000008000]),(8,false,[dI])],[(1000008000,.root nU true)]⟩,
 ⟨[(3,false,[.own 1000008300])],[(1000008300,.root nU true)]⟩,none⟩)] Tryz.func273
def ap (c0:ob) (b1:nI):Option (ob×List Int) :=
 (bI b1).bind λt7 =>
 cond (decide ((t7.length:Int)>0))
 ((aZ c0 4).bind λt13 =>
 cond (!t13.2)
 ((aa t13.1 (t7.length:Int)).bind λt21 =>
 (ix t7.length t21.2).bind λj22 =>
 (t7[j22]?).bind λx24 =>
 (od ([]:List Int) x24.1).bind λzs25 =>
 some (t21.1,zs25))
 ((aa t13.1 8).bind λt27 =>
 cond (t27.2==0)
 (some (t27.1,([0]:List Int)))
 (cond (t27.2==1)
 (some (t27.1,([1,3,1]:List Int)))
 (cond (t27.2==2)
 ((ac ([2,2,9]:List Int)).bind λt37 =>
 some (t27.1,t37))
 (cond (t27.2==3)
 ((aa t27.1 9).bind λt41 =>
 (ac [3,1,nK (1+t41.2)]).bind λt44 =>
 some (t41.1,t44))
 (cond (t27.2==4)
 ((ac ([2,2]:List Int)).bind λt48 =>
 some (t27.1,t48))
 (cond (t27.2==5)
 ((ac ([9]:List Int)).bind λt52 =>
 some (t27.1,t52))
 (cond (t27.2==6)
 ((ac ([4,1,2,11]:List Int)).bind λt56 =>
 some (t27.1,t56))
 ((aR t27.1).bind λt58 =>
 some t58)))))))))
 ((aa c0 8).bind λt27_1 =>
 cond (t27_1.2==0)
 (some (t27_1.1,([0]:List Int)))
 (cond (t27_1.2==1)
 (some (t27_1.1,([1,3,1]:List Int)))
 (cond (t27_1.2==2)
 ((ac ([2,2,9]:List Int)).bind λt37_1 =>
 some (t27_1.1,t37_1))
 (cond (t27_1.2==3)
 ((aa t27_1.1 9).bind λt41_1 =>
 (ac [3,1,nK (1+t41_1.2)]).bind λt44_1 =>
 some (t41_1.1,t44_1))
 (cond (t27_1.2==4)
 ((ac ([2,2]:List Int)).bind λt48_1 =>
 some (t27_1.1,t48_1))
 (cond (t27_1.2==5)
 ((ac ([9]:List Int)).bind λt52_1 =>
 some (t27_1.1,t52_1))
 (cond (t27_1.2==6)
 ((ac ([4,1,2,11]:List Int)).bind λt56_1 =>
 some (t27_1.1,t56_1))
 ((aR t27_1.1).bind λt58_1 =>
 some t58_1))))))))
def gI:FL:=(165,⟨[.ptr pT none,.val true o6 false],[.val false pH (some true)],λa=>ap a.1 a.2⟩)::gH
theorem ll:Gd gI:=nV lk 165 Tryz.f165 [] Tryz.func165
def dY (p0:ob) (i1:nI):Option (ob×nJ) :=
 (aa p0 (nK ((i1.2.2.1.length:Int)+1))).bind λt12 =>
 (shl .i64 1 (IntKind.u64.wrap ((i1.2.2.1.length:Int)))).bind λt18 =>
 (aa t12.1 10).bind λt21 =>
 cond (t21.2==0)
 ((ac ([1,1]:List Int)).bind λt25 =>
 (aO t21.1 ([[110,101,119],[],[101,108,101,118,101,110,45,98,121,116,101]]:List (List UInt8))).bind λt28 =>
 some (t28.1,(t25,4,0,t28.2,[])))
 (cond (t21.2==1)
 (cond (t21.2==1)
 ((ac [2,2,nK (1+t12.2)]).bind λt36 =>
 (ai t21.1 ([1,5,1000,0,1001]:List Int)).bind λt39 =>
 (ah t39.2).bind λt40 =>
 some (t39.1,(t36,t40.1,t40.2.1,t40.2.2.1,t40.2.2.2)))
 (cond (t21.2==3)
 ((ac [2,4,nK (1+t12.2)]).bind λt46 =>
 (aa t21.1 4).bind λt48 =>
 (ah (nK (1+t48.2))).bind λt50 =>
 some (t48.1,(t46,t50.1,t50.2.1,t50.2.2.1,t50.2.2.2)))
 (cond (t21.2==4)
 (cond (t21.2==4)
 ((aa t21.1 4).bind λt56 =>
 (ac [3,1,nK (1+t56.2)]).bind λt59 =>
 (ai t56.1 ([4,4,6,1]:List Int)).bind λt62 =>
 (ah t62.2).bind λt63 =>
 some (t62.1,(t59,t63.1,t63.2.1,t63.2.2.1,t63.2.2.2)))
 (cond (t21.2==6)
 (cond (t21.2==6)
 ((aa t21.1 4).bind λt69 =>
 (ac [3,2,nK (1+t69.2)]).bind λt72 =>
 (aa t69.1 (nK ((nK (t18-1))+2))).bind λt76 =>
 (ah t76.2).bind λt77 =>
 some (t76.1,(t72,t77.1,t77.2.1,t77.2.2.1,t77.2.2.2)))
 (cond (t21.2==8)
 ((aa t21.1 4).bind λt82 =>
 (ac [3,3,nK (1+t82.2)]).bind λt85 =>
 (aa t82.1 (nK ((nK (t18-1))+1))).bind λt89 =>
 (ah t89.2).bind λt90 =>
 some (t89.1,(t85,t90.1,t90.2.1,t90.2.2.1,t90.2.2.2)))
 ((ap t21.1 i1).bind λt94 =>
 (aC t94.1).bind λt96 =>
 some (t96.1,(t94.2,t96.2.1,t96.2.2.1,t96.2.2.2.1,t96.2.2.2.2)))))
 (cond (t21.2==7)
 ((aa t21.1 4).bind λt69_1 =>
 (ac [3,2,nK (1+t69_1.2)]).bind λt72_1 =>
 (aa t69_1.1 (nK ((nK (t18-1))+2))).bind λt76_1 =>
 (ah t76_1.2).bind λt77_1 =>
 some (t76_1.1,(t72_1,t77_1.1,t77_1.2.1,t77_1.2.2.1,t77_1.2.2.2)))
 (cond (t21.2==8)
 ((aa t21.1 4).bind λt82_1 =>
 (ac [3,3,nK (1+t82_1.2)]).bind λt85_1 =>
 (aa t82_1.1 (nK ((nK (t18-1))+1))).bind λt89_1 =>
 (ah t89_1.2).bind λt90_1 =>
 some (t89_1.1,(t85_1,t90_1.1,t90_1.2.1,t90_1.2.2.1,t90_1.2.2.2)))
 ((ap t21.1 i1).bind λt94_1 =>
 (aC t94_1.1).bind λt96_1 =>
 some (t96_1.1,(t94_1.2,t96_1.2.1,t96_1.2.2.1,t96_1.2.2.2.1,t96_1.2.2.2.2)))))))
 (cond (t21.2==5)
 ((aa t21.1 4).bind λt56_1 =>
 (ac [3,1,nK (1+t56_1.2)]).bind λt59_1 =>
 (ai t56_1.1 ([4,4,6,1]:List Int)).bind λt62_1 =>
 (ah t62_1.2).bind λt63_1 =>
 some (t62_1.1,(t59_1,t63_1.1,t63_1.2.1,t63_1.2.2.1,t63_1.2.2.2)))
 (cond (t21.2==6)
 (cond (t21.2==6)
 ((aa t21.1 4).bind λt69_2 =>
 (ac [3,2,nK (1+t69_2.2)]).bind λt72_2 =>
 (aa t69_2.1 (nK ((nK (t18-1))+2))).bind λt76_2 =>
 (ah t76_2.2).bind λt77_2 =>
 some (t76_2.1,(t72_2,t77_2.1,t77_2.2.1,t77_2.2.2.1,t77_2.2.2.2)))
 (cond (t21.2==8)
 ((aa t21.1 4).bind λt82_2 =>
 (ac [3,3,nK (1+t82_2.2)]).bind λt85_2 =>
 (aa t82_2.1 (nK ((nK (t18-1))+1))).bind λt89_2 =>
 (ah t89_2.2).bind λt90_2 =>
 some (t89_2.1,(t85_2,t90_2.1,t90_2.2.1,t90_2.2.2.1,t90_2.2.2.2)))
 ((ap t21.1 i1).bind λt94_2 =>
 (aC t94_2.1).bind λt96_2 =>
 some (t96_2.1,(t94_2.2,t96_2.2.1,t96_2.2.2.1,t96_2.2.2.2.1,t96_2.2.2.2.2)))))
 (cond (t21.2==7)
 ((aa t21.1 4).bind λt69_3 =>
 (ac [3,2,nK (1+t69_3.2)]).bind λt72_3 =>
 (aa t69_3.1 (nK ((nK (t18-1))+2))).bind λt76_3 =>
 (ah t76_3.2).bind λt77_3 =>
 some (t76_3.1,(t72_3,t77_3.1,t77_3.2.1,t77_3.2.2.1,t77_3.2.2.2)))
 (cond (t21.2==8)
 ((aa t21.1 4).bind λt82_3 =>
 (ac [3,3,nK (1+t82_3.2)]).bind λt85_3 =>
 (aa t82_3.1 (nK ((nK (t18-1))+1))).bind λt89_3 =>
 (ah t89_3.2).bind λt90_3 =>
 some (t89_3.1,(t85_3,t90_3.1,t90_3.2.1,t90_3.2.2.1,t90_3.2.2.2)))
 ((ap t21.1 i1).bind λt94_3 =>
 (aC t94_3.1).bind λt96_3 =>
 some (t96_3.1,(t94_3.2,t96_3.2.1,t96_3.2.2.1,t96_3.2.2.2.1,t96_3.2.2.2.2))))))))))
 (cond (t21.2==2)
 ((ac [2,2,nK (1+t12.2)]).bind λt36_1 =>
 (ai t21.1 ([1,5,1000,0,1001]:List Int)).bind λt39_1 =>
 (ah t39_1.2).bind λt40_1 =>
 some (t39_1.1,(t36_1,t40_1.1,t40_1.2.1,t40_1.2.2.1,t40_1.2.2.2)))
 (cond (t21.2==3)
 ((ac [2,4,nK (1+t12.2)]).bind λt46_1 =>
 (aa t21.1 4).bind λt48_1 =>
 (ah (nK (1+t48_1.2))).bind λt50_1 =>
 some (t48_1.1,(t46_1,t50_1.1,t50_1.2.1,t50_1.2.2.1,t50_1.2.2.2)))
 (cond (t21.2==4)
 (cond (t21.2==4)
 ((aa t21.1 4).bind λt56_2 =>
 (ac [3,1,nK (1+t56_2.2)]).bind λt59_2 =>
 (ai t56_2.1 ([4,4,6,1]:List Int)).bind λt62_2 =>
 (ah t62_2.2).bind λt63_2 =>
 some (t62_2.1,(t59_2,t63_2.1,t63_2.2.1,t63_2.2.2.1,t63_2.2.2.2)))
 (cond (t21.2==6)
 (cond (t21.2==6)
 ((aa t21.1 4).bind λt69_4 =>
 (ac [3,2,nK (1+t69_4.2)]).bind λt72_4 =>
 (aa t69_4.1 (nK ((nK (t18-1))+2))).bind λt76_4 =>
 (ah t76_4.2).bind λt77_4 =>
 some (t76_4.1,(t72_4,t77_4.1,t77_4.2.1,t77_4.2.2.1,t77_4.2.2.2)))
 (cond (t21.2==8)
 ((aa t21.1 4).bind λt82_4 =>
 (ac [3,3,nK (1+t82_4.2)]).bind λt85_4 =>
 (aa t82_4.1 (nK ((nK (t18-1))+1))).bind λt89_4 =>
 (ah t89_4.2).bind λt90_4 =>
 some (t89_4.1,(t85_4,t90_4.1,t90_4.2.1,t90_4.2.2.1,t90_4.2.2.2)))
 ((ap t21.1 i1).bind λt94_4 =>
 (aC t94_4.1).bind λt96_4 =>
 some (t96_4.1,(t94_4.2,t96_4.2.1,t96_4.2.2.1,t96_4.2.2.2.1,t96_4.2.2.2.2)))))
 (cond (t21.2==7)
 ((aa t21.1 4).bind λt69_5 =>
 (ac [3,2,nK (1+t69_5.2)]).bind λt72_5 =>
 (aa t69_5.1 (nK ((nK (t18-1))+2))).bind λt76_5 =>
 (ah t76_5.2).bind λt77_5 =>
 some (t76_5.1,(t72_5,t77_5.1,t77_5.2.1,t77_5.2.2.1,t77_5.2.2.2)))
 (cond (t21.2==8)
 ((aa t21.1 4).bind λt82_5 =>
 (ac [3,3,nK (1+t82_5.2)]).bind λt85_5 =>
 (aa t82_5.1 (nK ((nK (t18-1))+1))).bind λt89_5 =>
 (ah t89_5.2).bind λt90_5 =>
 some (t89_5.1,(t85_5,t90_5.1,t90_5.2.1,t90_5.2.2.1,t90_5.2.2.2)))
 ((ap t21.1 i1).bind λt94_5 =>
 (aC t94_5.1).bind λt96_5 =>
 some (t96_5.1,(t94_5.2,t96_5.2.1,t96_5.2.2.1,t96_5.2.2.2.1,t96_5.2.2.2.2)))))))
 (cond (t21.2==5)
 ((aa t21.1 4).bind λt56_3 =>
 (ac [3,1,nK (1+t56_3.2)]).bind λt59_3 =>
 (ai t56_3.1 ([4,4,6,1]:List Int)).bind λt62_3 =>
 (ah t62_3.2).bind λt63_3 =>
 some (t62_3.1,(t59_3,t63_3.1,t63_3.2.1,t63_3.2.2.1,t63_3.2.2.2)))
 (cond (t21.2==6)
 (cond (t21.2==6)
 ((aa t21.1 4).bind λt69_6 =>
 (ac [3,2,nK (1+t69_6.2)]).bind λt72_6 =>
 (aa t69_6.1 (nK ((nK (t18-1))+2))).bind λt76_6 =>
 (ah t76_6.2).bind λt77_6 =>
 some (t76_6.1,(t72_6,t77_6.1,t77_6.2.1,t77_6.2.2.1,t77_6.2.2.2)))
 (cond (t21.2==8)
 ((aa t21.1 4).bind λt82_6 =>
 (ac [3,3,nK (1+t82_6.2)]).bind λt85_6 =>
 (aa t82_6.1 (nK ((nK (t18-1))+1))).bind λt89_6 =>
 (ah t89_6.2).bind λt90_6 =>
 some (t89_6.1,(t85_6,t90_6.1,t90_6.2.1,t90_6.2.2.1,t90_6.2.2.2)))
 ((ap t21.1 i1).bind λt94_6 =>
 (aC t94_6.1).bind λt96_6 =>
 some (t96_6.1,(t94_6.2,t96_6.2.1,t96_6.2.2.1,t96_6.2.2.2.1,t96_6.2.2.2.2)))))
 (cond (t21.2==7)
 ((aa t21.1 4).bind λt69_7 =>
 (ac [3,2,nK (1+t69_7.2)]).bind λt72_7 =>
 (aa t69_7.1 (nK ((nK (t18-1))+2))).bind λt76_7 =>
 (ah t76_7.2).bind λt77_7 =>
 some (t76_7.1,(t72_7,t77_7.1,t77_7.2.1,t77_7.2.2.1,t77_7.2.2.2)))
 (cond (t21.2==8)
 ((aa t21.1 4).bind λt82_7 =>
 (ac [3,3,nK (1+t82_7.2)]).bind λt85_7 =>
 (aa t82_7.1 (nK ((nK (t18-1))+1))).bind λt89_7 =>
 (ah t89_7.2).bind λt90_7 =>
 some (t89_7.1,(t85_7,t90_7.1,t90_7.2.1,t90_7.2.2.1,t90_7.2.2.2)))
 ((ap t21.1 i1).bind λt94_7 =>
 (aC t94_7.1).bind λt96_7 =>
 some (t96_7.1,(t94_7.2,t96_7.2.1,t96_7.2.2.1,t96_7.2.2.2.1,t96_7.2.2.2.2)))))))))))
def gJ:FL:=(272,⟨[.ptr pT none,.val true o6 false],[.val true nU (some true)],λa=>dY a.1 a.2⟩)::gI
theorem lm:Gd gJ:=nV ll 272 Tryz.f272 [] Tryz.func272
def bJ (b1:nI) (i6:Int) (b0:List Int) (b1_1:Int) (b2:Int) (out5:List nJ):Option ((Int×List Int×Int×Int×List nJ)⊕(List Int×Int×Int×List nJ)) :=
 cond (decide (i6>0))
 ((dY (b0,b1_1,b2) b1).bind λt17 =>
 (od out5 [t17.2]).bind λzs19 =>
 some (.inl (nK (i6-1),t17.1.1,t17.1.2.1,t17.1.2.2,zs19)))
 (some (.inr (b0,b1_1,b2,out5)))
def d9 (c0:ob) (b1:nI):Option (ob×List nJ) :=
 (aa c0 4).bind λt9 =>
 (loop (λz=>bJ b1 z.1 z.2.1 z.2.2.1 z.2.2.2.1 z.2.2.2.2) (t9.2,t9.1.1,t9.1.2.1,t9.1.2.2,([]:List nJ))).bind λd =>
 some ((d.1,d.2.1,d.2.2.1),d.2.2.2)
def gK:FL:=(164,⟨[.ptr pT none,.val true o6 false],[.val false (.one (.sl nU)) (some true)],λa=>d9 a.1 a.2⟩)::gJ
theorem ln:Gd gK:=nV lm 164 Tryz.f164 [(0,⟨⟨[(5,false,[.own 1000000000]),(6,false,[dI])],[(1,.box [.dat (.sl (.one (.int .u8))),dI,dI]),(1000000000,.root nU true)]⟩,
 ⟨[(5,false,[.own 1000000300])],[(1,.box [.dat (.sl (.one (.int .u8))),dI,dI]),(1000000300,.root nU true)]⟩,none⟩)] Tryz.func164
def bK (b1:nI) (i6:Int) (b0:List Int) (b1_1:Int) (b2:Int) (b0_1:Int) (b1_2:Int) (b2_1:Int) (b3:Int) (b4:List nJ):Option ((Int×List Int×Int×Int×Int×Int×Int×Int×List nJ)⊕(List Int×Int×Int×Int×Int×Int×Int×List nJ)) :=
 cond (decide (i6>0))
 ((ap (b0,b1_1,b2) b1).bind λt31 =>
 (od b4 ([(t31.2,5,0,[],[])])).bind λzs35 =>
 some (.inl (nK (i6-1),t31.1.1,t31.1.2.1,t31.1.2.2,b0_1,b1_2,b2_1,b3,zs35)))
 (some (.inr (b0,b1_1,b2,b0_1,b1_2,b2_1,b3,b4)))
def dZ (c0:ob) (b1:nI):Option (ob×oe) :=
 (ai c0 ([160,161,163,163,165]:List Int)).bind λt9 =>
 (aa t9.1 100).bind λt11 =>
 cond (t9.2==163)
 ((d9 t11.1 b1).bind λt18 =>
 some (t18.1,(t9.2,t11.2,0,0,t18.2)))
 ((aa t11.1 4).bind λt22 =>
 (loop (λz=>bK b1 z.1 z.2.1 z.2.2.1 z.2.2.2.1 z.2.2.2.2.1 z.2.2.2.2.2.1 z.2.2.2.2.2.2.1 z.2.2.2.2.2.2.2.1 z.2.2.2.2.2.2.2.2) (t22.2,t22.1.1,t22.1.2.1,t22.1.2.2,t9.2,t11.2,0,0,[])).bind λd =>
 cond (d.2.2.2.1==165)
 ((aa (d.1,d.2.1,d.2.2.1) 3).bind λt41 =>
 (aa t41.1 5).bind λt44 =>
 some (t44.1,(d.2.2.2.1,d.2.2.2.2.1,t41.2,t44.2,d.2.2.2.2.2.2.2)))
 (some ((d.1,d.2.1,d.2.2.1),d.2.2.2)))
def gL:FL:=(75,⟨[.ptr pT none,.val true o6 false],[.val true qu (some true)],λa=>dZ a.1 a.2⟩)::gK
theorem lp:Gd gL:=nV ln 75 Tryz.f75 [(0,⟨⟨[(6,false,[dI])],[(1,.box [.dat (.sl (.one (.int .u8))),dI,dI]),(269312,.box [dI,dI,dI,dI,.own 1000000000]),(1000000000,.root nU true)]⟩,
 ⟨[],[(1,.box [.dat (.sl (.one (.int .u8))),dI,dI]),(269312,.box [dI,dI,dI,dI,.own 1000000300]),(1000000300,.root nU true)]⟩,none⟩)] Tryz.func75
def e9 (code0:List Int):Option (nI×oe) :=
 (dN code0).bind λt7 =>
 (dR t7).bind λt9 =>
 (dZ t9.1 t9.2).bind λt13 =>
 some (t9.2,t13.2)
def gM:FL:=(12,⟨[.val false qA false],[.val true o6 none,.val true qu (some true)],λa=>e9 a⟩)::gL
theorem lq:Gd gM:=nV lp 12 Tryz.f12 [] Tryz.func12
def ae (n0:Int) (low1:Int) (high2:Int):Option Bool :=
 (cond (decide (n0>=low1)) (some (decide (n0<=high2))) (some false)).bind λt14 =>
 some t14
def gN:FL:=(90,⟨[.val false nR false,.val false nR false,.val false nR false],[.val false oL (some true)],λa=>ae a.1 a.2.1 a.2.2⟩)::gM
theorem lr:Gd gN:=nV lq 90 Tryz.f90 [] Tryz.func90
def aD (o0:List Int) (t7:Int):Option (Int⊕(Unit⊕Bool)) :=
 cond (decide (t7<(o0.length:Int)))
 ((at? o0 t7).bind λx9 =>
 (ae x9 0 100000).bind λt12 =>
 cond (!t12) (some (.inr (.inr false))) (some (.inl (nK (t7+1)))))
 (some (.inr (.inl ())))
def ak (o0:List Int):Option Bool :=
 (loop (λz=>aD o0 z) 0).bind (Sum.elim (λd =>
 (ae (o0.length:Int) 1 10).bind λt17 =>
 some t17) (λr=>some r))
def gO:FL:=(91,⟨[.val false pH false],[.val false oL (some true)],λa=>ak a⟩)::gN
theorem ls:Gd gO:=nV lr 91 Tryz.f91 [(0,⟨⟨[(7,false,[dI])],[]⟩,
 ⟨[],[]⟩,some ⟨[(2,false,[dB])],[]⟩⟩)] Tryz.func91
def ck (a0:List Int) (b1:List Int) (t13:Int):Option (Int⊕(Unit⊕Bool)) :=
 cond (decide (t13<(a0.length:Int)))
 ((at? a0 t13).bind λx18 =>
 (at? b1 t13).bind λx22 =>
 cond (x18 != x22) (some (.inr (.inr false))) (some (.inl (nK (t13+1)))))
 (some (.inr (.inl ())))
def am (a0:List Int) (b1:List Int):Option Bool :=
 cond ((a0.length:Int) != (b1.length:Int))
 (some false)
 ((loop (λz=>ck a0 b1 z) 0).bind (Sum.elim (λd =>
 some true) (λr=>some r)))
def gP:FL:=(19,⟨[.val false pH false,.val false pH false],[.val false oL (some true)],λa=>am a.1 a.2⟩)::gO
theorem lu:Gd gP:=nV ls 19 Tryz.f19 [(0,⟨⟨[(13,false,[dI])],[]⟩,
 ⟨[],[]⟩,some ⟨[(4,false,[dB])],[]⟩⟩)] Tryz.func19
def ar (a0:qB) (b1:qB):Option Bool :=
 (cond (a0.1==b1.1) (some (a0.2.1==b1.2.1)) (some false)).bind λt16 =>
 (cond t16 (some (a0.2.2.1==b1.2.2.1)) (some false)).bind λt23 =>
 (cond t23
 ((am a0.2.2.2 b1.2.2.2).bind λt29 =>
 some t29)
 (some false)).bind λt30 =>
 some t30
def gQ:FL:=(20,⟨[.val true sf false,.val true sf false],[.val false oL (some true)],λa=>ar a.1 a.2⟩)::gP
theorem lv:Gd gQ:=nV lu 20 Tryz.f20 [] Tryz.func20
def av (n0:Int):Option Bool :=
 (ae n0 (-2147483648) 2147483647).bind λt4 =>
 some t4
def gR:FL:=(93,⟨[.val false nR false],[.val false oL (some true)],λa=>av a⟩)::gQ
theorem lw:Gd gR:=nV lv 93 Tryz.f93 [] Tryz.func93
def ao (v0:qB):Option Bool :=
 cond (v0.1==2)
 ((av v0.2.1).bind λt17 =>
 (cond t17
 ((ar v0 (v0.1,v0.2.1,[],[])).bind λt43 =>
 some t43)
 (some false)).bind λt44 =>
 some t44)
 (cond (v0.1==4)
 (let ok4:=decide ((v0.2.2.1.length:Int)<=20)
 (cond ok4
 ((ar v0 (v0.1,0,v0.2.2.1,[])).bind λt43_1 =>
 some t43_1)
 (some false)).bind λt44_1 =>
 some t44_1)
 (cond (v0.1==6)
 ((ak v0.2.2.2).bind λt34 =>
 (cond t34
 ((ar v0 (v0.1,0,[],v0.2.2.2)).bind λt43_2 =>
 some t43_2)
 (some false)).bind λt44_2 =>
 some t44_2)
 (cond (v0.1==5)
 (cond (v0.1==5)
 (((ar v0 (v0.1,0,[],[])).bind λt43_3 =>
 some t43_3).bind λt44_3 =>
 some t44_3)
 (some false))
 (cond (v0.1==128)
 (cond (v0.1==128)
 (((ar v0 (v0.1,0,[],[])).bind λt43_4 =>
 some t43_4).bind λt44_4 =>
 some t44_4)
 (some false))
 (cond (v0.1==130)
 (((ar v0 (v0.1,0,[],[])).bind λt43_5 =>
 some t43_5).bind λt44_5 =>
 some t44_5)
 (some false))))))
def gS:FL:=(92,⟨[.val true sf false],[.val false oL (some true)],λa=>ao a⟩)::gR
theorem lz:Gd gS:=nV lw 92 Tryz.f92 [] Tryz.func92
def ea (p0:oe) (t35:Int):Option (Int⊕(Unit⊕Bool)) :=
 cond (decide (t35<(p0.2.2.2.2.length:Int)))
 ((at? p0.2.2.2.2 t35).bind λx38 =>
 (cond (decide (t35>=10))
 (some true)
 ((ak x38.1).bind λt45 =>
 some (!t45))).bind λt47 =>
 (cond t47
 (some true)
 ((ao x38.2).bind λt51 =>
 some (!t51))).bind λt53 =>
 cond t53 (some (.inr (.inr false))) (some (.inl (nK (t35+1)))))
 (some (.inr (.inl ())))
def gT (p0:oe) (t35_1:Int):Option (Int⊕(Unit⊕Bool)) :=
 cond (decide (t35_1<(p0.2.2.2.2.length:Int)))
 ((at? p0.2.2.2.2 t35_1).bind λx38_1 =>
 (cond (decide (t35_1>=10))
 (some true)
 ((ak x38_1.1).bind λt45_1 =>
 some (!t45_1))).bind λt47_1 =>
 (cond t47_1
 (some true)
 ((ao x38_1.2).bind λt51_1 =>
 some (!t51_1))).bind λt53_1 =>
 cond t53_1 (some (.inr (.inr false))) (some (.inl (nK (t35_1+1)))))
 (some (.inr (.inl ())))
def gU (p0:oe) (t35_2:Int):Option (Int⊕(Unit⊕Bool)) :=
 cond (decide (t35_2<(p0.2.2.2.2.length:Int)))
 ((at? p0.2.2.2.2 t35_2).bind λx38_2 =>
 (cond (decide (t35_2>=10))
 (some true)
 ((ak x38_2.1).bind λt45_2 =>
 some (!t45_2))).bind λt47_2 =>
 (cond t47_2
 (some true)
 ((ao x38_2.2).bind λt51_2 =>
 some (!t51_2))).bind λt53_2 =>
 cond t53_2 (some (.inr (.inr false))) (some (.inl (nK (t35_2+1)))))
 (some (.inr (.inl ())))
def gV (p0:oe) (t35_3:Int):Option (Int⊕(Unit⊕Bool)) :=
 cond (decide (t35_3<(p0.2.2.2.2.length:Int)))
 ((at? p0.2.2.2.2 t35_3).bind λx38_3 =>
 (cond (decide (t35_3>=10))
 (some true)
 ((ak x38_3.1).bind λt45_3 =>
 some (!t45_3))).bind λt47_3 =>
 (cond t47_3
 (some true)
 ((ao x38_3.2).bind λt51_3 =>
 some (!t51_3))).bind λt53_3 =>
 cond t53_3 (some (.inr (.inr false))) (some (.inl (nK (t35_3+1)))))
 (some (.inr (.inl ())))
def gW (p0:oe) (t35_4:Int):Option (Int⊕(Unit⊕Bool)) :=
 cond (decide (t35_4<(p0.2.2.2.2.length:Int)))
 ((at? p0.2.2.2.2 t35_4).bind λx38_4 =>
 (cond (decide (t35_4>=10))
 (some true)
 ((ak x38_4.1).bind λt45_4 =>
 some (!t45_4))).bind λt47_4 =>
 (cond t47_4
 (some true)
 ((ao x38_4.2).bind λt51_4 =>
 some (!t51_4))).bind λt53_4 =>
 cond t53_4 (some (.inr (.inr false))) (some (.inl (nK (t35_4+1)))))
 (some (.inr (.inl ())))
def gX (p0:oe) (t35_5:Int):Option (Int⊕(Unit⊕Bool)) :=
 cond (decide (t35_5<(p0.2.2.2.2.length:Int)))
 ((at? p0.2.2.2.2 t35_5).bind λx38_5 =>
 (cond (decide (t35_5>=10))
 (some true)
 ((ak x38_5.1).bind λt45_5 =>
 some (!t45_5))).bind λt47_5 =>
 (cond t47_5
 (some true)
 ((ao x38_5.2).bind λt51_5 =>
 some (!t51_5))).bind λt53_5 =>
 cond t53_5 (some (.inr (.inr false))) (some (.inl (nK (t35_5+1)))))
 (some (.inr (.inl ())))
def gY (p0:oe) (t35_6:Int):Option (Int⊕(Unit⊕Bool)) :=
 cond (decide (t35_6<(p0.2.2.2.2.length:Int)))
 ((at? p0.2.2.2.2 t35_6).bind λx38_6 =>
 (cond (decide (t35_6>=10))
 (some true)
 ((ak x38_6.1).bind λt45_6 =>
 some (!t45_6))).bind λt47_6 =>
 (cond t47_6
 (some true)
 ((ao x38_6.2).bind λt51_6 =>
 some (!t51_6))).bind λt53_6 =>
 cond t53_6 (some (.inr (.inr false))) (some (.inl (nK (t35_6+1)))))
 (some (.inr (.inl ())))
def gZ (p0:oe) (t35_7:Int):Option (Int⊕(Unit⊕Bool)) :=
 cond (decide (t35_7<(p0.2.2.2.2.length:Int)))
 ((at? p0.2.2.2.2 t35_7).bind λx38_7 =>
 (cond (decide (t35_7>=10))
 (some true)
 ((ak x38_7.1).bind λt45_7 =>
 some (!t45_7))).bind λt47_7 =>
 (cond t47_7
 (some true)
 ((ao x38_7.2).bind λt51_7 =>
 some (!t51_7))).bind λt53_7 =>
 cond t53_7 (some (.inr (.inr false))) (some (.inl (nK (t35_7+1)))))
 (some (.inr (.inl ())))
def hC (p0:oe) (t35_8:Int):Option (Int⊕(Unit⊕Bool)) :=
 cond (decide (t35_8<(p0.2.2.2.2.length:Int)))
 ((at? p0.2.2.2.2 t35_8).bind λx38_8 =>
 (cond (decide (t35_8>=10))
 (some true)
 ((ak x38_8.1).bind λt45_8 =>
 some (!t45_8))).bind λt47_8 =>
 (cond t47_8
 (some true)
 ((ao x38_8.2).bind λt51_8 =>
 some (!t51_8))).bind λt53_8 =>
 cond t53_8 (some (.inr (.inr false))) (some (.inl (nK (t35_8+1)))))
 (some (.inr (.inl ())))
def cl (p0:oe):Option Bool :=
 cond (p0.1==160)
 (cond (p0.1==160)
 ((cond (p0.2.2.1 != 0) (some true) (some (p0.2.2.2.1 != 0))).bind λt18 =>
 cond t18
 (some false)
 ((loop (λz=>ea p0 z) 0).bind (Sum.elim (λd =>
 (av p0.2.1).bind λt57 =>
 some t57) (λr=>some r))))
 (cond (p0.1==162)
 (cond (p0.1==162)
 ((ae p0.2.2.1 0 1000).bind λt24 =>
 (cond (!t24)
 (some true)
 ((ae p0.2.2.2.1 0 1000).bind λt29 =>
 some (!t29))).bind λt31 =>
 cond t31
 (some false)
 ((loop (λz=>gT p0 z) 0).bind (Sum.elim (λd_1 =>
 (av p0.2.1).bind λt57_1 =>
 some t57_1) (λr_1=>some r_1))))
 (some false))
 (cond (p0.1==165)
 ((ae p0.2.2.1 0 1000).bind λt24_1 =>
 (cond (!t24_1)
 (some true)
 ((ae p0.2.2.2.1 0 1000).bind λt29_1 =>
 some (!t29_1))).bind λt31_1 =>
 cond t31_1
 (some false)
 ((loop (λz=>gU p0 z) 0).bind (Sum.elim (λd_2 =>
 (av p0.2.1).bind λt57_2 =>
 some t57_2) (λr_2=>some r_2))))
 (some false))))
 (cond (p0.1==161)
 (cond (p0.1==161)
 ((cond (p0.2.2.1 != 0) (some true) (some (p0.2.2.2.1 != 0))).bind λt18_1 =>
 cond t18_1
 (some false)
 ((loop (λz=>gV p0 z) 0).bind (Sum.elim (λd_3 =>
 (av p0.2.1).bind λt57_3 =>
 some t57_3) (λr_3=>some r_3))))
 (cond (p0.1==162)
 (cond (p0.1==162)
 ((ae p0.2.2.1 0 1000).bind λt24_2 =>
 (cond (!t24_2)
 (some true)
 ((ae p0.2.2.2.1 0 1000).bind λt29_2 =>
 some (!t29_2))).bind λt31_2 =>
 cond t31_2
 (some false)
 ((loop (λz=>gW p0 z) 0).bind (Sum.elim (λd_4 =>
 (av p0.2.1).bind λt57_4 =>
 some t57_4) (λr_4=>some r_4))))
 (some false))
 (cond (p0.1==165)
 ((ae p0.2.2.1 0 1000).bind λt24_3 =>
 (cond (!t24_3)
 (some true)
 ((ae p0.2.2.2.1 0 1000).bind λt29_3 =>
 some (!t29_3))).bind λt31_3 =>
 cond t31_3
 (some false)
 ((loop (λz=>gX p0 z) 0).bind (Sum.elim (λd_5 =>
 (av p0.2.1).bind λt57_5 =>
 some t57_5) (λr_5=>some r_5))))
 (some false))))
 (cond (p0.1==163)
 ((cond (p0.2.2.1 != 0) (some true) (some (p0.2.2.2.1 != 0))).bind λt18_2 =>
 cond t18_2
 (some false)
 ((loop (λz=>gY p0 z) 0).bind (Sum.elim (λd_6 =>
 (av p0.2.1).bind λt57_6 =>
 some t57_6) (λr_6=>some r_6))))
 (cond (p0.1==162)
 (cond (p0.1==162)
 ((ae p0.2.2.1 0 1000).bind λt24_4 =>
 (cond (!t24_4)
 (some true)
 ((ae p0.2.2.2.1 0 1000).bind λt29_4 =>
 some (!t29_4))).bind λt31_4 =>
 cond t31_4
 (some false)
 ((loop (λz=>gZ p0 z) 0).bind (Sum.elim (λd_7 =>
 (av p0.2.1).bind λt57_7 =>
 some t57_7) (λr_7=>some r_7))))
 (some false))
 (cond (p0.1==165)
 ((ae p0.2.2.1 0 1000).bind λt24_5 =>
 (cond (!t24_5)
 (some true)
 ((ae p0.2.2.2.1 0 1000).bind λt29_5 =>
 some (!t29_5))).bind λt31_5 =>
 cond t31_5
 (some false)
 ((loop (λz=>hC p0 z) 0).bind (Sum.elim (λd_8 =>
 (av p0.2.1).bind λt57_8 =>
 some t57_8) (λr_8=>some r_8))))
 (some false)))))
def hN:FL:=(17,⟨[.val true qu false],[.val false oL (some true)],λa=>cl a⟩)::gS
theorem lA:Gd hN:=nV lz 17 Tryz.f17 [(1,⟨⟨(35,false,[dI])::us 43 4 (us 49 4 []),[]⟩,
 ⟨[],[]⟩,some ⟨[(2,false,[dB])],[]⟩⟩)] Tryz.func17
def bL (tag0:Int) (body1:List Int):Option ((List Int)×Bool) :=
 (ae tag0 0 255).bind λt8 =>
 (cond (!t8) (some true) (some (decide ((body1.length:Int)>250)))).bind λt14 =>
 cond t14
 (some ([],false))
 (cond (decide ((body1.length:Int)>=128))
 ((od [IntKind.u8.wrap (tag0)] ([129]:List Int)).bind λzs23 =>
 (od zs23 [IntKind.u8.wrap ((body1.length:Int))]).bind λzs29 =>
 (od zs29 body1).bind λzs31 =>
 some (zs31,true))
 ((od [IntKind.u8.wrap (tag0)] [IntKind.u8.wrap ((body1.length:Int))]).bind λzs29_1 =>
 (od zs29_1 body1).bind λzs31_1 =>
 some (zs31_1,true)))
def hP:FL:=(182,⟨[.val false nR false,.val false qA false],[.val false qA (some true),.val false oL (some true)],λa=>bL a.1 a.2⟩)::hN
theorem lB:Gd hP:=nV lA 182 Tryz.f182 [] Tryz.func182
def da (b0:List Int):Option (List Int) :=
 (od [] b0).bind λzs4 =>
 some zs4
def hU:FL:=(131,⟨[.val false qA false],[.val false qA (some true)],λa=>da a⟩)::hP
theorem lC:Gd hU:=nV lB 131 Tryz.f131 [] Tryz.func131
def aS (b0:List Int) (tag1:Int) (body2:List Int):Option (List Int) :=
 (bL tag1 body2).bind λt12 =>
 (da b0).bind λt16 =>
 (od t16 t12.1).bind λzs18 =>
 some zs18
def hZ:FL:=(184,⟨[.val false qA false,.val false nR false,.val false qA false],[.val false qA (some true)],λa=>aS a.1 a.2.1 a.2.2⟩)::hU
theorem lD:Gd hZ:=nV lC 184 Tryz.f184 [] Tryz.func184
def bp (x14:Int) (k6:Int):Option (Int⊕Int) :=
 (shr .i64 x14 (nK (7*k6))).bind λt19 =>
 cond (decide (t19>127)) (some (.inl (nK (k6+1)))) (some (.inr k6))
def bM (x14:Int) (k6_2:Int) (out3_1:List Int):Option ((Int×List Int)⊕(List Int)) :=
 cond (decide (k6_2>0))
 ((shr .i64 x14 (nK (7*k6_2))).bind λt31 =>
 (od out3_1 [IntKind.u8.wrap (nK ((qL .i64 t31 127)+128))]).bind λzs36 =>
 some (.inl (nK (k6_2-1),zs36)))
 (some (.inr out3_1))
def cm (o0:List Int) (t12:Int) (out3:List Int):Option ((Int×List Int)⊕(List Int)) :=
 cond (decide (t12<(o0.length:Int)))
 ((at? o0 t12).bind λx14 =>
 (loop (λz=>bp x14 z) 0).bind λd =>
 (loop (λz=>bM x14 z.1 z.2) (d,out3)).bind λd_1 =>
 (od d_1 [IntKind.u8.wrap (qL .i64 x14 127)]).bind λzs42 =>
 some (.inl (nK (t12+1),zs42)))
 (some (.inr out3))
def cn (o0:List Int):Option (List Int) :=
 (ak o0).bind λt8 =>
 cond (!t8)
 (some [])
 ((loop (λz=>cm o0 z.1 z.2) (0,[])).bind λd_2 =>
 some d_2)
def i0:FL:=(185,⟨[.val false pH false],[.val false qA (some true)],λa=>cn a⟩)::hZ
theorem lE:Gd i0:=nV lD 185 Tryz.f185 [(0,⟨⟨[(3,false,[.own 1000000000]),(12,false,[dI])],[(1000000000,.root (.one (.int .u8)) true)]⟩,
 ⟨[(3,false,[.own 1000000300])],[(1000000300,.root (.one (.int .u8)) true)]⟩,none⟩),
 (2,⟨⟨[(6,false,[dI])],[]⟩,
 ⟨[(6,false,[dI])],[]⟩,none⟩),
 (4,⟨⟨[(3,false,[.own 1000004000]),(6,false,[dI])],[(1000004000,.root (.one (.int .u8)) true)]⟩,
 ⟨[(3,false,[.own 1000004300])],[(1000004300,.root (.one (.int .u8)) true)]⟩,none⟩)] Tryz.func185
def aE (n0_1:Int) (k3:Int):Option (Int⊕Int) :=
 (cond (decide (k3<4))
 ((shl .i64 (-1) (nK ((nK (8*k3))-1))).bind λt16 =>
 (shl .i64 1 (nK ((nK (8*k3))-1))).bind λt20 =>
 (ae n0_1 t16 (nK (t20-1))).bind λt22 =>
 some (!t22))
 (some false)).bind λt24 =>
 cond t24 (some (.inl (nK (k3+1)))) (some (.inr k3))
def aw (n0_1:Int) (i5:Int) (out4:List Int):Option ((Int×List Int)⊕(List Int)) :=
 cond (decide (i5>=0))
 ((shr .i64 n0_1 (nK (8*i5))).bind λt37 =>
 (od out4 [IntKind.u8.wrap (t37)]).bind λzs40 =>
 some (.inl (nK (i5-1),zs40)))
 (some (.inr out4))
def de (n0:Int):Option (List Int) :=
 let n0_1:=max2 (-2147483648) (min2 n0 2147483647)
 (loop (λz=>aE n0_1 z) 1).bind λd =>
 (loop (λz=>aw n0_1 z.1 z.2) (nK (d-1),[])).bind λd_1 =>
 some d_1
def ia:FL:=(293,⟨[.val false nR false],[.val false qA (some true)],λa=>de a⟩)::i0
theorem lF:Gd ia:=nV lE 293 Tryz.f293 [(0,⟨⟨(3,false,[dI])::us 12 12 [],[]⟩,
 ⟨[(3,false,[dI])],[]⟩,none⟩),
 (2,⟨⟨[(4,false,[.own 1000002000]),(5,false,[dI])],[(1000002000,.root (.one (.int .u8)) true)]⟩,
 ⟨[(4,false,[.own 1000002300])],[(1000002300,.root (.one (.int .u8)) true)]⟩,none⟩)] Tryz.func293
def ee (b0:List Int) (v1:qB):Option (List Int) :=
 (ao v1).bind λt7 =>
 cond (!t7)
 ((da b0).bind λt10 =>
 some t10)
 (cond (v1.1==2)
 ((de v1.2.1).bind λt17 =>
 (aS b0 v1.1 t17).bind λt32 =>
 some t32)
 (cond (v1.1==4)
 ((aS b0 v1.1 (rY v1.2.2.1)).bind λt32_1 =>
 some t32_1)
 (cond (v1.1==6)
 ((cn v1.2.2.2).bind λt27 =>
 (aS b0 v1.1 t27).bind λt32_2 =>
 some t32_2)
 ((aS b0 v1.1 []).bind λt32_3 =>
 some t32_3))))
def ib:FL:=(183,⟨[.val false qA false,.val true sf false],[.val false qA (some true)],λa=>ee a.1 a.2⟩)::ia
theorem lG:Gd ib:=nV lF 183 Tryz.f183 [] Tryz.func183
def co (out0:List Int) (tag1:Int) (n2:Int):Option (List Int) :=
 (de n2).bind λt10 =>
 (aS out0 tag1 t10).bind λt11 =>
 some t11
def ic:FL:=(186,⟨[.val false qA false,.val false nR false,.val false nR false],[.val false qA (some true)],λa=>co a.1 a.2.1 a.2.2⟩)::ib
theorem lH:Gd ic:=nV lG 186 Tryz.f186 [] Tryz.func186
def cp (p0:oe) (t18:Int) (t3:List Int):Option ((Int×List Int)⊕((List Int)⊕(List Int))) :=
 cond (decide (t18<(p0.2.2.2.2.length:Int)))
 ((at? p0.2.2.2.2 t18).bind λx20 =>
 (cn x20.1).bind λt25 =>
 (aS [] 6 t25).bind λt26 =>
 (ee t26 x20.2).bind λt29 =>
 (bL 48 t29).bind λt30 =>
 cond (!t30.2)
 (some (.inr (.inr [])))
 ((od t3 t30.1).bind λzs37 =>
 some (.inl (nK (t18+1),zs37))))
 (some (.inr (.inl t3)))
def ef (p0:oe):Option (List Int) :=
 (cl p0).bind λt13 =>
 cond (!t13)
 (some [])
 ((loop (λz=>cp p0 z.1 z.2) (0,[])).bind (Sum.elim (λd =>
 (bL 48 d).bind λt41 =>
 cond (!t41.2)
 (some [])
 ((co [] 2 p0.2.1).bind λt51 =>
 (co t51 2 p0.2.2.1).bind λt54 =>
 (co t54 2 p0.2.2.2.1).bind λt57 =>
 (od t57 t41.1).bind λzs59 =>
 (bL p0.1 zs59).bind λt60 =>
 cond (!t60.2) (some []) (some t60.1))) (λr=>some r)))
def ie:FL:=(94,⟨[.val true qu false],[.val false qA (some true)],λa=>ef a⟩)::ic
theorem lI:Gd ie:=nV lH 94 Tryz.f94 [(0,⟨⟨[(3,false,[.own 1000000000]),(18,false,[dI])],[(1000000000,.root (.one (.int .u8)) true)]⟩,
 ⟨[(3,false,[.own 1000000300])],[(1000000300,.root (.one (.int .u8)) true)]⟩,some ⟨[(2,false,[.own 1000000600])],[(1000000600,.root (.one (.int .u8)) true)]⟩⟩)] Tryz.func94
def aF (p0:oe):Option Bool :=
 (ef p0).bind λt4 =>
 (ae (t4.length:Int) 1 120).bind λt6 =>
 some t6
def ig:FL:=(18,⟨[.val true qu false],[.val false oL (some true)],λa=>aF a⟩)::ie
theorem lJ:Gd ig:=nV lI 18 Tryz.f18 [] Tryz.func18
def bq (n0:Int):Option Bool :=
 (ae n0 0 1000000).bind λt4 =>
 some t4
def ii:FL:=(134,⟨[.val false nR false],[.val false oL (some true)],λa=>bq a⟩)::ig
theorem lK:Gd ii:=nV lJ 134 Tryz.f134 [] Tryz.func134
def bN (v0:tP):Option Bool :=
 (ae v0.1 1 99).bind λt5 =>
 (cond t5
 ((ae v0.2.1 0 100000).bind λt9 =>
 some t9)
 (some false)).bind λt10 =>
 (cond t10
 ((ae v0.2.2.1 0 10).bind λt14 =>
 some t14)
 (some false)).bind λt15 =>
 (cond t15
 ((ae v0.2.2.2.1 1 99).bind λt19 =>
 some t19)
 (some false)).bind λt20 =>
 (cond t20
 ((ae v0.2.2.2.2 0 7).bind λt24 =>
 some t24)
 (some false)).bind λt25 =>
 some t25
def ij:FL:=(275,⟨[.val true se false],[.val false oL (some true)],λa=>bN a⟩)::ii
theorem lL:Gd ij:=nV lK 275 Tryz.f275 [] Tryz.func275
def dg (p0:Pt):Option Bool :=
 (ae p0.2.1 1 1000).bind λt5 =>
 (cond (!t5)
 (some true)
 ((cond p0.2.2.1 (some (!p0.1)) (some false)).bind λt14 =>
 some t14)).bind λt15 =>
 cond t15
 (some false)
 (cond p0.2.2.1
 ((bN p0.2.2.2).bind λt20 =>
 some t20)
 (let t2:=p0.2.2.2.1==0&&(p0.2.2.2.2.1==0&&(p0.2.2.2.2.2.1==0&&(p0.2.2.2.2.2.2.1==0&&(p0.2.2.2.2.2.2.2==0))))
 some t2))
def il:FL:=(168,⟨[.val true pI false],[.val false oL (some true)],λa=>dg a⟩)::ij
theorem lM:Gd il:=nV lL 168 Tryz.f168 [] Tryz.func168
def cq (e0:nO):Option Bool :=
 (ae e0.1 1 99).bind λt5 =>
 (cond t5
 ((ae e0.2.1 1 9999).bind λt9 =>
 some t9)
 (some false)).bind λt10 =>
 (cond t10
 ((ae e0.2.2.1 0 7).bind λt14 =>
 some t14)
 (some false)).bind λt15 =>
 (cond t15
 ((ae e0.2.2.2.1 0 4).bind λt19 =>
 some t19)
 (some false)).bind λt20 =>
 (cond t20
 ((cond (!e0.2.2.2.2) (some true) (some (e0.2.2.2.1==0))).bind λt29 =>
 some t29)
 (some false)).bind λt30 =>
 some t30
def im:FL:=(276,⟨[.val true og false],[.val false oL (some true)],λa=>cq a⟩)::il
theorem lN:Gd im:=nV lM 276 Tryz.f276 [] Tryz.func276
def dh (e0:nO) (tag1:Int) (mac2:Int):Option Bool :=
 (cond (decide (e0.1>tag1))
 (some true)
 ((cond (e0.1==tag1) (some (decide (e0.2.1>mac2))) (some false)).bind λt21 =>
 some t21)).bind λt22 =>
 some t22
def ip:FL:=(277,⟨[.val true og false,.val false nR false,.val false nR false],[.val false oL (some true)],λa=>dh a.1 a.2.1 a.2.2⟩)::im
theorem lO:Gd ip:=nV lN 277 Tryz.f277 [] Tryz.func277
def fj (l0:List nO) (t7:Int):Option (Int⊕(Unit⊕Bool)) :=
 cond (decide (t7<(l0.length:Int)))
 ((at? l0 t7).bind λx10 =>
 (cq x10).bind λt13 =>
 (cond (!t13)
 (some true)
 ((cond (decide (t7>0))
 ((at? l0 (nK (t7-1))).bind λx23 =>
 (at? l0 (nK (t7-1))).bind λx29 =>
 (dh x10 x23.1 x29.2.1).bind λt32 =>
 some (!t32))
 (some false)).bind λt34 =>
 some t34)).bind λt35 =>
 cond t35 (some (.inr (.inr false))) (some (.inl (nK (t7+1)))))
 (some (.inr (.inl ())))
def eg (l0:List nO):Option Bool :=
 (loop (λz=>fj l0 z) 0).bind (Sum.elim (λd =>
 let t2:=decide ((l0.length:Int)<=12)
 some t2) (λr=>some r))
def iq:FL:=(169,⟨[.val false (.one (.sl og)) false],[.val false oL (some true)],λa=>eg a⟩)::ip
theorem lP:Gd iq:=nV lO 169 Tryz.f169 [(0,⟨⟨(7,false,[dI])::us 16 19 [],[]⟩,
 ⟨[],[]⟩,some ⟨[(2,false,[dB])],[]⟩⟩)] Tryz.func169
def dj (ports0:Int):Option Int :=
 (shl .i64 1 ports0).bind λt4 =>
 some (nK (t4-1))
def ir:FL:=(278,⟨[.val false nR false],[.val false nR (some true)],λa=>dj a⟩)::iq
theorem lQ:Gd ir:=nV lP 278 Tryz.f278 [] Tryz.func278
def ax (v0:oy) (id1:Int) (t10:Int):Option (Int⊕(Unit⊕Int)) :=
 cond (decide (t10<(v0.1.length:Int)))
 ((at? v0.1 t10).bind λx13 =>
 cond (x13.1==id1) (some (.inr (.inr t10))) (some (.inl (nK (t10+1)))))
 (some (.inr (.inl ())))
def al (v0:oy) (id1:Int):Option Int :=
 (loop (λz=>ax v0 id1 z) 0).bind (Sum.elim (λd =>
 some (-1)) (λr=>some r))
def iu:FL:=(279,⟨[.val true pC false,.val false nR false],[.val false nR (some true)],λa=>al a.1 a.2⟩)::ir
theorem lR:Gd iu:=nV lQ 279 Tryz.f279 [(0,⟨⟨[(10,false,[dI])],[]⟩,
 ⟨[],[]⟩,some ⟨[(4,false,[dI])],[]⟩⟩)] Tryz.func279
def fk (p0:oy) (i1:Int) (t28:Int):Option (Int⊕(Unit⊕Bool)) :=
 cond (decide (t28<(p0.1.length:Int)))
 ((at? p0.1 t28).bind λx31 =>
 (ae x31.1 1 99).bind λt35 =>
 (cond (!t35)
 (some true)
 ((cond (decide (t28>0))
 ((at? p0.1 (nK (t28-1))).bind λx45 =>
 some (decide (x45.1>=x31.1)))
 (some false)).bind λt51 =>
 some t51)).bind λt52 =>
 (cond t52
 (some true)
 ((dj i1).bind λt57 =>
 (ae x31.2.1 0 t57).bind λt58 =>
 some (!t58))).bind λt60 =>
 (cond t60 (some true) (some ((vP .i64 x31.2.2 x31.2.1) != 0))).bind λt68 =>
 cond t68 (some (.inr (.inr false))) (some (.inl (nK (t28+1)))))
 (some (.inr (.inl ())))
def eh (p0:oy) (t73:Int):Option (Int⊕(Unit⊕Bool)) :=
 cond (decide (t73<(p0.2.length:Int)))
 ((at? p0.2 t73).bind λx75 =>
 (al p0 x75).bind λt79 =>
 cond (decide (t79<0)) (some (.inr (.inr false))) (some (.inl (nK (t73+1)))))
 (some (.inr (.inl ())))
def cr (p0:oy) (i1:Int):Option Bool :=
 (ae i1 1 6).bind λt10 =>
 (cond (!t10) (some true) (some ((p0.2.length:Int) != i1))).bind λt18 =>
 (cond t18 (some true) (some (decide ((p0.1.length:Int)>6)))).bind λt24 =>
 cond t24
 (some false)
 ((loop (λz=>fk p0 i1 z) 0).bind (Sum.elim (λd =>
 (loop (λz=>eh p0 z) 0).bind (Sum.elim (λd_1 =>
 some true) (λr=>some r))) (λr_1=>some r_1)))
def iv:FL:=(170,⟨[.val true pC false,.val false nR false],[.val false oL (some true)],λa=>cr a.1 a.2⟩)::iu
theorem lS:Gd iv:=nV lR 170 Tryz.f170 [(0,⟨⟨(28,false,[dI])::us 38 14 (us 54 6 (us 62 6 [])),[]⟩,
 ⟨[],[]⟩,some ⟨[(4,false,[dB])],[]⟩⟩),
 (2,⟨⟨[(73,false,[dI])],[]⟩,
 ⟨[],[]⟩,some ⟨[(4,false,[dB])],[]⟩⟩)] Tryz.func170
def fm (p0:nI) (t8:Int):Option (Int⊕(Unit⊕Bool)) :=
 cond (decide (t8<(p0.2.2.1.length:Int)))
 ((at? p0.2.2.1 t8).bind λx10 =>
 (dg x10).bind λt13 =>
 cond (!t13) (some (.inr (.inr false))) (some (.inl (nK (t8+1)))))
 (some (.inr (.inl ())))
def ct (p0:nI):Option Bool :=
 (loop (λz=>fm p0 z) 0).bind (Sum.elim (λd =>
 (ae p0.1 1 99).bind λt18 =>
 (cond (!t18) (some true) (some (decide ((p0.2.1.length:Int)>10)))).bind λt25 =>
 (cond t25
 (some true)
 ((ae (p0.2.2.1.length:Int) 1 6).bind λt30 =>
 some (!t30))).bind λt32 =>
 (cond t32
 (some true)
 ((eg p0.2.2.2.1).bind λt36 =>
 some (!t36))).bind λt38 =>
 (cond t38
 (some true)
 ((cr (p0.2.2.2.2.1,p0.2.2.2.2.2.1) (p0.2.2.1.length:Int)).bind λt45 =>
 some (!t45))).bind λt47 =>
 cond t47
 (some false)
 ((bq p0.2.2.2.2.2.2.1).bind λt50 =>
 (cond t50
 ((bq p0.2.2.2.2.2.2.2.1).bind λt54 =>
 some t54)
 (some false)).bind λt55 =>
 (cond t55
 ((bq p0.2.2.2.2.2.2.2.2.1).bind λt59 =>
 some t59)
 (some false)).bind λt60 =>
 (cond t60
 ((bq p0.2.2.2.2.2.2.2.2.2.1).bind λt64 =>
 some t64)
 (some false)).bind λt65 =>
 (cond t65
 ((bq p0.2.2.2.2.2.2.2.2.2.2).bind λt69 =>
 some t69)
 (some false)).bind λt70 =>
 some t70)) (λr=>some r))
def iw:FL:=(77,⟨[.val true o6 false],[.val false oL (some true)],λa=>ct a⟩)::iv
theorem lT:Gd iw:=nV lS 77 Tryz.f77 [(0,⟨⟨[(8,false,[dI])],[]⟩,
 ⟨[],[]⟩,some ⟨[(2,false,[dB])],[]⟩⟩)] Tryz.func77
def ay (v0:qB) (name1:List Int):Option nJ :=
 (od ([1,3,1]:List Int) name1).bind λzs7 =>
 some (zs7,v0.1,v0.2.1,v0.2.2.1,v0.2.2.2)
def iy:FL:=(187,⟨[.val true sf false,.val false pH false],[.val true nU none],λa=>ay a.1 a.2⟩)::iw
theorem lU:Gd iy:=nV lT 187 Tryz.f187 [] Tryz.func187
def aK (n0:Int):Option qB :=
 some (2,n0,[],[])
def iz:FL:=(188,⟨[.val false nR false],[.val true sf (some true)],λa=>aK a⟩)::iy
theorem lV:Gd iz:=nV lU 188 Tryz.f188 [] Tryz.func188
def dk (is0:Bool):Option Int :=
 cond is0 (some 1) (some 0)
def iA:FL:=(294,⟨[.val false oL false],[.val false nR (some true)],λa=>dk a⟩)::iz
theorem lW:Gd iA:=nV lV 294 Tryz.f294 [] Tryz.func294
def cu (a0:tP) (b1:tP):Option Bool :=
 cond (a0.1 != b1.1)
 (some (decide (a0.1<b1.1)))
 (cond (a0.2.1 != b1.2.1)
 (some (decide (a0.2.1<b1.2.1)))
 (cond (a0.2.2.2.1 != b1.2.2.2.1)
 (let t4:=decide (a0.2.2.2.1<b1.2.2.2.1)
 some t4)
 (let t4_1:=decide (a0.2.2.2.2<b1.2.2.2.2)
 some t4_1)))
def iB:FL:=(345,⟨[.val true se false,.val true se false],[.val false oL (some true)],λa=>cu a.1 a.2⟩)::iA
theorem lX:Gd iB:=nV lW 345 Tryz.f345 [] Tryz.func345
def dl (v0:tP) (cost1:Int):Option (tP×Bool) :=
 (bN v0).bind λt8 =>
 (cond (!t8)
 (some true)
 ((ae cost1 1 1000).bind λt12 =>
 some (!t12))).bind λt14 =>
 cond t14
 (some (v0,false))
 ((bN (v0.1,nK (v0.2.1+cost1),nK (v0.2.2.1+1),v0.2.2.2.1,v0.2.2.2.2)).bind λt27 =>
 cond (!t27)
 (some (v0,false))
 (some ((v0.1,nK (v0.2.1+cost1),nK (v0.2.2.1+1),v0.2.2.2.1,v0.2.2.2.2),true)))
def iC:FL:=(364,⟨[.val true se false,.val false nR false],[.val true se (some true),.val false oL (some true)],λa=>dl a.1 a.2⟩)::iB
theorem lY:Gd iC:=nV lX 364 Tryz.f364 [] Tryz.func364
def cw (p0:Int) (i1:List Pt) (t7:Int) (t18:Int) (b0:Int) (b1:Int) (b2:Int) (b3:Int) (b4:Int) (b0_1:Int) (b1_1:Int) (b2_1:Int) (b3_1:Int) (b4_1:Int):Option ((Int×Int×Int×Int×Int×Int×Int×Int×Int×Int×Int×Int)⊕(Int×Int×Int×Int×Int×Int×Int×Int×Int×Int×Int)) :=
 cond (decide (t18<(i1.length:Int)))
 ((at? i1 t18).bind λx21 =>
 (cond (!x21.1) (some true) (some (!x21.2.2.1))).bind λt30 =>
 cond t30
 (some (.inl (t7,nK (t18+1),b0,b1,b2,b3,b4,b0_1,b1_1,b2_1,b3_1,b4_1)))
 ((dl x21.2.2.2 x21.2.1).bind λt36 =>
 (cond t36.2 (some (decide (t36.1.1<p0))) (some false)).bind λt45 =>
 (cond t45
 ((cond (decide (t7<0))
 (some true)
 ((cu t36.1 (b0_1,b1_1,b2_1,b3_1,b4_1)).bind λt52 =>
 some t52)).bind λt53 =>
 some t53)
 (some false)).bind λt54 =>
 cond t54
 (some (.inl (t18,nK (t18+1),t36.1.1,t36.1.2.1,t36.1.2.2.1,p0,0,t36.1.1,t36.1.2.1,t36.1.2.2.1,t36.1.2.2.2.1,t36.1.2.2.2.2)))
 (some (.inl (t7,nK (t18+1),b0,b1,b2,b3,b4,b0_1,b1_1,b2_1,b3_1,b4_1)))))
 (some (.inr (t7,b0,b1,b2,b3,b4,b0_1,b1_1,b2_1,b3_1,b4_1)))
def bb (p0:Int) (i1:List Pt):Option (tP×Int) :=
 (loop (λz=>cw p0 i1 z.1 z.2.1 z.2.2.1 z.2.2.2.1 z.2.2.2.2.1 z.2.2.2.2.2.1 z.2.2.2.2.2.2.1 z.2.2.2.2.2.2.2.1 z.2.2.2.2.2.2.2.2.1 z.2.2.2.2.2.2.2.2.2.1 z.2.2.2.2.2.2.2.2.2.2.1 z.2.2.2.2.2.2.2.2.2.2.2) ((-1),0,p0,0,0,p0,0,0,0,0,0,0)).bind λd =>
 some ((d.2.1,d.2.2.1,d.2.2.2.1,d.2.2.2.2.1,d.2.2.2.2.2.1),d.1)
def iD:FL:=(344,⟨[.val false nR false,.val false (.one (.sl pI)) false],[.val true se (some true),.val false nR (some true)],λa=>bb a.1 a.2⟩)::iC
theorem lZ:Gd iD:=nV lY 344 Tryz.f344 [(0,⟨⟨(7,false,[dI])::(18,false,[dI])::us 27 3 (us 41 4 (us 47 7 [])),[(266240,.box [dI,dI,dI,dI,dI]),(525312,.box [dI,dI,dI,dI,dI])]⟩,
 ⟨[(7,false,[dI])],[(266240,.box [dI,dI,dI,dI,dI]),(525312,.box [dI,dI,dI,dI,dI])]⟩,none⟩)] Tryz.func344
def dq (id0:Int) (l1:List Pt) (port2:Int):Option tP :=
 (bb id0 l1).bind λt12 =>
 some (t12.1.1,t12.1.2.1,t12.1.2.2.1,t12.1.2.2.2.1,port2)
def iE:FL:=(346,⟨[.val false nR false,.val false (.one (.sl pI)) false,.val false nR false],[.val true se (some true)],λa=>dq a.1 a.2.1 a.2.2⟩)::iD
theorem m0:Gd iE:=nV lZ 346 Tryz.f346 [] Tryz.func346
def aG (id0:Int) (l1:List Pt) (port2:Int):Option Int :=
 (ae port2 0 (nK ((l1.length:Int)-1))).bind λt13 =>
 (cond (!t13)
 (some true)
 ((at? l1 port2).bind λx18 =>
 some (!x18.1))).bind λt22 =>
 cond t22
 (some 4)
 ((bb id0 l1).bind λt26 =>
 cond (t26.2==port2)
 (some 1)
 ((at? l1 port2).bind λx36 =>
 (cond (!x36.2.2.1)
 (some true)
 ((dq id0 l1 port2).bind λt44 =>
 (at? l1 port2).bind λx47 =>
 (cu t44 x47.2.2.2).bind λt50 =>
 some t50)).bind λt51 =>
 cond t51 (some 2) (some 3)))
def iF:FL:=(295,⟨[.val false nR false,.val false (.one (.sl pI)) false,.val false nR false],[.val false nR (some true)],λa=>aG a.1 a.2.1 a.2.2⟩)::iE
theorem m3:Gd iF:=nV m0 295 Tryz.f295 [] Tryz.func295
def br (b0:nI) (c1:Int) (p2:Int):Option Int :=
 cond (c1==1)
 ((at? b0.2.2.1 p2).bind λx13 =>
 (dk x13.1).bind λt16 =>
 some t16)
 (cond (c1==2)
 ((at? b0.2.2.1 p2).bind λx22 =>
 some x22.2.1)
 (cond (c1==3)
 ((aG b0.1 b0.2.2.1 p2).bind λt32 =>
 some t32)
 ((at? b0.2.2.2.2.2.1 p2).bind λx37 =>
 some x37)))
def iG:FL:=(189,⟨[.val true o6 false,.val false nR false,.val false nR false],[.val false nR (some true)],λa=>br a.1 a.2.1 a.2.2⟩)::iF
theorem m4:Gd iG:=nV m3 189 Tryz.f189 [] Tryz.func189
def iH (p0:nI) (t32:Int) (t3:List nJ):Option ((Int×List nJ)⊕(List nJ)) :=
 cond (decide (t32<([p0.2.2.2.2.2.2.1,p0.2.2.2.2.2.2.2.1,p0.2.2.2.2.2.2.2.2.1,p0.2.2.2.2.2.2.2.2.2.1].length:Int)))
 ((ix [p0.2.2.2.2.2.2.1,p0.2.2.2.2.2.2.2.1,p0.2.2.2.2.2.2.2.2.1,p0.2.2.2.2.2.2.2.2.2.1].length t32).bind λj35 =>
 ([p0.2.2.2.2.2.2.1,p0.2.2.2.2.2.2.2.1,p0.2.2.2.2.2.2.2.2.1,p0.2.2.2.2.2.2.2.2.2.1][j35]?).bind λx36 =>
 (aK x36).bind λt39 =>
 (ay t39 [1,nK (t32+2)]).bind λt43 =>
 (od t3 [t43]).bind λzs45 =>
 some (.inl (nK (t32+1),zs45)))
 (some (.inr t3))
def bc (p0:nI) (t6:Int) (t54:Int) (t3_3:List nJ):Option ((Int×List nJ)⊕(List nJ)) :=
 cond (decide (t54<(p0.2.2.1.length:Int)))
 ((br p0 t6 t54).bind λt61 =>
 (aK t61).bind λt62 =>
 (ay t62 [2,t6,nK (t54+1)]).bind λt67 =>
 (od t3_3 [t67]).bind λzs69 =>
 some (.inl (nK (t54+1),zs69)))
 (some (.inr t3_3))
def bt (p0:nI) (t6:Int) (t3_2:List nJ):Option ((Int×List nJ)⊕(List nJ)) :=
 cond (decide (t6<=4))
 ((loop (λz=>bc p0 t6 z.1 z.2) (0,t3_2)).bind λd_1 =>
 some (.inl (nK (t6+1),d_1)))
 (some (.inr t3_2))
def bd (p0:nI) (t8:Int) (t79:Int) (t3_7:List nJ):Option ((Int×List nJ)⊕(List nJ)) :=
 cond (decide (t79<(p0.2.2.2.2.1.length:Int)))
 ((at? p0.2.2.2.2.1 t79).bind λx81 =>
 (ix [1,x81.2.1,x81.2.2].length (nK (t8-1))).bind λj91 =>
 ([1,x81.2.1,x81.2.2][j91]?).bind λx92 =>
 (aK x92).bind λt93 =>
 (ay t93 [3,t8,x81.1]).bind λt98 =>
 (od t3_7 [t98]).bind λzs100 =>
 some (.inl (nK (t79+1),zs100)))
 (some (.inr t3_7))
def bu (p0:nI) (t8:Int) (t3_6:List nJ):Option ((Int×List nJ)⊕(List nJ)) :=
 cond (decide (t8<=3))
 ((loop (λz=>bd p0 t8 z.1 z.2) (0,t3_6)).bind λd_3 =>
 some (.inl (nK (t8+1),d_3)))
 (some (.inr t3_6))
def aU (p0:nI) (t105:Int) (t3_10:List nJ):Option ((Int×List nJ)⊕(List nJ)) :=
 cond (decide (t105<(p0.2.2.2.1.length:Int)))
 ((at? p0.2.2.2.1 t105).bind λx107 =>
 (aK (nK (x107.2.2.1+1))).bind λt113 =>
 (ay t113 [4,1,x107.1,x107.2.1]).bind λt119 =>
 (od t3_10 [t119]).bind λzs121 =>
 some (.inl (nK (t105+1),zs121)))
 (some (.inr t3_10))
def bf (p0:nI):Option (List nJ) :=
 (ct p0).bind λt14 =>
 cond (!t14)
 (some [])
 ((ay (4,0,p0.2.1,[]) ([1,1]:List Int)).bind λt20 =>
 (loop (λz=>iH p0 z.1 z.2) (0,[t20])).bind λd =>
 (loop (λz=>bt p0 z.1 z.2) (1,d)).bind λd_2 =>
 (loop (λz=>bu p0 z.1 z.2) (1,d_2)).bind λd_4 =>
 (loop (λz=>aU p0 z.1 z.2) (0,d_4)).bind λd_5 =>
 some d_5)
def iI:FL:=(95,⟨[.val true o6 false],[.val false (.one (.sl nU)) none],λa=>bf a⟩)::iG
theorem m5:Gd iI:=nV m4 95 Tryz.f95 [(0,⟨⟨[(3,false,[.own 1000000000]),(32,false,[dI])],[(1000000000,.root nU false)]⟩,
 ⟨[(3,false,[.own 1000000300])],[(1000000300,.root nU false)]⟩,none⟩),
 (2,⟨⟨[(3,false,[.own 1000002000]),(6,false,[dI])],[(1000002000,.root nU false)]⟩,
 ⟨[(3,false,[.own 1000002300])],[(1000002300,.root nU false)]⟩,none⟩),
 (4,⟨⟨[(3,false,[.own 1000004000]),(54,false,[dI])],[(1000004000,.root nU false)]⟩,
 ⟨[(3,false,[.own 1000004300])],[(1000004300,.root nU false)]⟩,none⟩),
 (6,⟨⟨[(3,false,[.own 1000006000]),(8,false,[dI])],[(1000006000,.root nU false)]⟩,
 ⟨[(3,false,[.own 1000006300])],[(1000006300,.root nU false)]⟩,none⟩),
 (8,⟨⟨[(3,false,[.own 1000008000]),(79,false,[dI])],[(1000008000,.root nU false)]⟩,
 ⟨[(3,false,[.own 1000008300])],[(1000008300,.root nU false)]⟩,none⟩),
 (10,⟨⟨[(3,false,[.own 1000010000]),(105,false,[dI])],[(1000010000,.root nU false)]⟩,
 ⟨[(3,false,[.own 1000010300])],[(1000010300,.root nU false)]⟩,none⟩)] Tryz.func95
def aV (o1:List Int) (t8:List nJ) (t10:Int) (b0_1:Int) (b1:Int) (b2:List UInt8) (b3:List Int):Option ((Int×Int×Int×List UInt8×List Int)⊕((Int×Int×List UInt8×List Int)⊕(Int×Int×List UInt8×List Int))) :=
 cond (decide (t10<(t8.length:Int)))
 ((at? t8 t10).bind λx12 =>
 (am x12.1 o1).bind λt17 =>
 cond t17
 (some (.inr (.inr x12.2)))
 (some (.inl (nK (t10+1),b0_1,b1,b2,b3))))
 (some (.inr (.inl (b0_1,b1,b2,b3))))
def bg (b0:nI) (o1:List Int):Option qB :=
 (bf b0).bind λt8 =>
 (loop (λz=>aV o1 t8 z.1 z.2.1 z.2.2.1 z.2.2.2.1 z.2.2.2.2) (0,0,0,[],[])).bind (Sum.elim (λd =>
 some (128,0,[],[])) (λr=>some r))
def iJ:FL:=(21,⟨[.val true o6 false,.val false pH false],[.val true sf none],λa=>bg a.1 a.2⟩)::iI
theorem m6:Gd iJ:=nV m5 21 Tryz.f21 [(0,⟨⟨[(10,false,[dI])],[(2048,.box [dI,dI,dS,.own 1000000000]),(1000000000,.root nR true)]⟩,
 ⟨[],[(2048,.box [dI,dI,dS,.own 1000000300]),(1000000300,.root nR true)]⟩,some ⟨[],[(2048,.box [dI,dI,dS,.dat (.sl nR)])]⟩⟩)] Tryz.func21
def aL (l0:List Int):Option (List Int) :=
 (od [] l0).bind λzs4 =>
 some zs4
def iK:FL:=(78,⟨[.val false pH false],[.val false pH (some true)],λa=>aL a⟩)::iJ
theorem m7:Gd iK:=nV m6 78 Tryz.f78 [] Tryz.func78
def cz (a0:List Int) (b1:List Int) (i5:Int):Option (Int⊕(Unit⊕Bool)) :=
 (cond (decide (i5<(a0.length:Int))) (some (decide (i5<(b1.length:Int)))) (some false)).bind λt15 =>
 cond t15
 ((at? a0 i5).bind λx20 =>
 (at? b1 i5).bind λx24 =>
 cond (x20 != x24)
 ((at? a0 i5).bind λx29 =>
 (at? b1 i5).bind λx33 =>
 some (.inr (.inr (decide (x29<x33)))))
 (some (.inl (nK (i5+1)))))
 (some (.inr (.inl ())))
def dt (a0:List Int) (b1:List Int):Option Bool :=
 (loop (λz=>cz a0 b1 z) 0).bind (Sum.elim (λd =>
 let t4:=decide ((a0.length:Int)<(b1.length:Int))
 some t4) (λr=>some r))
def iL:FL:=(96,⟨[.val false pH false,.val false pH false],[.val false oL (some true)],λa=>dt a.1 a.2⟩)::iK
theorem m8:Gd iL:=nV m7 96 Tryz.f96 [(0,⟨⟨(5,false,[dI])::us 11 4 [],[]⟩,
 ⟨[],[]⟩,some ⟨[(4,false,[dB])],[]⟩⟩)] Tryz.func96
def bv (o1:List Int) (t8:List nJ) (t10:Int) (b1:Int) (b2:Int) (b3:List UInt8) (b0_1:List Int) (b4:List Int):Option ((Int×Int×Int×List UInt8×List Int×List Int)⊕((Int×Int×List UInt8×List Int×List Int)⊕(List Int×Int×Int×List UInt8×List Int))) :=
 cond (decide (t10<(t8.length:Int)))
 ((at? t8 t10).bind λx12 =>
 (dt o1 x12.1).bind λt17 =>
 cond t17
 (some (.inr (.inr x12)))
 (some (.inl (nK (t10+1),b1,b2,b3,b0_1,b4))))
 (some (.inr (.inl (b1,b2,b3,b0_1,b4))))
def aM (b0:nI) (o1:List Int):Option nJ :=
 (bf b0).bind λt8 =>
 (loop (λz=>bv o1 t8 z.1 z.2.1 z.2.2.1 z.2.2.2.1 z.2.2.2.2.1 z.2.2.2.2.2) (0,0,0,[],[],[])).bind (Sum.elim (λd =>
 (aL o1).bind λt21 =>
 some (t21,130,0,[],[])) (λr=>some r))
def iM:FL:=(22,⟨[.val true o6 false,.val false pH false],[.val true nU none],λa=>aM a.1 a.2⟩)::iL
theorem m9:Gd iM:=nV m8 22 Tryz.f22 [(0,⟨⟨[(10,false,[dI])],[(2048,.box [.own 1000000000,dI,dI,dS,.own 1000000001]),(1000000000,.root nR true),(1000000001,.root nR true)]⟩,
 ⟨[],[(2048,.box [.own 1000000300,dI,dI,dS,.own 1000000301]),(1000000300,.root nR true),(1000000301,.root nR true)]⟩,some ⟨[],[(2048,.box [.dat (.sl nR),dI,dI,dS,.dat (.sl nR)])]⟩⟩)] Tryz.func22
def ei (l0:List nO):Option (List nO) :=
 (od [] l0).bind λzs4 =>
 some zs4
def iN:FL:=(166,⟨[.val false (.one (.sl og)) false],[.val false (.one (.sl og)) (some true)],λa=>ei a⟩)::iM
theorem ma:Gd iN:=nV m9 166 Tryz.f166 [] Tryz.func166
def cA (v0:oy):Option oy :=
 (od [] v0.1).bind λzs5 =>
 (aL v0.2).bind λt8 =>
 some (zs5,t8)
def iO:FL:=(167,⟨[.val true pC false],[.val true pC (some true)],λa=>cA a⟩)::iN
theorem mb:Gd iO:=nV ma 167 Tryz.f167 [] Tryz.func167
def aH (b0:nI):Option nI :=
 (od [] b0.2.2.1).bind λzs5 =>
 (ei b0.2.2.2.1).bind λt9 =>
 (cA (b0.2.2.2.2.1,b0.2.2.2.2.2.1)).bind λt12 =>
 some (b0.1,b0.2.1,zs5,t9,t12.1,t12.2,b0.2.2.2.2.2.2.1,b0.2.2.2.2.2.2.2.1,b0.2.2.2.2.2.2.2.2.1,b0.2.2.2.2.2.2.2.2.2.1,b0.2.2.2.2.2.2.2.2.2.2)
def iP:FL:=(76,⟨[.val true o6 false],[.val true o6 (some true)],λa=>aH a⟩)::iO
theorem mc:Gd iP:=nV mb 76 Tryz.f76 [] Tryz.func76
def cB (p0:nI) (t24:List nJ) (t26:Int) (t5:List nJ):Option ((Int×List nJ)⊕(List nJ)) :=
 cond (decide (t26<(t24.length:Int)))
 ((at? t24 t26).bind λx28 =>
 (aM p0 x28.1).bind λt34 =>
 (od t5 [t34]).bind λzs36 =>
 some (.inl (nK (t26+1),zs36)))
 (some (.inr t5))
def cC (t41:List nJ) (t43:Int) (t9:List (List Int)):Option ((Int×List (List Int))⊕(List (List Int))) :=
 cond (decide (t43<(t41.length:Int)))
 ((at? t41 t43).bind λx45 =>
 (od t9 [x45.1]).bind λzs51 =>
 some (.inl (nK (t43+1),zs51)))
 (some (.inr t9))
def bO (p0:nI) (l:List (List Int)) (t71:Int) (t5_3:List nJ) (l_1:List (List Int)):Option ((Int×List nJ×List (List Int))⊕(List nJ×List (List Int))) :=
 cond (decide (t71<(l.length:Int)))
 (cond (decide ((t5_3.length:Int)>=10))
 (some (.inr (t5_3,l_1)))
 ((ix l_1.length t71).bind λj80 =>
 (l_1[j80]?).bind λx81 =>
 (aM p0 x81).bind λt82 =>
 (ix l_1.length t71).bind λj87 =>
 (l_1[j87]?).bind λx =>
 (od t5_3 [t82]).bind λzs91 =>
 some (.inl (nK (t71+1),zs91,l_1.set j87 t82.1))))
 (some (.inr (t5_3,l_1)))
def bh (p0:nI) (i1:oe) (t12:Int) (t5_2:List nJ) (l:List (List Int)):Option ((Int×List nJ×List (List Int))⊕(List nJ×List (List Int))) :=
 (cond (decide (t12<i1.2.2.2.1)) (some (decide ((l.length:Int)>0))) (some false)).bind λt61 =>
 (cond t61 (some (decide ((t5_2.length:Int)<10))) (some false)).bind λt66 =>
 cond t66
 ((loop (λz=>bO p0 l z.1 z.2.1 z.2.2) (0,t5_2,l)).bind λd_2 =>
 some (.inl (nK (t12+1),d_2.1,d_2.2)))
 (some (.inr (t5_2,l)))
def ej (p0:nI) (i1:oe):Option (List nJ) :=
 let t6:=min2 i1.2.2.1 (i1.2.2.2.2.length:Int)
 (cut i1.2.2.2.2 0 t6).bind λt24 =>
 (loop (λz=>cB p0 t24 z.1 z.2) (0,[])).bind λd =>
 (cut i1.2.2.2.2 t6 (i1.2.2.2.2.length:Int)).bind λt41 =>
 (loop (λz=>cC t41 z.1 z.2) (0,[])).bind λd_1 =>
 (loop (λz=>bh p0 i1 z.1 z.2.1 z.2.2) (0,d,d_1)).bind λd_3 =>
 some d_3.1
def iQ:FL:=(79,⟨[.val true o6 false,.val true qu false],[.val false (.one (.sl nU)) none],λa=>ej a.1 a.2⟩)::iP
theorem md:Gd iQ:=nV mc 79 Tryz.f79 [(0,⟨⟨[(5,false,[.own 1000000000]),(26,false,[dI])],[(1000000000,.root nU false)]⟩,
 ⟨[(5,false,[.own 1000000300])],[(1000000300,.root nU false)]⟩,none⟩),
 (2,⟨⟨[(9,false,[.own 1000002000]),(43,false,[dI])],[(1000002000,.root pH false)]⟩,
 ⟨[(9,false,[.own 1000002300])],[(1000002300,.root pH false)]⟩,none⟩),
 (4,⟨⟨(5,false,[.own 1000004000])::(12,false,[dI])::us 58 3 (us 63 3 []),[(1000004000,.root nU false),(1000002300,.keep pH false)]⟩,
 ⟨[(5,false,[.own 1000004300])],[(1000004300,.root nU false),(1000002300,.keep pH false)]⟩,none⟩),
 (6,⟨⟨[(5,false,[.own 1000006000]),(71,false,[dI])],[(1000006000,.root nU false),(1000002300,.keep pH false)]⟩,
 ⟨[(5,false,[.own 1000006300])],[(1000006300,.root nU false),(1000002300,.keep pH false)]⟩,none⟩)] Tryz.func79
def aI (o0:List Int) (low1:Int) (high2:Int) (head3:List Int):Option Bool :=
 cond ((o0.length:Int)==(nK ((head3.length:Int)+4)))
 ((cut o0 0 (nK ((o0.length:Int)-1))).bind λt20 =>
 (od ([1,3,1]:List Int) head3).bind λzs23 =>
 (am t20 zs23).bind λt24 =>
 (cond t24
 ((at? o0 (nK ((o0.length:Int)-1))).bind λx31 =>
 (ae x31 low1 high2).bind λt35 =>
 some t35)
 (some false)).bind λt36 =>
 some t36)
 ((some false).bind λt36_1 =>
 some t36_1)
def iR:FL:=(335,⟨[.val false pH false,.val false nR false,.val false nR false,.val false pH false],[.val false oL (some true)],λa=>aI a.1 a.2.1 a.2.2.1 a.2.2.2⟩)::iQ
theorem me:Gd iR:=nV md 335 Tryz.f335 [] Tryz.func335
def em (b0:nI) (o1:List Int):Option Bool :=
 (aI o1 1 1 ([1]:List Int)).bind λt11 =>
 (cond t11
 (some true)
 ((aI o1 1 (b0.2.2.1.length:Int) ([2,2]:List Int)).bind λt16 =>
 some t16)).bind λt17 =>
 (cond t17
 (some true)
 ((aI o1 1 (b0.2.2.1.length:Int) ([2,4]:List Int)).bind λt22 =>
 some t22)).bind λt23 =>
 (cond t23
 (some true)
 ((aI o1 1 99 ([3,1]:List Int)).bind λt27 =>
 some t27)).bind λt28 =>
 cond t28
 (some true)
 ((aI o1 1 99 ([3,2]:List Int)).bind λt31 =>
 (cond t31
 (some true)
 ((aI o1 1 99 ([3,3]:List Int)).bind λt35 =>
 some t35)).bind λt36 =>
 (cond t36
 ((at? o1 5).bind λx41 =>
 (al (b0.2.2.2.2.1,b0.2.2.2.2.2.1) x41).bind λt43 =>
 some (decide (t43>=0)))
 (some false)).bind λt45 =>
 some t45)
def iS:FL:=(280,⟨[.val true o6 false,.val false pH false],[.val false oL (some true)],λa=>em a.1 a.2⟩)::iR
theorem mf:Gd iS:=nV me 280 Tryz.f280 [] Tryz.func280
def eo (v0:oy) (r1:nW) (k7:Int):Option (Int⊕Int) :=
 (cond (decide (k7<(v0.1.length:Int)))
 ((at? v0.1 k7).bind λx31 =>
 some (decide (x31.1<=r1.1)))
 (some false)).bind λt37 =>
 cond t37 (some (.inl (nK (k7+1)))) (some (.inr k7))
def du (v0:oy) (r1:nW):Option oy :=
 (cA v0).bind λt9 =>
 (al v0 r1.1).bind λt13 =>
 cond (decide (t13>=0))
 ((ix t9.1.length t13).bind λj20 =>
 (t9.1[j20]?).bind λx =>
 some (t9.1.set j20 r1,t9.2))
 ((loop (λz=>eo v0 r1 z) 0).bind λd =>
 (cut v0.1 0 d).bind λt43 =>
 (od [] t43).bind λzs44 =>
 (od zs44 [r1]).bind λzs47 =>
 (cut v0.1 d (v0.1.length:Int)).bind λt51 =>
 (od zs47 t51).bind λzs52 =>
 some (zs52,t9.2))
def iT:FL:=(360,⟨[.val true pC false,.val true oK false],[.val true pC (some true)],λa=>du a.1 a.2⟩)::iS
theorem mg:Gd iT:=nV mf 360 Tryz.f360 [(0,⟨⟨(7,false,[dI])::us 28 9 [],[]⟩,
 ⟨[(7,false,[dI])],[]⟩,none⟩)] Tryz.func360
def dv (v0:oy) (id1:Int):Option oy :=
 (cA v0).bind λt8 =>
 (al v0 id1).bind λt11 =>
 cond (decide (t11>=0))
 ((cut v0.1 0 t11).bind λt17 =>
 (od [] t17).bind λzs18 =>
 (cut v0.1 (nK (t11+1)) (v0.1.length:Int)).bind λt23 =>
 (od zs18 t23).bind λzs24 =>
 some (zs24,t8.2))
 (some t8)
def iU:FL:=(361,⟨[.val true pC false,.val false nR false],[.val true pC (some true)],λa=>dv a.1 a.2⟩)::iT
theorem mh:Gd iU:=nV mg 361 Tryz.f361 [] Tryz.func361
def ep (p0:nI) (i1:Int) (a2:Int) (a3:Int):Option (nI×Int) :=
 (al (p0.2.2.2.2.1,p0.2.2.2.2.2.1) a2).bind λt15 =>
 cond (i1==1)
 ((cond (a3==4) (some (decide (t15<0))) (some false)).bind λt24 =>
 (cond t24 (some (decide ((p0.2.2.2.2.1.length:Int)<6))) (some false)).bind λt33 =>
 cond t33
 ((du (p0.2.2.2.2.1,p0.2.2.2.2.2.1) (a2,0,0)).bind λt41 =>
 some ((p0.1,p0.2.1,p0.2.2.1,p0.2.2.2.1,t41.1,t41.2,p0.2.2.2.2.2.2.1,p0.2.2.2.2.2.2.2.1,p0.2.2.2.2.2.2.2.2.1,p0.2.2.2.2.2.2.2.2.2.1,p0.2.2.2.2.2.2.2.2.2.2),0))
 ((cond (a3==6) (some (decide (t15>=0))) (some false)).bind λt50 =>
 cond t50
 ((dv (p0.2.2.2.2.1,p0.2.2.2.2.2.1) a2).bind λt57 =>
 some ((p0.1,p0.2.1,p0.2.2.1,p0.2.2.2.1,t57.1,t57.2,p0.2.2.2.2.2.2.1,p0.2.2.2.2.2.2.2.1,p0.2.2.2.2.2.2.2.2.1,p0.2.2.2.2.2.2.2.2.2.1,p0.2.2.2.2.2.2.2.2.2.2),0))
 (some (p0,2))))
 ((dj (p0.2.2.1.length:Int)).bind λt66 =>
 (ae a3 0 t66).bind λt67 =>
 cond (!t67)
 (some (p0,2))
 (cond (i1==2)
 ((ix p0.2.2.2.2.1.length t15).bind λj78 =>
 (p0.2.2.2.2.1[j78]?).bind λx =>
 some ((p0.1,p0.2.1,p0.2.2.1,p0.2.2.2.1,p0.2.2.2.2.1.set j78 (x.1,a3,x.2.2),p0.2.2.2.2.2.1,p0.2.2.2.2.2.2.1,p0.2.2.2.2.2.2.2.1,p0.2.2.2.2.2.2.2.2.1,p0.2.2.2.2.2.2.2.2.2.1,p0.2.2.2.2.2.2.2.2.2.2),0))
 ((ix p0.2.2.2.2.1.length t15).bind λj87 =>
 (p0.2.2.2.2.1[j87]?).bind λx_1 =>
 some ((p0.1,p0.2.1,p0.2.2.1,p0.2.2.2.1,p0.2.2.2.2.1.set j87 (x_1.1,x_1.2.1,a3),p0.2.2.2.2.2.1,p0.2.2.2.2.2.2.1,p0.2.2.2.2.2.2.2.1,p0.2.2.2.2.2.2.2.2.1,p0.2.2.2.2.2.2.2.2.2.1,p0.2.2.2.2.2.2.2.2.2.2),0))))
def iV:FL:=(336,⟨[.ptr o6 (some true),.val false nR false,.val false nR false,.val false nR false],[.val false nR (some true)],λa=>ep a.1 a.2.1 a.2.2.1 a.2.2.2⟩)::iU
theorem mi:Gd iV:=nV mh 336 Tryz.f336 [] Tryz.func336
def fo (p0:nI) (i1:List Int) (a2:qB):Option (nI×Int) :=
 (at? i1 3).bind λx9 =>
 (cond (x9==1) (some (a2.1 != 4)) (some false)).bind λt17 =>
 (cond t17
 (some true)
 ((cond (!(x9==1)) (some (a2.1 != 2)) (some false)).bind λt25 =>
 some t25)).bind λt26 =>
 cond t26
 (some (p0,1))
 (cond (x9==1)
 (cond (decide ((a2.2.2.1.length:Int)>10))
 (some (p0,2))
 (some ((p0.1,a2.2.2.1,p0.2.2.1,p0.2.2.2.1,p0.2.2.2.2.1,p0.2.2.2.2.2.1,p0.2.2.2.2.2.2.1,p0.2.2.2.2.2.2.2.1,p0.2.2.2.2.2.2.2.2.1,p0.2.2.2.2.2.2.2.2.2.1,p0.2.2.2.2.2.2.2.2.2.2),0)))
 ((at? i1 3).bind λx52 =>
 cond (x52==3)
 ((at? i1 4).bind λx57 =>
 (at? i1 5).bind λx60 =>
 (ep p0 x57 x60 a2.2.1).bind λt64 =>
 some t64)
 ((at? i1 4).bind λx67 =>
 cond (x67==2)
 ((ae a2.2.1 1 1000).bind λt72 =>
 cond (!t72)
 (some (p0,2))
 ((at? i1 5).bind λx79 =>
 (ix p0.2.2.1.length (nK (x79-1))).bind λj84 =>
 (p0.2.2.1[j84]?).bind λx =>
 some ((p0.1,p0.2.1,p0.2.2.1.set j84 (x.1,a2.2.1,x.2.2.1,x.2.2.2.1,x.2.2.2.2.1,x.2.2.2.2.2.1,x.2.2.2.2.2.2.1,x.2.2.2.2.2.2.2),p0.2.2.2.1,p0.2.2.2.2.1,p0.2.2.2.2.2.1,p0.2.2.2.2.2.2.1,p0.2.2.2.2.2.2.2.1,p0.2.2.2.2.2.2.2.2.1,p0.2.2.2.2.2.2.2.2.2.1,p0.2.2.2.2.2.2.2.2.2.2),0)))
 ((at? i1 5).bind λx33 =>
 (ix p0.2.2.2.2.2.1.length (nK (x33-1))).bind λj38 =>
 (p0.2.2.2.2.2.1[j38]?).bind λx_1 =>
 some ((p0.1,p0.2.1,p0.2.2.1,p0.2.2.2.1,p0.2.2.2.2.1,p0.2.2.2.2.2.1.set j38 a2.2.1,p0.2.2.2.2.2.2.1,p0.2.2.2.2.2.2.2.1,p0.2.2.2.2.2.2.2.2.1,p0.2.2.2.2.2.2.2.2.2.1,p0.2.2.2.2.2.2.2.2.2.2),0)))))
def iW:FL:=(281,⟨[.ptr o6 (some true),.val false pH false,.val true sf false],[.val false nR (some true)],λa=>fo a.1 a.2.1 a.2.2⟩)::iV
theorem mj:Gd iW:=nV mi 281 Tryz.f281 [] Tryz.func281
def bP (l0:List nO) (tag1:Int) (mac2:Int) (t11:Int):Option (Int⊕(Unit⊕Int)) :=
 cond (decide (t11<(l0.length:Int)))
 ((at? l0 t11).bind λx14 =>
 (cond (x14.1==tag1) (some (x14.2.1==mac2)) (some false)).bind λt25 =>
 cond t25 (some (.inr (.inr t11))) (some (.inl (nK (t11+1)))))
 (some (.inr (.inl ())))
def eq (l0:List nO) (tag1:Int) (mac2:Int):Option Int :=
 (loop (λz=>bP l0 tag1 mac2 z) 0).bind (Sum.elim (λd =>
 some (-1)) (λr=>some r))
def iX:FL:=(337,⟨[.val false (.one (.sl og)) false,.val false nR false,.val false nR false],[.val false nR (some true)],λa=>eq a.1 a.2.1 a.2.2⟩)::iW
theorem ml:Gd iX:=nV mj 337 Tryz.f337 [(0,⟨⟨(11,false,[dI])::us 21 4 [],[]⟩,
 ⟨[],[]⟩,some ⟨[(6,false,[dI])],[]⟩⟩)] Tryz.func337
def es (b0:nI) (o1:List Int):Option Bool :=
 (aI o1 2 5 ([1]:List Int)).bind λt11 =>
 (cond t11
 (some true)
 ((aI o1 1 (b0.2.2.1.length:Int) ([2,1]:List Int)).bind λt16 =>
 some t16)).bind λt17 =>
 (cond t17
 (some true)
 ((aI o1 1 (b0.2.2.1.length:Int) ([2,3]:List Int)).bind λt22 =>
 some t22)).bind λt23 =>
 cond t23
 (some true)
 ((cond ((o1.length:Int)==7)
 ((cut o1 0 5).bind λt29 =>
 (am t29 ([1,3,1,4,1]:List Int)).bind λt31 =>
 some t31)
 (some false)).bind λt32 =>
 (cond t32
 ((at? o1 5).bind λx37 =>
 (at? o1 6).bind λx40 =>
 (eq b0.2.2.2.1 x37 x40).bind λt42 =>
 some (decide (t42>=0)))
 (some false)).bind λt44 =>
 some t44)
def iY:FL:=(282,⟨[.val true o6 false,.val false pH false],[.val false oL (some true)],λa=>es a.1 a.2⟩)::iX
theorem mn:Gd iY:=nV ml 282 Tryz.f282 [] Tryz.func282
def bQ (b0:nI) (x1:nJ):Option (nI×Int) :=
 (em b0 x1.1).bind λt11 =>
 cond t11
 ((fo b0 x1.1 x1.2).bind λt17 =>
 some t17)
 ((es b0 x1.1).bind λt24 =>
 cond t24 (some (b0,4)) (some (b0,3)))
def iZ:FL:=(171,⟨[.ptr o6 (some true),.val true nU false],[.val false nR (some true)],λa=>bQ a.1 a.2⟩)::iY
theorem mo:Gd iZ:=nV mn 171 Tryz.f171 [] Tryz.func171
def dw (n0:Int):Option Int :=
 let t2:=min2 (nK (n0+1)) 1000000
 some t2
def ja:FL:=(130,⟨[.val false nR false],[.val false nR (some true)],λa=>dw a⟩)::iZ
theorem mp:Gd ja:=nV mo 130 Tryz.f130 [] Tryz.func130
def aN (id0:Int) (l1:List Pt) (bits5:Int) (port6:Int):Option ((Int×Int)⊕Int) :=
 (cond (decide (port6<(l1.length:Int))) (some (decide (port6<6))) (some false)).bind λt15 =>
 cond t15
 ((aG id0 l1 port6).bind λt21 =>
 (cond (t21==1) (some true) (some (t21==2))).bind λt27 =>
 cond t27
 ((shl .i64 1 port6).bind λt30 =>
 some (.inl (z0 .i64 bits5 t30,nK (port6+1))))
 (some (.inl (bits5,nK (port6+1)))))
 (some (.inr bits5))
def et (id0:Int) (l1:List Pt):Option Int :=
 (loop (λz=>aN id0 l1 z.1 z.2) (0,0)).bind λd =>
 some d
def jb:FL:=(283,⟨[.val false nR false,.val false (.one (.sl pI)) false],[.val false nR (some true)],λa=>et a.1 a.2⟩)::ja
theorem mq:Gd jb:=nV mp 283 Tryz.f283 [(0,⟨⟨[(5,false,[dI]),(6,false,[dI]),(13,false,[.undef]),(14,false,[.undef]),(25,false,[.undef]),(26,false,[.undef])],[]⟩,
 ⟨[(5,false,[dI])],[]⟩,none⟩)] Tryz.func283
def eu (bits0:Int) (port1:Int):Option Bool :=
 (ae port1 0 62).bind λt6 =>
 (cond t6
 ((shr .i64 bits0 port1).bind λt10 =>
 some ((qL .i64 t10 1)==1))
 (some false)).bind λt13 =>
 some t13
def jc:FL:=(284,⟨[.val false nR false,.val false nR false],[.val false oL (some true)],λa=>eu a.1 a.2⟩)::jb
theorem mr:Gd jc:=nV mq 284 Tryz.f284 [] Tryz.func284
def cD (l0:List nO) (port1:Int) (t10:Int) (out5:List nO):Option ((Int×List nO)⊕(List nO)) :=
 cond (decide (t10<(l0.length:Int)))
 ((at? l0 t10).bind λx12 =>
 (cond x12.2.2.2.2 (some true) (some (x12.2.2.1 != port1))).bind λt21 =>
 cond t21
 ((od out5 [x12]).bind λzs25 =>
 some (.inl (nK (t10+1),zs25)))
 (some (.inl (nK (t10+1),out5))))
 (some (.inr out5))
def ev (l0:List nO) (port1:Int):Option (List nO) :=
 (loop (λz=>cD l0 port1 z.1 z.2) (0,[])).bind λd =>
 some d
def jd:FL:=(285,⟨[.val false (.one (.sl og)) false,.val false nR false],[.val false (.one (.sl og)) (some true)],λa=>ev a.1 a.2⟩)::jc
theorem mt:Gd jd:=nV mr 285 Tryz.f285 [(0,⟨⟨(5,false,[.own 1000000000])::(10,false,[dI])::us 17 4 [],[(1000000000,.root og true)]⟩,
 ⟨[(5,false,[.own 1000000300])],[(1000000300,.root og true)]⟩,none⟩)] Tryz.func285
def ew (b0:nI) (t20:Int) (t26:Int) (b0_1:Int) (b1:List UInt8) (b6:Int) (b7:Int) (b8:Int) (b9:Int) (b10:Int) (b3:List nO):Option ((Int×Int×List UInt8×Int×Int×Int×Int×Int×List nO)⊕(Int×List UInt8×Int×Int×Int×Int×Int×List nO)) :=
 cond (decide (t26<(b0.2.2.1.length:Int)))
 ((eu t20 t26).bind λt31 =>
 cond (!t31)
 ((ev b3 t26).bind λt39 =>
 some (.inl (nK (t26+1),b0_1,b1,b6,b7,b8,b9,b10,t39)))
 (some (.inl (nK (t26+1),b0_1,b1,b6,b7,b8,b9,b10,b3))))
 (some (.inr (b0_1,b1,b6,b7,b8,b9,b10,b3)))
def bR (b0:nI):Option nI :=
 (dw b0.2.2.2.2.2.2.2.2.2.2).bind λt9 =>
 (et b0.1 b0.2.2.1).bind λt20 =>
 (loop (λz=>ew b0 t20 z.1 z.2.1 z.2.2.1 z.2.2.2.1 z.2.2.2.2.1 z.2.2.2.2.2.1 z.2.2.2.2.2.2.1 z.2.2.2.2.2.2.2.1 z.2.2.2.2.2.2.2.2) (0,b0.1,b0.2.1,b0.2.2.2.2.2.2.1,b0.2.2.2.2.2.2.2.1,b0.2.2.2.2.2.2.2.2.1,b0.2.2.2.2.2.2.2.2.2.1,t9,b0.2.2.2.1)).bind λd =>
 some (d.1,d.2.1,b0.2.2.1,d.2.2.2.2.2.2.2,b0.2.2.2.2.1,b0.2.2.2.2.2.1,d.2.2.1,d.2.2.2.1,d.2.2.2.2.1,d.2.2.2.2.2.1,d.2.2.2.2.2.2.1)
def je:FL:=(172,⟨[.ptr o6 (some true)],[],λa=>bR a⟩)::jd
theorem mu:Gd je:=nV mt 172 Tryz.f172 [(0,⟨⟨[(26,false,[dI])],[(1,.box [dI,dS,.same 4,.own 1000000000,.same 6,.same 7,dI,dI,dI,dI,dI]),(1000000000,.root og true)]⟩,
 ⟨[],[(1,.box [dI,dS,.same 4,.own 1000000300,.same 6,.same 7,dI,dI,dI,dI,dI]),(1000000300,.root og true)]⟩,none⟩)] Tryz.func172
def dx (p0:nI) (t25:Int) (x28:nJ) (t32:List nJ) (t34:Int) (b0_2:Int) (b1_2:List UInt8) (b6_2:Int) (b7_2:Int) (b8_2:Int) (b9_2:Int) (b10_2:Int):Option ((Int×Int×List UInt8×Int×Int×Int×Int×Int)⊕((Int×List UInt8×Int×Int×Int×Int×Int)⊕(Int×Int×Int×List UInt8×Int×Int×Int×Int×Int×List Pt×List nO×List nW×List Int))) :=
 cond (decide (t34<(t32.length:Int)))
 ((at? t32 t34).bind λx36 =>
 (am x28.1 x36.1).bind λt42 =>
 cond t42
 ((aH p0).bind λt44 =>
 some (.inr (.inr (5,nK (t25+1),t44.1,t44.2.1,t44.2.2.2.2.2.2.1,t44.2.2.2.2.2.2.2.1,t44.2.2.2.2.2.2.2.2.1,t44.2.2.2.2.2.2.2.2.2.1,t44.2.2.2.2.2.2.2.2.2.2,t44.2.2.1,t44.2.2.2.1,t44.2.2.2.2.1,t44.2.2.2.2.2.1))))
 (some (.inl (nK (t34+1),b0_2,b1_2,b6_2,b7_2,b8_2,b9_2,b10_2))))
 (some (.inr (.inl (b0_2,b1_2,b6_2,b7_2,b8_2,b9_2,b10_2))))
def ez (p0:nI) (i1:List nJ) (t25:Int) (b0:Int) (b1:List UInt8) (b6:Int) (b7:Int) (b8:Int) (b9:Int) (b10:Int) (b0_1:Int) (b1_1:List UInt8) (b6_1:Int) (b7_1:Int) (b8_1:Int) (b9_1:Int) (b10_1:Int) (b2:List Pt) (b3:List nO) (b4:List nW) (b5:List Int) (b2_1:List Pt) (b3_1:List nO) (b4_1:List nW) (b5_1:List Int):Option ((Int×Int×List UInt8×Int×Int×Int×Int×Int×Int×List UInt8×Int×Int×Int×Int×Int×List Pt×List nO×List nW×List Int×List Pt×List nO×List nW×List Int)⊕((Int×List UInt8×Int×Int×Int×Int×Int×Int×List UInt8×Int×Int×Int×Int×Int×List Pt×List nO×List nW×List Int×List Pt×List nO×List nW×List Int)⊕(Int×Int×Int×List UInt8×Int×Int×Int×Int×Int×List Pt×List nO×List nW×List Int))) :=
 cond (decide (t25<(i1.length:Int)))
 ((at? i1 t25).bind λx28 =>
 (cut i1 0 t25).bind λt32 =>
 (loop (λz=>dx p0 t25 x28 t32 z.1 z.2.1 z.2.2.1 z.2.2.2.1 z.2.2.2.2.1 z.2.2.2.2.2.1 z.2.2.2.2.2.2.1 z.2.2.2.2.2.2.2) (0,b0,b1,b6,b7,b8,b9,b10)).bind (Sum.elim (λd =>
 (bQ (b0_1,b1_1,b2_1,b3_1,b4_1,b5_1,b6_1,b7_1,b8_1,b9_1,b10_1) x28).bind λt49 =>
 cond (t49.2 != 0)
 ((aH p0).bind λt53 =>
 some (.inr (.inr (t49.2,nK (t25+1),t53.1,t53.2.1,t53.2.2.2.2.2.2.1,t53.2.2.2.2.2.2.2.1,t53.2.2.2.2.2.2.2.2.1,t53.2.2.2.2.2.2.2.2.2.1,t53.2.2.2.2.2.2.2.2.2.2,t53.2.2.1,t53.2.2.2.1,t53.2.2.2.2.1,t53.2.2.2.2.2.1))))
 (some (.inl (nK (t25+1),d.1,d.2.1,d.2.2.1,d.2.2.2.1,d.2.2.2.2.1,d.2.2.2.2.2.1,d.2.2.2.2.2.2,t49.1.1,t49.1.2.1,t49.1.2.2.2.2.2.2.1,t49.1.2.2.2.2.2.2.2.1,t49.1.2.2.2.2.2.2.2.2.1,t49.1.2.2.2.2.2.2.2.2.2.1,t49.1.2.2.2.2.2.2.2.2.2.2,b2,b3,b4,b5,t49.1.2.2.1,t49.1.2.2.2.1,t49.1.2.2.2.2.1,t49.1.2.2.2.2.2.1)))) (λr=>some (.inr (.inr r)))))
 (some (.inr (.inl (b0,b1,b6,b7,b8,b9,b10,b0_1,b1_1,b6_1,b7_1,b8_1,b9_1,b10_1,b2,b3,b4,b5,b2_1,b3_1,b4_1,b5_1))))
def bw (p0:nI) (i1:List nJ):Option (nI×Int×Int) :=
 (aH p0).bind λt14 =>
 cond ((i1.length:Int)==0)
 (some (t14,0,0))
 ((ct p0).bind λt20 =>
 cond (!t20)
 (some (t14,3,1))
 ((loop (λz=>ez p0 i1 z.1 z.2.1 z.2.2.1 z.2.2.2.1 z.2.2.2.2.1 z.2.2.2.2.2.1 z.2.2.2.2.2.2.1 z.2.2.2.2.2.2.2.1 z.2.2.2.2.2.2.2.2.1 z.2.2.2.2.2.2.2.2.2.1 z.2.2.2.2.2.2.2.2.2.2.1 z.2.2.2.2.2.2.2.2.2.2.2.1 z.2.2.2.2.2.2.2.2.2.2.2.2.1 z.2.2.2.2.2.2.2.2.2.2.2.2.2.1 z.2.2.2.2.2.2.2.2.2.2.2.2.2.2.1 z.2.2.2.2.2.2.2.2.2.2.2.2.2.2.2.1 z.2.2.2.2.2.2.2.2.2.2.2.2.2.2.2.2.1 z.2.2.2.2.2.2.2.2.2.2.2.2.2.2.2.2.2.1 z.2.2.2.2.2.2.2.2.2.2.2.2.2.2.2.2.2.2.1 z.2.2.2.2.2.2.2.2.2.2.2.2.2.2.2.2.2.2.2.1 z.2.2.2.2.2.2.2.2.2.2.2.2.2.2.2.2.2.2.2.2.1 z.2.2.2.2.2.2.2.2.2.2.2.2.2.2.2.2.2.2.2.2.2.1 z.2.2.2.2.2.2.2.2.2.2.2.2.2.2.2.2.2.2.2.2.2.2) (0,0,[],0,0,0,0,0,t14.1,t14.2.1,t14.2.2.2.2.2.2.1,t14.2.2.2.2.2.2.2.1,t14.2.2.2.2.2.2.2.2.1,t14.2.2.2.2.2.2.2.2.2.1,t14.2.2.2.2.2.2.2.2.2.2,[],[],[],[],t14.2.2.1,t14.2.2.2.1,t14.2.2.2.2.1,t14.2.2.2.2.2.1)).bind (Sum.elim (λd_1 =>
 (cr d_1.2.2.2.2.2.2.2.2.2.2.2.2.2.2.2.2.2.2.2.2 (d_1.2.2.2.2.2.2.2.2.2.2.2.2.2.2.2.2.2.2.1.length:Int)).bind λt63 =>
 cond (!t63)
 ((aH p0).bind λt66 =>
 some (t66,5,(i1.length:Int)))
 ((bR (d_1.2.2.2.2.2.2.2.1,d_1.2.2.2.2.2.2.2.2.1,d_1.2.2.2.2.2.2.2.2.2.2.2.2.2.2.2.2.2.2.1,d_1.2.2.2.2.2.2.2.2.2.2.2.2.2.2.2.2.2.2.2.1,d_1.2.2.2.2.2.2.2.2.2.2.2.2.2.2.2.2.2.2.2.2.1,d_1.2.2.2.2.2.2.2.2.2.2.2.2.2.2.2.2.2.2.2.2.2,d_1.2.2.2.2.2.2.2.2.2.1,d_1.2.2.2.2.2.2.2.2.2.2.1,d_1.2.2.2.2.2.2.2.2.2.2.2.1,d_1.2.2.2.2.2.2.2.2.2.2.2.2.1,d_1.2.2.2.2.2.2.2.2.2.2.2.2.2.1)).bind λt69 =>
 some (t69,0,0))) (λr_1=>some ((r_1.2.2.1,r_1.2.2.2.1,r_1.2.2.2.2.2.2.2.2.2.1,r_1.2.2.2.2.2.2.2.2.2.2.1,r_1.2.2.2.2.2.2.2.2.2.2.2.1,r_1.2.2.2.2.2.2.2.2.2.2.2.2,r_1.2.2.2.2.1,r_1.2.2.2.2.2.1,r_1.2.2.2.2.2.2.1,r_1.2.2.2.2.2.2.2.1,r_1.2.2.2.2.2.2.2.2.1),r_1.1,r_1.2.1)))))
def jf:FL:=(80,⟨[.val true o6 false,.val false (.one (.sl nU)) false],[.val true o6 (some true),.val false nR (some true),.val false nR (some true)],λa=>bw a.1 a.2⟩)::je
theorem mw:Gd jf:=nV mu 80 Tryz.f80 [(0,⟨⟨[(25,false,[dI])],[(2048,.box [dI,dS,.own 1000000000,.own 1000000001,.own 1000000002,.own 1000000003,dI,dI,dI,dI,dI]),(265216,.box [dI,dS,.own 1000000004,.own 1000000005,.own 1000000006,.own 1000000007,dI,dI,dI,dI,dI]),(1000000000,.root pI true),(1000000001,.root og true),(1000000002,.root oK true),(1000000003,.root nR true),(1000000004,.root pI true),(1000000005,.root og true),(1000000006,.root oK true),(1000000007,.root nR true)]⟩,
 ⟨[],[(2048,.box [dI,dS,.own 1000000300,.own 1000000301,.own 1000000302,.own 1000000303,dI,dI,dI,dI,dI]),(265216,.box [dI,dS,.own 1000000304,.own 1000000305,.own 1000000306,.own 1000000307,dI,dI,dI,dI,dI]),(1000000300,.root pI true),(1000000301,.root og true),(1000000302,.root oK true),(1000000303,.root nR true),(1000000304,.root pI true),(1000000305,.root og true),(1000000306,.root oK true),(1000000307,.root nR true)]⟩,some ⟨[(5,false,[dI]),(6,false,[dI])],[(2048,.box [dI,dS,.own 1000000600,.own 1000000601,.own 1000000602,.own 1000000603,dI,dI,dI,dI,dI]),(1000000600,.root pI true),(1000000601,.root og true),(1000000602,.root oK true),(1000000603,.root nR true)]⟩⟩),
 (2,⟨⟨[(34,false,[dI])],[(2048,.box [dI,dS,.same 1000000000,.same 1000000001,.same 1000000002,.same 1000000003,dI,dI,dI,dI,dI])]⟩,
 ⟨[],[(2048,.box [dI,dS,.same 1000000000,.same 1000000001,.same 1000000002,.same 1000000003,dI,dI,dI,dI,dI])]⟩,some ⟨[(5,false,[dI]),(6,false,[dI])],[(2048,.box [dI,dS,.own 1000002600,.own 1000002601,.own 1000002602,.own 1000002603,dI,dI,dI,dI,dI]),(1000002600,.root pI true),(1000002601,.root og true),(1000002602,.root oK true),(1000002603,.root nR true)]⟩⟩)] Tryz.func80
def eA (v0:qB):Option qB :=
 (aL v0.2.2.2).bind λt5 =>
 some (v0.1,v0.2.1,v0.2.2.1,t5)
def jg:FL:=(173,⟨[.val true sf false],[.val true sf (some true)],λa=>eA a⟩)::jf
theorem my:Gd jg:=nV mw 173 Tryz.f173 [] Tryz.func173
def cE (l0:List nJ) (t8:Int) (out3:List nJ):Option ((Int×List nJ)⊕(List nJ)) :=
 cond (decide (t8<(l0.length:Int)))
 ((at? l0 t8).bind λx10 =>
 (aL x10.1).bind λt15 =>
 (eA x10.2).bind λt18 =>
 (od out3 [(t15,t18.1,t18.2.1,t18.2.2.1,t18.2.2.2)]).bind λzs21 =>
 some (.inl (nK (t8+1),zs21)))
 (some (.inr out3))
def eB (l0:List nJ):Option (List nJ) :=
 (loop (λz=>cE l0 z.1 z.2) (0,[])).bind λd =>
 some d
def jh:FL:=(81,⟨[.val false (.one (.sl nU)) false],[.val false (.one (.sl nU)) (some true)],λa=>eB a⟩)::jg
theorem mz:Gd jh:=nV my 81 Tryz.f81 [(0,⟨⟨[(3,false,[.own 1000000000]),(8,false,[dI])],[(1000000000,.root nU true)]⟩,
 ⟨[(3,false,[.own 1000000300])],[(1000000300,.root nU true)]⟩,none⟩)] Tryz.func81
def dy (p0:nI) (i1:oe) (t54:Int) (b0:Int) (b1:Int) (b2:Int) (b3:Int) (b4:List nJ):Option ((Int×Int×Int×Int×Int×List nJ)⊕(Int×Int×Int×Int×List nJ)) :=
 cond (decide (t54<(i1.2.2.2.2.length:Int)))
 ((at? i1.2.2.2.2 t54).bind λx56 =>
 (aL x56.1).bind λt62 =>
 (bg p0 x56.1).bind λt66 =>
 (od b4 [(t62,t66.1,t66.2.1,t66.2.2.1,t66.2.2.2)]).bind λzs69 =>
 some (.inl (nK (t54+1),b0,b1,b2,b3,zs69)))
 (some (.inr (b0,b1,b2,b3,b4)))
def ji (i1:oe) (b0_2:Int) (b1_2:List UInt8) (b6:Int) (b7:Int) (b8:Int) (b9:Int) (b10:Int) (b0_3:Int) (b1_3:Int) (b2_2:Int) (b3_2:Int) (b0_4:Int) (b1_4:List UInt8) (b6_1:Int) (b7_1:Int) (b8_1:Int) (b9_1:Int) (b10_1:Int) (b0_5:Int) (b1_5:Int) (b2_3:Int) (b3_3:Int) (b4_2:List nJ) (b2_4:List Pt) (b3_4:List nO) (b4_3:List nW) (b5:List Int) (b4_4:List nJ) (b2_5:List Pt) (b3_5:List nO) (b4_5:List nW) (b5_1:List Int):Option ((Int×List UInt8×Int×Int×Int×Int×Int×Int×Int×Int×Int×Int×List UInt8×Int×Int×Int×Int×Int×Int×Int×Int×Int×List nJ×List Pt×List nO×List nW×List Int×List nJ×List Pt×List nO×List nW×List Int)⊕((Int×List UInt8×Int×Int×Int×Int×Int×Int×Int×Int×Int×Int×List UInt8×Int×Int×Int×Int×Int×Int×Int×Int×Int×List nJ×List Pt×List nO×List nW×List Int×List nJ×List Pt×List nO×List nW×List Int)⊕(Bool×Int×List UInt8×Int×Int×Int×Int×Int×Int×Int×Int×Int×List nJ×List Pt×List nO×List nW×List Int))) :=
 (cond (i1.1==165) (some (decide ((b4_2.length:Int)>0))) (some false)).bind λt109 =>
 cond t109
 ((cut b4_2 0 (nK ((b4_2.length:Int)-1))).bind λt116 =>
 (aF (b0_5,b1_5,b2_3,b3_3,t116)).bind λt119 =>
 cond t119
 (some (.inr (.inr (true,b0_4,b1_4,b6_1,b7_1,b8_1,b9_1,b10_1,b0_5,b1_5,b2_3,b3_3,t116,b2_5,b3_5,b4_5,b5_1))))
 (some (.inl (b0_2,b1_2,b6,b7,b8,b9,b10,b0_3,b1_3,b2_2,b3_2,b0_4,b1_4,b6_1,b7_1,b8_1,b9_1,b10_1,b0_5,b1_5,b2_3,b3_3,t116,b2_4,b3_4,b4_3,b5,b4_4,b2_5,b3_5,b4_5,b5_1))))
 (some (.inr (.inl (b0_2,b1_2,b6,b7,b8,b9,b10,b0_3,b1_3,b2_2,b3_2,b0_4,b1_4,b6_1,b7_1,b8_1,b9_1,b10_1,b0_5,b1_5,b2_3,b3_3,b4_2,b2_4,b3_4,b4_3,b5,b4_4,b2_5,b3_5,b4_5,b5_1))))
def dz (p0:nI) (i1:oe) (t77:Int) (b0_10:Int) (b1_10:Int) (b2_10:Int) (b3_10:Int) (b4_10:List nJ):Option ((Int×Int×Int×Int×Int×List nJ)⊕(Int×Int×Int×Int×List nJ)) :=
 cond (decide (t77<(i1.2.2.2.2.length:Int)))
 ((at? i1.2.2.2.2 t77).bind λx79 =>
 (aM p0 x79.1).bind λt86 =>
 (od b4_10 [t86]).bind λzs88 =>
 some (.inl (nK (t77+1),b0_10,b1_10,b2_10,b3_10,zs88)))
 (some (.inr (b0_10,b1_10,b2_10,b3_10,b4_10)))
def jj (i1:oe) (b0_12:Int) (b1_12:List UInt8) (b6_4:Int) (b7_4:Int) (b8_4:Int) (b9_4:Int) (b10_4:Int) (b0_13:Int) (b1_13:Int) (b2_12:Int) (b3_12:Int) (b0_14:Int) (b1_14:List UInt8) (b6_5:Int) (b7_5:Int) (b8_5:Int) (b9_5:Int) (b10_5:Int) (b0_15:Int) (b1_15:Int) (b2_13:Int) (b3_13:Int) (b4_12:List nJ) (b2_14:List Pt) (b3_14:List nO) (b4_13:List nW) (b5_4:List Int) (b4_14:List nJ) (b2_15:List Pt) (b3_15:List nO) (b4_15:List nW) (b5_5:List Int):Option ((Int×List UInt8×Int×Int×Int×Int×Int×Int×Int×Int×Int×Int×List UInt8×Int×Int×Int×Int×Int×Int×Int×Int×Int×List nJ×List Pt×List nO×List nW×List Int×List nJ×List Pt×List nO×List nW×List Int)⊕((Int×List UInt8×Int×Int×Int×Int×Int×Int×Int×Int×Int×Int×List UInt8×Int×Int×Int×Int×Int×Int×Int×Int×Int×List nJ×List Pt×List nO×List nW×List Int×List nJ×List Pt×List nO×List nW×List Int)⊕(Bool×Int×List UInt8×Int×Int×Int×Int×Int×Int×Int×Int×Int×List nJ×List Pt×List nO×List nW×List Int))) :=
 (cond (i1.1==165) (some (decide ((b4_12.length:Int)>0))) (some false)).bind λt109_1 =>
 cond t109_1
 ((cut b4_12 0 (nK ((b4_12.length:Int)-1))).bind λt116_1 =>
 (aF (b0_15,b1_15,b2_13,b3_13,t116_1)).bind λt119_1 =>
 cond t119_1
 (some (.inr (.inr (true,b0_14,b1_14,b6_5,b7_5,b8_5,b9_5,b10_5,b0_15,b1_15,b2_13,b3_13,t116_1,b2_15,b3_15,b4_15,b5_5))))
 (some (.inl (b0_12,b1_12,b6_4,b7_4,b8_4,b9_4,b10_4,b0_13,b1_13,b2_12,b3_12,b0_14,b1_14,b6_5,b7_5,b8_5,b9_5,b10_5,b0_15,b1_15,b2_13,b3_13,t116_1,b2_14,b3_14,b4_13,b5_4,b4_14,b2_15,b3_15,b4_15,b5_5))))
 (some (.inr (.inl (b0_12,b1_12,b6_4,b7_4,b8_4,b9_4,b10_4,b0_13,b1_13,b2_12,b3_12,b0_14,b1_14,b6_5,b7_5,b8_5,b9_5,b10_5,b0_15,b1_15,b2_13,b3_13,b4_12,b2_14,b3_14,b4_13,b5_4,b4_14,b2_15,b3_15,b4_15,b5_5))))
def dA (i1:oe) (b0_20:Int) (b1_20:List UInt8) (b6_8:Int) (b7_8:Int) (b8_8:Int) (b9_8:Int) (b10_8:Int) (b0_21:Int) (b1_21:Int) (b2_20:Int) (b3_20:Int) (b0_22:Int) (b1_22:List UInt8) (b6_9:Int) (b7_9:Int) (b8_9:Int) (b9_9:Int) (b10_9:Int) (b0_23:Int) (b1_23:Int) (b2_21:Int) (b3_21:Int) (b4_20:List nJ) (b2_22:List Pt) (b3_22:List nO) (b4_21:List nW) (b5_8:List Int) (b4_22:List nJ) (b2_23:List Pt) (b3_23:List nO) (b4_23:List nW) (b5_9:List Int):Option ((Int×List UInt8×Int×Int×Int×Int×Int×Int×Int×Int×Int×Int×List UInt8×Int×Int×Int×Int×Int×Int×Int×Int×Int×List nJ×List Pt×List nO×List nW×List Int×List nJ×List Pt×List nO×List nW×List Int)⊕((Int×List UInt8×Int×Int×Int×Int×Int×Int×Int×Int×Int×Int×List UInt8×Int×Int×Int×Int×Int×Int×Int×Int×Int×List nJ×List Pt×List nO×List nW×List Int×List nJ×List Pt×List nO×List nW×List Int)⊕(Bool×Int×List UInt8×Int×Int×Int×Int×Int×Int×Int×Int×Int×List nJ×List Pt×List nO×List nW×List Int))) :=
 (cond (i1.1==165) (some (decide ((b4_20.length:Int)>0))) (some false)).bind λt109_2 =>
 cond t109_2
 ((cut b4_20 0 (nK ((b4_20.length:Int)-1))).bind λt116_2 =>
 (aF (b0_23,b1_23,b2_21,b3_21,t116_2)).bind λt119_2 =>
 cond t119_2
 (some (.inr (.inr (true,b0_22,b1_22,b6_9,b7_9,b8_9,b9_9,b10_9,b0_23,b1_23,b2_21,b3_21,t116_2,b2_23,b3_23,b4_23,b5_9))))
 (some (.inl (b0_20,b1_20,b6_8,b7_8,b8_8,b9_8,b10_8,b0_21,b1_21,b2_20,b3_20,b0_22,b1_22,b6_9,b7_9,b8_9,b9_9,b10_9,b0_23,b1_23,b2_21,b3_21,t116_2,b2_22,b3_22,b4_21,b5_8,b4_22,b2_23,b3_23,b4_23,b5_9))))
 (some (.inr (.inl (b0_20,b1_20,b6_8,b7_8,b8_8,b9_8,b10_8,b0_21,b1_21,b2_20,b3_20,b0_22,b1_22,b6_9,b7_9,b8_9,b9_9,b10_9,b0_23,b1_23,b2_21,b3_21,b4_20,b2_22,b3_22,b4_21,b5_8,b4_22,b2_23,b3_23,b4_23,b5_9))))
def jk (i1:oe) (b0_28:Int) (b1_28:List UInt8) (b6_12:Int) (b7_12:Int) (b8_12:Int) (b9_12:Int) (b10_12:Int) (b0_29:Int) (b1_29:Int) (b2_28:Int) (b3_28:Int) (b0_30:Int) (b1_30:List UInt8) (b6_13:Int) (b7_13:Int) (b8_13:Int) (b9_13:Int) (b10_13:Int) (b0_31:Int) (b1_31:Int) (b2_29:Int) (b3_29:Int) (b4_28:List nJ) (b2_30:List Pt) (b3_30:List nO) (b4_29:List nW) (b5_12:List Int) (b4_30:List nJ) (b2_31:List Pt) (b3_31:List nO) (b4_31:List nW) (b5_13:List Int):Option ((Int×List UInt8×Int×Int×Int×Int×Int×Int×Int×Int×Int×Int×List UInt8×Int×Int×Int×Int×Int×Int×Int×Int×Int×List nJ×List Pt×List nO×List nW×List Int×List nJ×List Pt×List nO×List nW×List Int)⊕((Int×List UInt8×Int×Int×Int×Int×Int×Int×Int×Int×Int×Int×List UInt8×Int×Int×Int×Int×Int×Int×Int×Int×Int×List nJ×List Pt×List nO×List nW×List Int×List nJ×List Pt×List nO×List nW×List Int)⊕(Bool×Int×List UInt8×Int×Int×Int×Int×Int×Int×Int×Int×Int×List nJ×List Pt×List nO×List nW×List Int))) :=
 (cond (i1.1==165) (some (decide ((b4_28.length:Int)>0))) (some false)).bind λt109_3 =>
 cond t109_3
 ((cut b4_28 0 (nK ((b4_28.length:Int)-1))).bind λt116_3 =>
 (aF (b0_31,b1_31,b2_29,b3_29,t116_3)).bind λt119_3 =>
 cond t119_3
 (some (.inr (.inr (true,b0_30,b1_30,b6_13,b7_13,b8_13,b9_13,b10_13,b0_31,b1_31,b2_29,b3_29,t116_3,b2_31,b3_31,b4_31,b5_13))))
 (some (.inl (b0_28,b1_28,b6_12,b7_12,b8_12,b9_12,b10_12,b0_29,b1_29,b2_28,b3_28,b0_30,b1_30,b6_13,b7_13,b8_13,b9_13,b10_13,b0_31,b1_31,b2_29,b3_29,t116_3,b2_30,b3_30,b4_29,b5_12,b4_30,b2_31,b3_31,b4_31,b5_13))))
 (some (.inr (.inl (b0_28,b1_28,b6_12,b7_12,b8_12,b9_12,b10_12,b0_29,b1_29,b2_28,b3_28,b0_30,b1_30,b6_13,b7_13,b8_13,b9_13,b10_13,b0_31,b1_31,b2_29,b3_29,b4_28,b2_30,b3_30,b4_29,b5_12,b4_30,b2_31,b3_31,b4_31,b5_13))))
def eC (p0:nI) (i1:oe):Option (nI×oe×Bool) :=
 (aH p0).bind λt14 =>
 (ct p0).bind λt16 =>
 (cond (!t16)
 (some true)
 ((cl i1).bind λt20 =>
 some (!t20))).bind λt22 =>
 (cond t22 (some true) (some (i1.1==162))).bind λt27 =>
 cond t27
 (some (t14,(0,0,0,0,[]),false))
 (cond (i1.1==160)
 ((loop (λz=>dy p0 i1 z.1 z.2.1 z.2.2.1 z.2.2.2.1 z.2.2.2.2.1 z.2.2.2.2.2) (0,162,i1.2.1,0,0,[])).bind λd =>
 (aF d).bind λt98 =>
 cond t98
 (some (t14,d,true))
 ((loop (λz=>ji i1 z.1 z.2.1 z.2.2.1 z.2.2.2.1 z.2.2.2.2.1 z.2.2.2.2.2.1 z.2.2.2.2.2.2.1 z.2.2.2.2.2.2.2.1 z.2.2.2.2.2.2.2.2.1 z.2.2.2.2.2.2.2.2.2.1 z.2.2.2.2.2.2.2.2.2.2.1 z.2.2.2.2.2.2.2.2.2.2.2.1 z.2.2.2.2.2.2.2.2.2.2.2.2.1 z.2.2.2.2.2.2.2.2.2.2.2.2.2.1 z.2.2.2.2.2.2.2.2.2.2.2.2.2.2.1 z.2.2.2.2.2.2.2.2.2.2.2.2.2.2.2.1 z.2.2.2.2.2.2.2.2.2.2.2.2.2.2.2.2.1 z.2.2.2.2.2.2.2.2.2.2.2.2.2.2.2.2.2.1 z.2.2.2.2.2.2.2.2.2.2.2.2.2.2.2.2.2.2.1 z.2.2.2.2.2.2.2.2.2.2.2.2.2.2.2.2.2.2.2.1 z.2.2.2.2.2.2.2.2.2.2.2.2.2.2.2.2.2.2.2.2.1 z.2.2.2.2.2.2.2.2.2.2.2.2.2.2.2.2.2.2.2.2.2.1 z.2.2.2.2.2.2.2.2.2.2.2.2.2.2.2.2.2.2.2.2.2.2.1 z.2.2.2.2.2.2.2.2.2.2.2.2.2.2.2.2.2.2.2.2.2.2.2.1 z.2.2.2.2.2.2.2.2.2.2.2.2.2.2.2.2.2.2.2.2.2.2.2.2.1 z.2.2.2.2.2.2.2.2.2.2.2.2.2.2.2.2.2.2.2.2.2.2.2.2.2.1 z.2.2.2.2.2.2.2.2.2.2.2.2.2.2.2.2.2.2.2.2.2.2.2.2.2.2.1 z.2.2.2.2.2.2.2.2.2.2.2.2.2.2.2.2.2.2.2.2.2.2.2.2.2.2.2.1 z.2.2.2.2.2.2.2.2.2.2.2.2.2.2.2.2.2.2.2.2.2.2.2.2.2.2.2.2.1 z.2.2.2.2.2.2.2.2.2.2.2.2.2.2.2.2.2.2.2.2.2.2.2.2.2.2.2.2.2.1 z.2.2.2.2.2.2.2.2.2.2.2.2.2.2.2.2.2.2.2.2.2.2.2.2.2.2.2.2.2.2.1 z.2.2.2.2.2.2.2.2.2.2.2.2.2.2.2.2.2.2.2.2.2.2.2.2.2.2.2.2.2.2.2) (0,[],0,0,0,0,0,0,0,0,0,t14.1,t14.2.1,t14.2.2.2.2.2.2.1,t14.2.2.2.2.2.2.2.1,t14.2.2.2.2.2.2.2.2.1,t14.2.2.2.2.2.2.2.2.2.1,t14.2.2.2.2.2.2.2.2.2.2,d.1,d.2.1,d.2.2.1,d.2.2.2.1,d.2.2.2.2,[],[],[],[],[],t14.2.2.1,t14.2.2.2.1,t14.2.2.2.2.1,t14.2.2.2.2.2.1)).bind (Sum.elim (λd_1 =>
 (aH p0).bind λt123 =>
 some (t123,(162,i1.2.1,7,0,[]),true)) (λr=>some ((r.2.1,r.2.2.1,r.2.2.2.2.2.2.2.2.2.2.2.2.2.1,r.2.2.2.2.2.2.2.2.2.2.2.2.2.2.1,r.2.2.2.2.2.2.2.2.2.2.2.2.2.2.2.1,r.2.2.2.2.2.2.2.2.2.2.2.2.2.2.2.2,r.2.2.2.1,r.2.2.2.2.1,r.2.2.2.2.2.1,r.2.2.2.2.2.2.1,r.2.2.2.2.2.2.2.1),(r.2.2.2.2.2.2.2.2.1,r.2.2.2.2.2.2.2.2.2.1,r.2.2.2.2.2.2.2.2.2.2.1,r.2.2.2.2.2.2.2.2.2.2.2.1,r.2.2.2.2.2.2.2.2.2.2.2.2.1),r.1)))))
 (cond (i1.1==161)
 ((loop (λz=>dz p0 i1 z.1 z.2.1 z.2.2.1 z.2.2.2.1 z.2.2.2.2.1 z.2.2.2.2.2) (0,162,i1.2.1,0,0,[])).bind λd_2 =>
 (aF d_2).bind λt98_1 =>
 cond t98_1
 (some (t14,d_2,true))
 ((loop (λz=>jj i1 z.1 z.2.1 z.2.2.1 z.2.2.2.1 z.2.2.2.2.1 z.2.2.2.2.2.1 z.2.2.2.2.2.2.1 z.2.2.2.2.2.2.2.1 z.2.2.2.2.2.2.2.2.1 z.2.2.2.2.2.2.2.2.2.1 z.2.2.2.2.2.2.2.2.2.2.1 z.2.2.2.2.2.2.2.2.2.2.2.1 z.2.2.2.2.2.2.2.2.2.2.2.2.1 z.2.2.2.2.2.2.2.2.2.2.2.2.2.1 z.2.2.2.2.2.2.2.2.2.2.2.2.2.2.1 z.2.2.2.2.2.2.2.2.2.2.2.2.2.2.2.1 z.2.2.2.2.2.2.2.2.2.2.2.2.2.2.2.2.1 z.2.2.2.2.2.2.2.2.2.2.2.2.2.2.2.2.2.1 z.2.2.2.2.2.2.2.2.2.2.2.2.2.2.2.2.2.2.1 z.2.2.2.2.2.2.2.2.2.2.2.2.2.2.2.2.2.2.2.1 z.2.2.2.2.2.2.2.2.2.2.2.2.2.2.2.2.2.2.2.2.1 z.2.2.2.2.2.2.2.2.2.2.2.2.2.2.2.2.2.2.2.2.2.1 z.2.2.2.2.2.2.2.2.2.2.2.2.2.2.2.2.2.2.2.2.2.2.1 z.2.2.2.2.2.2.2.2.2.2.2.2.2.2.2.2.2.2.2.2.2.2.2.1 z.2.2.2.2.2.2.2.2.2.2.2.2.2.2.2.2.2.2.2.2.2.2.2.2.1 z.2.2.2.2.2.2.2.2.2.2.2.2.2.2.2.2.2.2.2.2.2.2.2.2.2.1 z.2.2.2.2.2.2.2.2.2.2.2.2.2.2.2.2.2.2.2.2.2.2.2.2.2.2.1 z.2.2.2.2.2.2.2.2.2.2.2.2.2.2.2.2.2.2.2.2.2.2.2.2.2.2.2.1 z.2.2.2.2.2.2.2.2.2.2.2.2.2.2.2.2.2.2.2.2.2.2.2.2.2.2.2.2.1 z.2.2.2.2.2.2.2.2.2.2.2.2.2.2.2.2.2.2.2.2.2.2.2.2.2.2.2.2.2.1 z.2.2.2.2.2.2.2.2.2.2.2.2.2.2.2.2.2.2.2.2.2.2.2.2.2.2.2.2.2.2.1 z.2.2.2.2.2.2.2.2.2.2.2.2.2.2.2.2.2.2.2.2.2.2.2.2.2.2.2.2.2.2.2) (0,[],0,0,0,0,0,0,0,0,0,t14.1,t14.2.1,t14.2.2.2.2.2.2.1,t14.2.2.2.2.2.2.2.1,t14.2.2.2.2.2.2.2.2.1,t14.2.2.2.2.2.2.2.2.2.1,t14.2.2.2.2.2.2.2.2.2.2,d_2.1,d_2.2.1,d_2.2.2.1,d_2.2.2.2.1,d_2.2.2.2.2,[],[],[],[],[],t14.2.2.1,t14.2.2.2.1,t14.2.2.2.2.1,t14.2.2.2.2.2.1)).bind (Sum.elim (λd_3 =>
 (aH p0).bind λt123_1 =>
 some (t123_1,(162,i1.2.1,7,0,[]),true)) (λr_1=>some ((r_1.2.1,r_1.2.2.1,r_1.2.2.2.2.2.2.2.2.2.2.2.2.2.1,r_1.2.2.2.2.2.2.2.2.2.2.2.2.2.2.1,r_1.2.2.2.2.2.2.2.2.2.2.2.2.2.2.2.1,r_1.2.2.2.2.2.2.2.2.2.2.2.2.2.2.2.2,r_1.2.2.2.1,r_1.2.2.2.2.1,r_1.2.2.2.2.2.1,r_1.2.2.2.2.2.2.1,r_1.2.2.2.2.2.2.2.1),(r_1.2.2.2.2.2.2.2.2.1,r_1.2.2.2.2.2.2.2.2.2.1,r_1.2.2.2.2.2.2.2.2.2.2.1,r_1.2.2.2.2.2.2.2.2.2.2.2.1,r_1.2.2.2.2.2.2.2.2.2.2.2.2.1),r_1.1)))))
 (cond (i1.1==165)
 ((ej p0 i1).bind λt95 =>
 (aF (162,i1.2.1,0,0,t95)).bind λt98_2 =>
 cond t98_2
 (some (t14,(162,i1.2.1,0,0,t95),true))
 ((loop (λz=>dA i1 z.1 z.2.1 z.2.2.1 z.2.2.2.1 z.2.2.2.2.1 z.2.2.2.2.2.1 z.2.2.2.2.2.2.1 z.2.2.2.2.2.2.2.1 z.2.2.2.2.2.2.2.2.1 z.2.2.2.2.2.2.2.2.2.1 z.2.2.2.2.2.2.2.2.2.2.1 z.2.2.2.2.2.2.2.2.2.2.2.1 z.2.2.2.2.2.2.2.2.2.2.2.2.1 z.2.2.2.2.2.2.2.2.2.2.2.2.2.1 z.2.2.2.2.2.2.2.2.2.2.2.2.2.2.1 z.2.2.2.2.2.2.2.2.2.2.2.2.2.2.2.1 z.2.2.2.2.2.2.2.2.2.2.2.2.2.2.2.2.1 z.2.2.2.2.2.2.2.2.2.2.2.2.2.2.2.2.2.1 z.2.2.2.2.2.2.2.2.2.2.2.2.2.2.2.2.2.2.1 z.2.2.2.2.2.2.2.2.2.2.2.2.2.2.2.2.2.2.2.1 z.2.2.2.2.2.2.2.2.2.2.2.2.2.2.2.2.2.2.2.2.1 z.2.2.2.2.2.2.2.2.2.2.2.2.2.2.2.2.2.2.2.2.2.1 z.2.2.2.2.2.2.2.2.2.2.2.2.2.2.2.2.2.2.2.2.2.2.1 z.2.2.2.2.2.2.2.2.2.2.2.2.2.2.2.2.2.2.2.2.2.2.2.1 z.2.2.2.2.2.2.2.2.2.2.2.2.2.2.2.2.2.2.2.2.2.2.2.2.1 z.2.2.2.2.2.2.2.2.2.2.2.2.2.2.2.2.2.2.2.2.2.2.2.2.2.1 z.2.2.2.2.2.2.2.2.2.2.2.2.2.2.2.2.2.2.2.2.2.2.2.2.2.2.1 z.2.2.2.2.2.2.2.2.2.2.2.2.2.2.2.2.2.2.2.2.2.2.2.2.2.2.2.1 z.2.2.2.2.2.2.2.2.2.2.2.2.2.2.2.2.2.2.2.2.2.2.2.2.2.2.2.2.1 z.2.2.2.2.2.2.2.2.2.2.2.2.2.2.2.2.2.2.2.2.2.2.2.2.2.2.2.2.2.1 z.2.2.2.2.2.2.2.2.2.2.2.2.2.2.2.2.2.2.2.2.2.2.2.2.2.2.2.2.2.2.1 z.2.2.2.2.2.2.2.2.2.2.2.2.2.2.2.2.2.2.2.2.2.2.2.2.2.2.2.2.2.2.2) (0,[],0,0,0,0,0,0,0,0,0,t14.1,t14.2.1,t14.2.2.2.2.2.2.1,t14.2.2.2.2.2.2.2.1,t14.2.2.2.2.2.2.2.2.1,t14.2.2.2.2.2.2.2.2.2.1,t14.2.2.2.2.2.2.2.2.2.2,162,i1.2.1,0,0,t95,[],[],[],[],[],t14.2.2.1,t14.2.2.2.1,t14.2.2.2.2.1,t14.2.2.2.2.2.1)).bind (Sum.elim (λd_4 =>
 (aH p0).bind λt123_2 =>
 some (t123_2,(162,i1.2.1,7,0,[]),true)) (λr_2=>some ((r_2.2.1,r_2.2.2.1,r_2.2.2.2.2.2.2.2.2.2.2.2.2.2.1,r_2.2.2.2.2.2.2.2.2.2.2.2.2.2.2.1,r_2.2.2.2.2.2.2.2.2.2.2.2.2.2.2.2.1,r_2.2.2.2.2.2.2.2.2.2.2.2.2.2.2.2.2,r_2.2.2.2.1,r_2.2.2.2.2.1,r_2.2.2.2.2.2.1,r_2.2.2.2.2.2.2.1,r_2.2.2.2.2.2.2.2.1),(r_2.2.2.2.2.2.2.2.2.1,r_2.2.2.2.2.2.2.2.2.2.1,r_2.2.2.2.2.2.2.2.2.2.2.1,r_2.2.2.2.2.2.2.2.2.2.2.2.1,r_2.2.2.2.2.2.2.2.2.2.2.2.2.1),r_2.1)))))
 ((bw p0 i1.2.2.2.2).bind λt39 =>
 (eB i1.2.2.2.2).bind λt47 =>
 (aF (162,i1.2.1,t39.2.1,t39.2.2,t47)).bind λt98_3 =>
 cond t98_3
 (some (t39.1,(162,i1.2.1,t39.2.1,t39.2.2,t47),true))
 ((loop (λz=>jk i1 z.1 z.2.1 z.2.2.1 z.2.2.2.1 z.2.2.2.2.1 z.2.2.2.2.2.1 z.2.2.2.2.2.2.1 z.2.2.2.2.2.2.2.1 z.2.2.2.2.2.2.2.2.1 z.2.2.2.2.2.2.2.2.2.1 z.2.2.2.2.2.2.2.2.2.2.1 z.2.2.2.2.2.2.2.2.2.2.2.1 z.2.2.2.2.2.2.2.2.2.2.2.2.1 z.2.2.2.2.2.2.2.2.2.2.2.2.2.1 z.2.2.2.2.2.2.2.2.2.2.2.2.2.2.1 z.2.2.2.2.2.2.2.2.2.2.2.2.2.2.2.1 z.2.2.2.2.2.2.2.2.2.2.2.2.2.2.2.2.1 z.2.2.2.2.2.2.2.2.2.2.2.2.2.2.2.2.2.1 z.2.2.2.2.2.2.2.2.2.2.2.2.2.2.2.2.2.2.1 z.2.2.2.2.2.2.2.2.2.2.2.2.2.2.2.2.2.2.2.1 z.2.2.2.2.2.2.2.2.2.2.2.2.2.2.2.2.2.2.2.2.1 z.2.2.2.2.2.2.2.2.2.2.2.2.2.2.2.2.2.2.2.2.2.1 z.2.2.2.2.2.2.2.2.2.2.2.2.2.2.2.2.2.2.2.2.2.2.1 z.2.2.2.2.2.2.2.2.2.2.2.2.2.2.2.2.2.2.2.2.2.2.2.1 z.2.2.2.2.2.2.2.2.2.2.2.2.2.2.2.2.2.2.2.2.2.2.2.2.1 z.2.2.2.2.2.2.2.2.2.2.2.2.2.2.2.2.2.2.2.2.2.2.2.2.2.1 z.2.2.2.2.2.2.2.2.2.2.2.2.2.2.2.2.2.2.2.2.2.2.2.2.2.2.1 z.2.2.2.2.2.2.2.2.2.2.2.2.2.2.2.2.2.2.2.2.2.2.2.2.2.2.2.1 z.2.2.2.2.2.2.2.2.2.2.2.2.2.2.2.2.2.2.2.2.2.2.2.2.2.2.2.2.1 z.2.2.2.2.2.2.2.2.2.2.2.2.2.2.2.2.2.2.2.2.2.2.2.2.2.2.2.2.2.1 z.2.2.2.2.2.2.2.2.2.2.2.2.2.2.2.2.2.2.2.2.2.2.2.2.2.2.2.2.2.2.1 z.2.2.2.2.2.2.2.2.2.2.2.2.2.2.2.2.2.2.2.2.2.2.2.2.2.2.2.2.2.2.2) (0,[],0,0,0,0,0,0,0,0,0,t39.1.1,t39.1.2.1,t39.1.2.2.2.2.2.2.1,t39.1.2.2.2.2.2.2.2.1,t39.1.2.2.2.2.2.2.2.2.1,t39.1.2.2.2.2.2.2.2.2.2.1,t39.1.2.2.2.2.2.2.2.2.2.2,162,i1.2.1,t39.2.1,t39.2.2,t47,[],[],[],[],[],t39.1.2.2.1,t39.1.2.2.2.1,t39.1.2.2.2.2.1,t39.1.2.2.2.2.2.1)).bind (Sum.elim (λd_5 =>
 (aH p0).bind λt123_3 =>
 some (t123_3,(162,i1.2.1,7,0,[]),true)) (λr_3=>some ((r_3.2.1,r_3.2.2.1,r_3.2.2.2.2.2.2.2.2.2.2.2.2.2.1,r_3.2.2.2.2.2.2.2.2.2.2.2.2.2.2.1,r_3.2.2.2.2.2.2.2.2.2.2.2.2.2.2.2.1,r_3.2.2.2.2.2.2.2.2.2.2.2.2.2.2.2.2,r_3.2.2.2.1,r_3.2.2.2.2.1,r_3.2.2.2.2.2.1,r_3.2.2.2.2.2.2.1,r_3.2.2.2.2.2.2.2.1),(r_3.2.2.2.2.2.2.2.2.1,r_3.2.2.2.2.2.2.2.2.2.1,r_3.2.2.2.2.2.2.2.2.2.2.1,r_3.2.2.2.2.2.2.2.2.2.2.2.1,r_3.2.2.2.2.2.2.2.2.2.2.2.2.1),r_3.1))))))))
def jl:FL:=(13,⟨[.val true o6 false,.val true qu false],[.val true o6 (some true),.val true qu none,.val false oL (some true)],λa=>eC a.1 a.2⟩)::jh
theorem mC:Gd jl:=nV mz 13 Tryz.f13 [(1,⟨⟨[(54,false,[dI])],[(1052672,.box [dI,dI,dI,dI,.own 1000001000]),(1000001000,.root nU false)]⟩,
 ⟨[],[(1052672,.box [dI,dI,dI,dI,.own 1000001300]),(1000001300,.root nU false)]⟩,none⟩),
 (3,⟨⟨[(77,false,[dI])],[(1052672,.box [dI,dI,dI,dI,.own 1000003000]),(1000003000,.root nU false)]⟩,
 ⟨[],[(1052672,.box [dI,dI,dI,dI,.own 1000003300]),(1000003300,.root nU false)]⟩,none⟩),
 (5,⟨⟨us 105 4 [],[(3072,.box [dI,dS,.own 1000005000,.own 1000005001,.own 1000005002,.own 1000005003,dI,dI,dI,dI,dI]),(4096,.box [dI,dI,dI,dI,.own 1000005004]),(265216,.box [dI,dS,.own 1000005005,.own 1000005006,.own 1000005007,.own 1000005008,dI,dI,dI,dI,dI]),(1052672,.box [dI,dI,dI,dI,.dat (.sl nU)]),(1000005000,.root pI true),(1000005001,.root og true),(1000005002,.root oK true),(1000005003,.root nR true),(1000005004,.root nU true),(1000005005,.root pI true),(1000005006,.root og true),(1000005007,.root oK true),(1000005008,.root nR true)]⟩,
 ⟨[],[(3072,.box [dI,dS,.own 1000005300,.own 1000005301,.own 1000005302,.own 1000005303,dI,dI,dI,dI,dI]),(4096,.box [dI,dI,dI,dI,.own 1000005304]),(265216,.box [dI,dS,.own 1000005305,.own 1000005306,.own 1000005307,.own 1000005308,dI,dI,dI,dI,dI]),(1052672,.box [dI,dI,dI,dI,.dat (.sl nU)]),(1000005300,.root pI true),(1000005301,.root og true),(1000005302,.root oK true),(1000005303,.root nR true),(1000005304,.root nU true),(1000005305,.root pI true),(1000005306,.root og true),(1000005307,.root oK true),(1000005308,.root nR true)]⟩,some ⟨[(6,false,[dB])],[(3072,.box [dI,dS,.own 1000005600,.own 1000005601,.own 1000005602,.own 1000005603,dI,dI,dI,dI,dI]),(4096,.box [dI,dI,dI,dI,.dat (.sl nU)]),(1000005600,.root pI true),(1000005601,.root og true),(1000005602,.root oK true),(1000005603,.root nR true)]⟩⟩)] Tryz.func13
def mD (o0:List Int) (i3:Int):Option (Int⊕(Unit⊕Bool)) :=
 cond (decide (i3<(o0.length:Int)))
 ((at? o0 i3).bind λx12 =>
 (af x12 0 100000).bind λt14 =>
 cond (!t14) (some (.inr (.inr false))) (some (.inl (nK (i3+1)))))
 (some (.inr (.inl ())))
def bx (o0:List Int):Option Bool :=
 (loop (λz=>mD o0 z) 0).bind (Sum.elim (λd =>
 (af (o0.length:Int) 1 10).bind λt18 =>
 some t18) (λr=>some r))
def jm:FL:=(286,⟨[.val false pH false],[.val false oL (some true)],λa=>bx a⟩)::jl
theorem mE:Gd jm:=nV mC 286 Tryz.f286 [(0,⟨⟨[(3,false,[dI])],[]⟩,
 ⟨[],[]⟩,some ⟨[(2,false,[dB])],[]⟩⟩)] Tryz.func286
def cG (p0:qB):Option Bool :=
 cond (p0.1==5)
 (cond (p0.1==5)
 ((cond (p0.2.1==0) (some (p0.2.2.1==[])) (some false)).bind λt16 =>
 (cond t16 (some ((p0.2.2.2.length:Int)==0)) (some false)).bind λt22 =>
 some t22)
 (cond (p0.1==2)
 ((aq p0.2.1).bind λt27 =>
 (cond (t27==p0.2.1) (some (p0.2.2.1==[])) (some false)).bind λt35 =>
 (cond t35 (some ((p0.2.2.2.length:Int)==0)) (some false)).bind λt41 =>
 some t41)
 (cond (p0.1==4)
 ((cond (decide ((p0.2.2.1.length:Int)<=20)) (some (p0.2.1==0)) (some false)).bind λt52 =>
 (cond t52 (some ((p0.2.2.2.length:Int)==0)) (some false)).bind λt58 =>
 some t58)
 (cond (p0.1==6)
 ((bx p0.2.2.2).bind λt63 =>
 (cond t63 (some (p0.2.1==0)) (some false)).bind λt68 =>
 (cond t68 (some (p0.2.2.1==[])) (some false)).bind λt73 =>
 some t73)
 (some false)))))
 (cond (p0.1==128)
 (cond (p0.1==128)
 ((cond (p0.2.1==0) (some (p0.2.2.1==[])) (some false)).bind λt16_1 =>
 (cond t16_1 (some ((p0.2.2.2.length:Int)==0)) (some false)).bind λt22_1 =>
 some t22_1)
 (cond (p0.1==2)
 ((aq p0.2.1).bind λt27_1 =>
 (cond (t27_1==p0.2.1) (some (p0.2.2.1==[])) (some false)).bind λt35_1 =>
 (cond t35_1 (some ((p0.2.2.2.length:Int)==0)) (some false)).bind λt41_1 =>
 some t41_1)
 (cond (p0.1==4)
 ((cond (decide ((p0.2.2.1.length:Int)<=20)) (some (p0.2.1==0)) (some false)).bind λt52_1 =>
 (cond t52_1 (some ((p0.2.2.2.length:Int)==0)) (some false)).bind λt58_1 =>
 some t58_1)
 (cond (p0.1==6)
 ((bx p0.2.2.2).bind λt63_1 =>
 (cond t63_1 (some (p0.2.1==0)) (some false)).bind λt68_1 =>
 (cond t68_1 (some (p0.2.2.1==[])) (some false)).bind λt73_1 =>
 some t73_1)
 (some false)))))
 (cond (p0.1==130)
 ((cond (p0.2.1==0) (some (p0.2.2.1==[])) (some false)).bind λt16_2 =>
 (cond t16_2 (some ((p0.2.2.2.length:Int)==0)) (some false)).bind λt22_2 =>
 some t22_2)
 (cond (p0.1==2)
 ((aq p0.2.1).bind λt27_2 =>
 (cond (t27_2==p0.2.1) (some (p0.2.2.1==[])) (some false)).bind λt35_2 =>
 (cond t35_2 (some ((p0.2.2.2.length:Int)==0)) (some false)).bind λt41_2 =>
 some t41_2)
 (cond (p0.1==4)
 ((cond (decide ((p0.2.2.1.length:Int)<=20)) (some (p0.2.1==0)) (some false)).bind λt52_2 =>
 (cond t52_2 (some ((p0.2.2.2.length:Int)==0)) (some false)).bind λt58_2 =>
 some t58_2)
 (cond (p0.1==6)
 ((bx p0.2.2.2).bind λt63_2 =>
 (cond t63_2 (some (p0.2.1==0)) (some false)).bind λt68_2 =>
 (cond t68_2 (some (p0.2.2.1==[])) (some false)).bind λt73_2 =>
 some t73_2)
 (some false))))))
def jn:FL:=(287,⟨[.val true sf false],[.val false oL (some true)],λa=>cG a⟩)::jm
theorem mF:Gd jn:=nV mE 287 Tryz.f287 [] Tryz.func287
def fp (k0:Int):Option Bool :=
 (cond (k0==160) (some true) (some (k0==161))).bind λt8 =>
 (cond t8 (some true) (some (k0==162))).bind λt12 =>
 (cond t12 (some true) (some (k0==163))).bind λt16 =>
 (cond t16 (some true) (some (k0==165))).bind λt20 =>
 some t20
def jo:FL:=(288,⟨[.val false nR false],[.val false oL (some true)],λa=>fp a⟩)::jn
theorem mG:Gd jo:=nV mF 288 Tryz.f288 [] Tryz.func288
def eD (p0:oe) (t3:Int):Option (Int⊕(Unit⊕Bool)) :=
 cond (decide (t3<(p0.2.2.2.2.length:Int)))
 ((at? p0.2.2.2.2 t3).bind λx14 =>
 (bx x14.1).bind λt17 =>
 (cond (!t17)
 (some true)
 ((at? p0.2.2.2.2 t3).bind λx23 =>
 (cG x23.2).bind λt26 =>
 some (!t26))).bind λt28 =>
 cond t28 (some (.inr (.inr false))) (some (.inl (nK (t3+1)))))
 (some (.inr (.inl ())))
def dC (p0:oe):Option Bool :=
 (loop (λz=>eD p0 z) 0).bind (Sum.elim (λd =>
 (cond (p0.1 != 162) (some (p0.1 != 165)) (some false)).bind λt36 =>
 (cond t36
 ((cond (p0.2.2.1 != 0) (some true) (some (p0.2.2.2.1 != 0))).bind λt45 =>
 some t45)
 (some false)).bind λt46 =>
 cond t46
 (some false)
 ((fp p0.1).bind λt49 =>
 (cond t49
 ((aq p0.2.1).bind λt53 =>
 some (t53==p0.2.1))
 (some false)).bind λt57 =>
 (cond t57
 ((af p0.2.2.1 0 1000).bind λt61 =>
 some t61)
 (some false)).bind λt62 =>
 (cond t62
 ((af p0.2.2.2.1 0 1000).bind λt66 =>
 some t66)
 (some false)).bind λt67 =>
 (cond t67 (some (decide ((p0.2.2.2.2.length:Int)<=10))) (some false)).bind λt73 =>
 some t73)) (λr=>some r))
def jp:FL:=(174,⟨[.val true qu false],[.val false oL (some true)],λa=>dC a⟩)::jo
theorem mH:Gd jp:=nV mG 174 Tryz.f174 [(0,⟨⟨(3,false,[dI])::us 20 8 [],[]⟩,
 ⟨[],[]⟩,some ⟨[(2,false,[dB])],[]⟩⟩)] Tryz.func174
def fq (b0:nI) (p1:oe):Option Bool :=
 (cj b0).bind λt6 =>
 (cond t6
 ((dC p1).bind λt9 =>
 some t9)
 (some false)).bind λt10 =>
 (cond t10 (some (p1.1 != 162)) (some false)).bind λt15 =>
 some t15
def jq:FL:=(82,⟨[.val true o6 false,.val true qu false],[.val false oL (some true)],λa=>fq a.1 a.2⟩)::jp
theorem mI:Gd jq:=nV mH 82 Tryz.f82 [] Tryz.func82
def aJ (b0:nI):Option nI :=
 (od ([]:List Pt) b0.2.2.1).bind λzs8 =>
 (bn b0.2.2.2.1).bind λt12 =>
 (aA (b0.2.2.2.2.1,b0.2.2.2.2.2.1)).bind λt16 =>
 some (b0.1,b0.2.1,zs8,t12,t16.1,t16.2,b0.2.2.2.2.2.2.1,b0.2.2.2.2.2.2.2.1,b0.2.2.2.2.2.2.2.2.1,b0.2.2.2.2.2.2.2.2.2.1,b0.2.2.2.2.2.2.2.2.2.2)
def jr:FL:=(83,⟨[.val true o6 false],[.val true o6 (some true)],λa=>aJ a⟩)::jq
theorem mJ:Gd jr:=nV mI 83 Tryz.f83 [] Tryz.func83
def au (b0:List Int) (tag1:Int) (body2:List Int):Option (List Int) :=
 (od ([]:List Int) b0).bind λzs10 =>
 (af tag1 0 255).bind λt12 =>
 (cond (!t12) (some true) (some (decide ((body2.length:Int)>250)))).bind λt18 =>
 cond t18
 (some zs10)
 ((od zs10 [IntKind.u8.wrap (tag1)]).bind λzs24 =>
 cond (decide ((body2.length:Int)>127))
 ((od zs24 ([129]:List Int)).bind λzs30 =>
 (od zs30 [IntKind.u8.wrap ((body2.length:Int))]).bind λzs36 =>
 (od zs36 body2).bind λzs38 =>
 some zs38)
 ((od zs24 [IntKind.u8.wrap ((body2.length:Int))]).bind λzs36_1 =>
 (od zs36_1 body2).bind λzs38_1 =>
 some zs38_1))
def js:FL:=(201,⟨[.val false qA false,.val false nR false,.val false qA false],[.val false qA (some true)],λa=>au a.1 a.2.1 a.2.2⟩)::jr
theorem mK:Gd js:=nV mJ 201 Tryz.f201 [] Tryz.func201
def bz (n0_1:Int) (out3:List Int):Option ((Int×List Int)⊕(List Int)) :=
 (cond (decide (n0_1<(-128))) (some true) (some (decide (n0_1>127)))).bind λt14 =>
 cond t14
 ((od [IntKind.u8.wrap (n0_1.fdiv (2^8))] out3).bind λzs21 =>
 some (.inl (n0_1.fdiv (2^8),zs21)))
 (some (.inr out3))
def bS (n0:Int):Option (List Int) :=
 (aq n0).bind λt5 =>
 (loop (λz=>bz z.1 z.2) (t5,[IntKind.u8.wrap (t5)])).bind λd =>
 some d
def jt:FL:=(300,⟨[.val false nR false],[.val false qA (some true)],λa=>bS a⟩)::js
theorem mL:Gd jt:=nV mK 300 Tryz.f300 [(0,⟨⟨[(0,false,[dI]),(3,false,[.own 1000000000]),(12,false,[.undef]),(13,false,[.undef])],[(1000000000,.root (.one (.int .u8)) true)]⟩,
 ⟨[(3,false,[.own 1000000300])],[(1000000300,.root (.one (.int .u8)) true)]⟩,none⟩)] Tryz.func300
def bA (n0_1:Int) (out3:List Int):Option ((Int×List Int)⊕(List Int)) :=
 cond (decide (n0_1>127))
 ((od [IntKind.u8.wrap (z0 .i64 (qL .i64 (n0_1.fdiv (2^7)) 127) 128)] out3).bind λzs18 =>
 some (.inl (n0_1.fdiv (2^7),zs18)))
 (some (.inr out3))
def eE (n0:Int):Option (List Int) :=
 (loop (λz=>bA z.1 z.2) (n0,[IntKind.u8.wrap (qL .i64 n0 127)])).bind λd =>
 some d
def ju:FL:=(365,⟨[.val false nR false],[.val false qA (some true)],λa=>eE a⟩)::jt
theorem mM:Gd ju:=nV mL 365 Tryz.f365 [(0,⟨⟨[(0,false,[dI]),(3,false,[.own 1000000000])],[(1000000000,.root (.one (.int .u8)) true)]⟩,
 ⟨[(3,false,[.own 1000000300])],[(1000000300,.root (.one (.int .u8)) true)]⟩,none⟩)] Tryz.func365
def bT (o0:List Int) (i4:Int) (b3:List Int):Option ((Int×List Int)⊕(List Int)) :=
 cond (decide (i4<(o0.length:Int)))
 ((at? o0 i4).bind λx19 =>
 (eE x19).bind λt21 =>
 (od b3 t21).bind λzs22 =>
 some (.inl (nK (i4+1),zs22)))
 (some (.inr b3))
def dD (o0:List Int):Option (List Int) :=
 (bx o0).bind λt7 =>
 cond (!t7)
 (some ([]:List Int))
 ((loop (λz=>bT o0 z.1 z.2) (0,([]:List Int))).bind λd =>
 some d)
def jv:FL:=(348,⟨[.val false pH false],[.val false qA (some true)],λa=>dD a⟩)::ju
theorem mN:Gd jv:=nV mM 348 Tryz.f348 [(0,⟨⟨[(3,false,[.own 1000000000]),(4,false,[dI])],[(1000000000,.root (.one (.int .u8)) true)]⟩,
 ⟨[(3,false,[.own 1000000300])],[(1000000300,.root (.one (.int .u8)) true)]⟩,none⟩)] Tryz.func348
def eF (b0:List Int) (v1:qB):Option (List Int) :=
 (cG v1).bind λt7 =>
 cond (!t7)
 ((od ([]:List Int) b0).bind λzs11 =>
 some zs11)
 (cond (v1.1==2)
 ((bS v1.2.1).bind λt19 =>
 (au b0 v1.1 t19).bind λt34 =>
 some t34)
 (cond (v1.1==4)
 ((au b0 v1.1 (rY v1.2.2.1)).bind λt34_1 =>
 some t34_1)
 (cond (v1.1==6)
 ((dD v1.2.2.2).bind λt29 =>
 (au b0 v1.1 t29).bind λt34_2 =>
 some t34_2)
 ((au b0 v1.1 ([]:List Int)).bind λt34_3 =>
 some t34_3))))
def jw:FL:=(347,⟨[.val false qA false,.val true sf false],[.val false qA (some true)],λa=>eF a.1 a.2⟩)::jv
theorem mO:Gd jw:=nV mN 347 Tryz.f347 [] Tryz.func347
def bU (l0:List nJ) (i4:Int) (b3:List Int):Option ((Int×List Int)⊕(List Int)) :=
 cond (decide (i4<(l0.length:Int)))
 ((at? l0 i4).bind λx16 =>
 (dD x16.1).bind λt19 =>
 (au ([]:List Int) 6 t19).bind λt20 =>
 (at? l0 i4).bind λx23 =>
 (eF t20 x23.2).bind λt26 =>
 (au b3 48 t26).bind λt29 =>
 some (.inl (nK (i4+1),t29)))
 (some (.inr b3))
def eG (l0:List nJ):Option (List Int) :=
 (loop (λz=>bU l0 z.1 z.2) (0,([]:List Int))).bind λd =>
 some d
def jx:FL:=(299,⟨[.val false (.one (.sl nU)) false],[.val false qA (some true)],λa=>eG a⟩)::jw
theorem mP:Gd jx:=nV mO 299 Tryz.f299 [(0,⟨⟨[(3,false,[.own 1000000000]),(4,false,[dI])],[(1000000000,.root (.one (.int .u8)) true)]⟩,
 ⟨[(3,false,[.own 1000000300])],[(1000000300,.root (.one (.int .u8)) true)]⟩,none⟩)] Tryz.func299
def fr (p0:oe):Option ((List Int)×Bool) :=
 (eG p0.2.2.2.2).bind λt8 =>
 cond (decide ((t8.length:Int)>250))
 (some (([]:List Int),false))
 ((bS p0.2.1).bind λt16 =>
 (au ([]:List Int) 2 t16).bind λt17 =>
 (bS p0.2.2.1).bind λt20 =>
 (au t17 2 t20).bind λt21 =>
 (bS p0.2.2.2.1).bind λt24 =>
 (au t21 2 t24).bind λt25 =>
 (au t25 48 t8).bind λt28 =>
 let t3:=decide ((t28.length:Int)<=250)
 some (t28,t3))
def jy:FL:=(200,⟨[.val true qu false],[.val false qA (some true),.val false oL (some true)],λa=>fr a⟩)::jx
theorem mQ:Gd jy:=nV mP 200 Tryz.f200 [] Tryz.func200
def eH (p0:oe):Option (List Int) :=
 (dC p0).bind λt6 =>
 cond (!t6)
 (some ([]:List Int))
 ((fr p0).bind λt11 =>
 cond (!t11.2)
 (some ([]:List Int))
 ((au ([]:List Int) p0.1 t11.1).bind λt21 =>
 some t21))
def jz:FL:=(104,⟨[.val true qu false],[.val false qA (some true)],λa=>eH a⟩)::jy
theorem mR:Gd jz:=nV mQ 104 Tryz.f104 [] Tryz.func104
def cH (p0:oe):Option Bool :=
 (eH p0).bind λt4 =>
 (af (t4.length:Int) 1 120).bind λt6 =>
 some t6
def jA:FL:=(25,⟨[.val true qu false],[.val false oL (some true)],λa=>cH a⟩)::jz
theorem mS:Gd jA:=nV mR 25 Tryz.f25 [] Tryz.func25
def cI (l0:List nJ) (i4:Int) (out3:List nJ):Option ((Int×List nJ)⊕(List nJ)) :=
 cond (decide (i4<(l0.length:Int)))
 ((at? l0 i4).bind λx15 =>
 (od ([]:List Int) x15.2.2.2.2).bind λzs21 =>
 (at? l0 i4).bind λx27 =>
 (od ([]:List Int) x27.1).bind λzs30 =>
 (od out3 [(zs30,x15.2.1,x15.2.2.1,x15.2.2.2.1,zs21)]).bind λzs34 =>
 some (.inl (nK (i4+1),zs34)))
 (some (.inr out3))
def dE (l0:List nJ):Option (List nJ) :=
 (loop (λz=>cI l0 z.1 z.2) (0,([]:List nJ))).bind λd =>
 some d
def jB:FL:=(85,⟨[.val false (.one (.sl nU)) false],[.val false (.one (.sl nU)) (some true)],λa=>dE a⟩)::jA
theorem mT:Gd jB:=nV mS 85 Tryz.f85 [(0,⟨⟨[(3,false,[.own 1000000000]),(4,false,[dI])],[(1000000000,.root nU true)]⟩,
 ⟨[(3,false,[.own 1000000300])],[(1000000300,.root nU true)]⟩,none⟩)] Tryz.func85
def bB (bulk1:Bool) (b0:Int) (b1:Int) (b2:Int) (b3:Int) (b4:List nJ):Option ((Int×Int×Int×Int×List nJ)⊕(Int×Int×Int×Int×List nJ)) :=
 (cond bulk1
 ((cH (b0,b1,b2,b3,b4)).bind λt8 =>
 some (!t8))
 (some false)).bind λt10 =>
 (cond t10 (some (decide ((b4.length:Int)>0))) (some false)).bind λt16 =>
 cond t16
 ((qZ b4.length 0 (nK ((b4.length:Int)-1))).bind λp =>
 some (.inl (b0,b1,b2,b3,(b4.take p.2).drop p.1)))
 (some (.inr (b0,b1,b2,b3,b4)))
def cJ (p0:oe) (bulk1:Bool):Option oe :=
 (loop (λz=>bB bulk1 z.1 z.2.1 z.2.2.1 z.2.2.2.1 z.2.2.2.2) p0).bind λd =>
 (cH d).bind λt26 =>
 cond t26 (some d) (some (162,d.2.1,7,0,[]))
def jC:FL:=(87,⟨[.val true qu true,.val false oL false],[.val true qu (some true)],λa=>cJ a.1 a.2⟩)::jB
theorem mU:Gd jC:=nV mT 87 Tryz.f87 [(0,⟨⟨us 7 3 (us 12 4 []),[(1024,.box [dI,dI,dI,dI,.own 1000000000]),(1000000000,.root nU true)]⟩,
 ⟨[],[(1024,.box [dI,dI,dI,dI,.own 1000000300]),(1000000300,.root nU true)]⟩,none⟩)] Tryz.func87
def mV (a0:List Int) (b1:List Int) (i5:Int):Option (Int⊕(Unit⊕Bool)) :=
 cond (decide (i5<(a0.length:Int)))
 ((at? a0 i5).bind λx19 =>
 (at? b1 i5).bind λx23 =>
 cond (x19 != x23) (some (.inr (.inr false))) (some (.inl (nK (i5+1)))))
 (some (.inr (.inl ())))
def bV (a0:List Int) (b1:List Int):Option Bool :=
 cond ((a0.length:Int) != (b1.length:Int))
 (some false)
 ((loop (λz=>mV a0 b1 z) 0).bind (Sum.elim (λd =>
 some true) (λr=>some r)))
def jD:FL:=(289,⟨[.val false pH false,.val false pH false],[.val false oL (some true)],λa=>bV a.1 a.2⟩)::jC
theorem mW:Gd jD:=nV mU 289 Tryz.f289 [(0,⟨⟨[(5,false,[dI])],[]⟩,
 ⟨[],[]⟩,some ⟨[(4,false,[dB])],[]⟩⟩)] Tryz.func289
def ft (o0:List Int) (head1:List Int):Option Bool :=
 (cond (decide ((o0.length:Int)>(head1.length:Int)))
 ((cut o0 0 (head1.length:Int)).bind λt14 =>
 (bV t14 head1).bind λt16 =>
 some t16)
 (some false)).bind λt17 =>
 some t17
def jE:FL:=(369,⟨[.val false pH false,.val false pH false],[.val false oL (some true)],λa=>ft a.1 a.2⟩)::jD
theorem mX:Gd jE:=nV mW 369 Tryz.f369 [] Tryz.func369
def dG (o0:List Int):Option ((List Int)×Bool) :=
 (ft o0 ([1,3,1]:List Int)).bind λt6 =>
 cond (!t6)
 (some (([]:List Int),false))
 ((cut o0 3 (o0.length:Int)).bind λt10 =>
 some (t10,true))
def jF:FL:=(362,⟨[.val false pH false],[.val false pH none,.val false oL (some true)],λa=>dG a⟩)::jE
theorem mY:Gd jF:=nV mX 362 Tryz.f362 [] Tryz.func362
def eI (p0:nI) (i1:List Int):Option Bool :=
 (dG i1).bind λt9 =>
 cond (!t9.2)
 (some false)
 (cond ((t9.1.length:Int)==2)
 ((at? t9.1 0).bind λx18 =>
 (cond (x18==1)
 ((at? t9.1 1).bind λx23 =>
 some (x23==1))
 (some false)).bind λt26 =>
 some t26)
 (cond ((t9.1.length:Int) != 3)
 (some false)
 ((at? t9.1 0).bind λx31 =>
 cond (x31==2)
 ((at? t9.1 1).bind λx36 =>
 (cond (x36==2)
 (some true)
 ((at? t9.1 1).bind λx41 =>
 some (x41==4))).bind λt44 =>
 (cond t44
 ((at? t9.1 2).bind λx47 =>
 (af x47 1 (p0.2.2.1.length:Int)).bind λt52 =>
 some t52)
 (some false)).bind λt53 =>
 some t53)
 (cond (x31==3)
 ((at? t9.1 1).bind λx57 =>
 (cond (x57==1)
 ((at? t9.1 2).bind λx62 =>
 (af x62 1 99).bind λt64 =>
 some t64)
 (some false)).bind λt65 =>
 (cond t65
 (some true)
 ((at? t9.1 1).bind λx68 =>
 (cond (x68==2)
 (some true)
 ((at? t9.1 1).bind λx73 =>
 some (x73==3))).bind λt76 =>
 (cond t76
 ((at? t9.1 2).bind λx81 =>
 (aP (p0.2.2.2.2.1,p0.2.2.2.2.2.1) x81).bind λt83 =>
 some (decide (t83>=0)))
 (some false)).bind λt85 =>
 some t85)).bind λt86 =>
 some t86)
 (some false)))))
def jG:FL:=(338,⟨[.val true o6 false,.val false pH false],[.val false oL (some true)],λa=>eI a.1 a.2⟩)::jF
theorem mZ:Gd jG:=nV mY 338 Tryz.f338 [] Tryz.func338
def eJ (p0:nI) (i1:List Int):Option Bool :=
 (dG i1).bind λt9 =>
 cond (!t9.2)
 (some false)
 (cond ((t9.1.length:Int)==2)
 ((at? t9.1 0).bind λx19 =>
 (cond (x19==1)
 ((at? t9.1 1).bind λx24 =>
 (af x24 2 5).bind λt26 =>
 some t26)
 (some false)).bind λt27 =>
 some t27)
 (cond ((t9.1.length:Int)==3)
 ((at? t9.1 0).bind λx31 =>
 (cond (x31==2)
 ((at? t9.1 1).bind λx36 =>
 (cond (x36==1)
 (some true)
 ((at? t9.1 1).bind λx41 =>
 some (x41==3))).bind λt44 =>
 some t44)
 (some false)).bind λt45 =>
 (cond t45
 ((at? t9.1 2).bind λx48 =>
 (af x48 1 (p0.2.2.1.length:Int)).bind λt53 =>
 some t53)
 (some false)).bind λt54 =>
 some t54)
 (cond ((t9.1.length:Int)==4)
 ((at? t9.1 0).bind λx58 =>
 (cond (x58==4)
 ((at? t9.1 1).bind λx63 =>
 some (x63==1))
 (some false)).bind λt66 =>
 (cond t66
 ((at? t9.1 2).bind λx71 =>
 (at? t9.1 3).bind λx74 =>
 (bo p0.2.2.2.1 x71 x74).bind λt76 =>
 some (decide (t76>=0)))
 (some false)).bind λt78 =>
 some t78)
 (some false))))
def jH:FL:=(339,⟨[.val true o6 false,.val false pH false],[.val false oL (some true)],λa=>eJ a.1 a.2⟩)::jG
theorem n4:Gd jH:=nV mZ 339 Tryz.f339 [] Tryz.func339
def fu (b0:nI) (c1:Int) (p2:Int) (n3:Int):Option (nI×Int) :=
 cond (c1==2)
 ((af n3 1 1000).bind λt13 =>
 cond (!t13)
 (some (b0,2))
 ((ix b0.2.2.1.length p2).bind λj20 =>
 (b0.2.2.1[j20]?).bind λx =>
 some ((b0.1,b0.2.1,b0.2.2.1.set j20 (x.1,n3,x.2.2.1,x.2.2.2.1,x.2.2.2.2.1,x.2.2.2.2.2.1,x.2.2.2.2.2.2.1,x.2.2.2.2.2.2.2),b0.2.2.2.1,b0.2.2.2.2.1,b0.2.2.2.2.2.1,b0.2.2.2.2.2.2.1,b0.2.2.2.2.2.2.2.1,b0.2.2.2.2.2.2.2.2.1,b0.2.2.2.2.2.2.2.2.2.1,b0.2.2.2.2.2.2.2.2.2.2),0)))
 ((ix b0.2.2.2.2.2.1.length p2).bind λj28 =>
 (b0.2.2.2.2.2.1[j28]?).bind λx_1 =>
 some ((b0.1,b0.2.1,b0.2.2.1,b0.2.2.2.1,b0.2.2.2.2.1,b0.2.2.2.2.2.1.set j28 n3,b0.2.2.2.2.2.2.1,b0.2.2.2.2.2.2.2.1,b0.2.2.2.2.2.2.2.2.1,b0.2.2.2.2.2.2.2.2.2.1,b0.2.2.2.2.2.2.2.2.2.2),0))
def jI:FL:=(340,⟨[.val true o6 true,.val false nR false,.val false nR false,.val false nR false],[.val true o6 (some true),.val false nR (some true)],λa=>fu a.1 a.2.1 a.2.2.1 a.2.2.2⟩)::jH
theorem na:Gd jI:=nV n4 340 Tryz.f340 [] Tryz.func340
def fv (b0:nI) (id1:Int) (n2:Int):Option (nI×Int) :=
 (aP (b0.2.2.2.2.1,b0.2.2.2.2.2.1) id1).bind λt12 =>
 (cond (n2==4) (some (decide (t12<0))) (some false)).bind λt19 =>
 (cond t19 (some (decide ((b0.2.2.2.2.1.length:Int)<6))) (some false)).bind λt26 =>
 cond t26
 ((aQ (b0.2.2.2.2.1,b0.2.2.2.2.2.1) (id1,0,0)).bind λt31 =>
 some ((b0.1,b0.2.1,b0.2.2.1,b0.2.2.2.1,t31.1,t31.2,b0.2.2.2.2.2.2.1,b0.2.2.2.2.2.2.2.1,b0.2.2.2.2.2.2.2.2.1,b0.2.2.2.2.2.2.2.2.2.1,b0.2.2.2.2.2.2.2.2.2.2),0))
 ((cond (n2==6) (some (decide (t12>=0))) (some false)).bind λt40 =>
 cond t40
 ((qZ b0.2.2.2.2.1.length 0 t12).bind λp =>
 (od ([]:List nW) ((b0.2.2.2.2.1.take p.2).drop p.1)).bind λzs47 =>
 (qZ b0.2.2.2.2.1.length (nK (t12+1)) (b0.2.2.2.2.1.length:Int)).bind λp_1 =>
 (od zs47 ((b0.2.2.2.2.1.take p_1.2).drop p_1.1)).bind λzs54 =>
 some ((b0.1,b0.2.1,b0.2.2.1,b0.2.2.2.1,zs54,b0.2.2.2.2.2.1,b0.2.2.2.2.2.2.1,b0.2.2.2.2.2.2.2.1,b0.2.2.2.2.2.2.2.2.1,b0.2.2.2.2.2.2.2.2.2.1,b0.2.2.2.2.2.2.2.2.2.2),0))
 (some (b0,2)))
def jJ:FL:=(363,⟨[.val true o6 true,.val false nR false,.val false nR false],[.val true o6 (some true),.val false nR (some true)],λa=>fv a.1 a.2.1 a.2.2⟩)::jI
theorem nb:Gd jJ:=nV na 363 Tryz.f363 [] Tryz.func363
def eK (b0:nI) (c1:Int) (id2:Int) (n3:Int):Option (nI×Int) :=
 cond (c1==1)
 ((fv b0 id2 n3).bind λt16 =>
 some t16)
 ((shl .i64 1 (IntKind.u64.wrap ((b0.2.2.1.length:Int)))).bind λt24 =>
 (af n3 0 (nK (t24-1))).bind λt26 =>
 cond (!t26)
 (some (b0,2))
 ((aP (b0.2.2.2.2.1,b0.2.2.2.2.2.1) id2).bind λt35 =>
 (ix b0.2.2.2.2.1.length t35).bind λj36 =>
 (b0.2.2.2.2.1[j36]?).bind λx37 =>
 cond (c1==2)
 ((aQ (b0.2.2.2.2.1,b0.2.2.2.2.2.1) (x37.1,n3,x37.2.2)).bind λt47 =>
 some ((b0.1,b0.2.1,b0.2.2.1,b0.2.2.2.1,t47.1,t47.2,b0.2.2.2.2.2.2.1,b0.2.2.2.2.2.2.2.1,b0.2.2.2.2.2.2.2.2.1,b0.2.2.2.2.2.2.2.2.2.1,b0.2.2.2.2.2.2.2.2.2.2),0))
 ((aQ (b0.2.2.2.2.1,b0.2.2.2.2.2.1) (x37.1,x37.2.1,n3)).bind λt47_1 =>
 some ((b0.1,b0.2.1,b0.2.2.1,b0.2.2.2.1,t47_1.1,t47_1.2,b0.2.2.2.2.2.2.1,b0.2.2.2.2.2.2.2.1,b0.2.2.2.2.2.2.2.2.1,b0.2.2.2.2.2.2.2.2.2.1,b0.2.2.2.2.2.2.2.2.2.2),0))))
def jK:FL:=(341,⟨[.val true o6 true,.val false nR false,.val false nR false,.val false nR false],[.val true o6 (some true),.val false nR (some true)],λa=>eK a.1 a.2.1 a.2.2.1 a.2.2.2⟩)::jJ
theorem nc:Gd jK:=nV nb 341 Tryz.f341 [] Tryz.func341
def dH (p0:nI) (i1:nJ):Option (nI×Int) :=
 (aJ p0).bind λt9 =>
 (eI p0 i1.1).bind λt13 =>
 cond (!t13)
 ((eJ p0 i1.1).bind λt18 =>
 cond t18 (some (t9,4)) (some (t9,3)))
 ((cut i1.1 3 (i1.1.length:Int)).bind λt23 =>
 (at? t23 0).bind λx25 =>
 cond (x25==1)
 (cond (i1.2.1 != 4)
 (some (t9,1))
 (let t34:=decide ((i1.2.2.2.1.length:Int)>10)
 cond t34
 (some (t9,2))
 (some ((t9.1,i1.2.2.2.1,t9.2.2.1,t9.2.2.2.1,t9.2.2.2.2.1,t9.2.2.2.2.2.1,t9.2.2.2.2.2.2.1,t9.2.2.2.2.2.2.2.1,t9.2.2.2.2.2.2.2.2.1,t9.2.2.2.2.2.2.2.2.2.1,t9.2.2.2.2.2.2.2.2.2.2),0))))
 (cond (i1.2.1 != 2)
 (some (t9,1))
 ((at? t23 0).bind λx52 =>
 cond (x52==2)
 ((at? t23 1).bind λx57 =>
 (at? t23 2).bind λx60 =>
 (fu t9 x57 (nK (x60-1)) i1.2.2.1).bind λt66 =>
 some t66)
 ((at? t23 1).bind λx71 =>
 (at? t23 2).bind λx74 =>
 (eK t9 x71 x74 i1.2.2.1).bind λt79 =>
 some t79))))
def jL:FL:=(290,⟨[.val true o6 false,.val true nU false],[.val true o6 (some true),.val false nR (some true)],λa=>dH a.1 a.2⟩)::jK
theorem nd:Gd jL:=nV nc 290 Tryz.f290 [] Tryz.func290
def eL (n0:Int):Option Int :=
 cond (decide (n0>=1000000)) (some n0) (some (nK (n0+1)))
def jM:FL:=(143,⟨[.val false nR false],[.val false nR (some true)],λa=>eL a⟩)::jL
theorem ne:Gd jM:=nV nd 143 Tryz.f143 [] Tryz.func143
def dJ (id0:Int) (l1:List Pt) (n5:Int) (i6:Int):Option ((Int×Int)⊕Int) :=
 (cond (decide (i6<(l1.length:Int))) (some (decide (i6<6))) (some false)).bind λt14 =>
 cond t14
 ((d7 id0 l1 i6).bind λt20 =>
 cond (decide (t20<=2))
 ((shl .i64 1 (IntKind.u64.wrap (i6))).bind λt25 =>
 some (.inl (z0 .i64 n5 t25,nK (i6+1))))
 (some (.inl (n5,nK (i6+1)))))
 (some (.inr n5))
def eM (id0:Int) (l1:List Pt):Option Int :=
 (loop (λz=>dJ id0 l1 z.1 z.2) (0,0)).bind λd =>
 some d
def jN:FL:=(255,⟨[.val false nR false,.val false (.one (.sl pI)) false],[.val false nR (some true)],λa=>eM a.1 a.2⟩)::jM
theorem ng:Gd jN:=nV ne 255 Tryz.f255 [(0,⟨⟨[(5,false,[dI]),(6,false,[dI]),(12,false,[.undef]),(13,false,[.undef])],[]⟩,
 ⟨[(5,false,[dI])],[]⟩,none⟩)] Tryz.func255
def eN (n0:Int) (port1:Int):Option Bool :=
 (af port1 0 7).bind λt6 =>
 (cond t6
 ((shr .i64 n0 (IntKind.u64.wrap (port1))).bind λt11 =>
 some ((qL .i64 t11 1)==1))
 (some false)).bind λt14 =>
 some t14
def jO:FL:=(257,⟨[.val false nR false,.val false nR false],[.val false oL (some true)],λa=>eN a.1 a.2⟩)::jN
theorem nh:Gd jO:=nV ng 257 Tryz.f257 [] Tryz.func257
def cK (l0:List nO) (port1:Int) (i6:Int) (out5:List nO):Option ((Int×List nO)⊕(List nO)) :=
 cond (decide (i6<(l0.length:Int)))
 ((at? l0 i6).bind λx16 =>
 (cond x16.2.2.2.2
 (some true)
 ((at? l0 i6).bind λx22 =>
 some (x22.2.2.1 != port1))).bind λt27 =>
 cond t27
 ((at? l0 i6).bind λx31 =>
 (od out5 [x31]).bind λzs34 =>
 some (.inl (nK (i6+1),zs34)))
 (some (.inl (nK (i6+1),out5))))
 (some (.inr out5))
def eO (l0:List nO) (port1:Int):Option (List nO) :=
 (loop (λz=>cK l0 port1 z.1 z.2) (0,([]:List nO))).bind λd =>
 some d
def jP:FL:=(342,⟨[.val false (.one (.sl og)) false,.val false nR false],[.val false (.one (.sl og)) (some true)],λa=>eO a.1 a.2⟩)::jO
theorem ni:Gd jP:=nV nh 342 Tryz.f342 [(0,⟨⟨(5,false,[.own 1000000000])::(6,false,[dI])::us 20 7 [],[(1000000000,.root og true)]⟩,
 ⟨[(5,false,[.own 1000000300])],[(1000000300,.root og true)]⟩,none⟩)] Tryz.func342
def eP (b0:nI) (t13:Int) (i4:Int) (b0_1:Int) (b1:List UInt8) (b6:Int) (b7:Int) (b8:Int) (b9:Int) (b10:Int) (b3:List nO):Option ((Int×Int×List UInt8×Int×Int×Int×Int×Int×List nO)⊕(Int×List UInt8×Int×Int×Int×Int×Int×List nO)) :=
 cond (decide (i4<(b0.2.2.1.length:Int)))
 ((eN t13 i4).bind λt23 =>
 cond (!t23)
 ((eO b3 i4).bind λt28 =>
 some (.inl (nK (i4+1),b0_1,b1,b6,b7,b8,b9,b10,t28)))
 (some (.inl (nK (i4+1),b0_1,b1,b6,b7,b8,b9,b10,b3))))
 (some (.inr (b0_1,b1,b6,b7,b8,b9,b10,b3)))
def cL (b0:nI):Option nI :=
 (eL b0.2.2.2.2.2.2.2.2.2.2).bind λt7 =>
 (eM b0.1 b0.2.2.1).bind λt13 =>
 (loop (λz=>eP b0 t13 z.1 z.2.1 z.2.2.1 z.2.2.2.1 z.2.2.2.2.1 z.2.2.2.2.2.1 z.2.2.2.2.2.2.1 z.2.2.2.2.2.2.2.1 z.2.2.2.2.2.2.2.2) (0,b0.1,b0.2.1,b0.2.2.2.2.2.2.1,b0.2.2.2.2.2.2.2.1,b0.2.2.2.2.2.2.2.2.1,b0.2.2.2.2.2.2.2.2.2.1,t7,b0.2.2.2.1)).bind λd =>
 some (d.1,d.2.1,b0.2.2.1,d.2.2.2.2.2.2.2,b0.2.2.2.2.1,b0.2.2.2.2.2.1,d.2.2.1,d.2.2.2.1,d.2.2.2.2.1,d.2.2.2.2.2.1,d.2.2.2.2.2.2.1)
def jQ:FL:=(291,⟨[.val true o6 true],[.val true o6 (some true)],λa=>cL a⟩)::jP
theorem nj:Gd jQ:=nV ni 291 Tryz.f291 [(0,⟨⟨[(4,false,[dI])],[(1024,.box [dI,dS,.same 3,.own 1000000000,.same 5,.same 6,dI,dI,dI,dI,dI]),(1000000000,.root og true)]⟩,
 ⟨[],[(1024,.box [dI,dS,.same 3,.own 1000000300,.same 5,.same 6,dI,dI,dI,dI,dI]),(1000000300,.root og true)]⟩,none⟩)] Tryz.func291
def dK (p0:nI) (i1:List nJ) (t8:Int) (t9:Int) (b0_2:Int) (b1_2:List UInt8) (b6_2:Int) (b7_2:Int) (b8_2:Int) (b9_2:Int) (b10_2:Int):Option ((Int×Int×List UInt8×Int×Int×Int×Int×Int)⊕((Int×List UInt8×Int×Int×Int×Int×Int)⊕(Int×Int×Int×List UInt8×Int×Int×Int×Int×Int×List Pt×List nO×List nW×List Int))) :=
 cond (decide (t9<t8))
 ((at? i1 t9).bind λx36 =>
 (at? i1 t8).bind λx41 =>
 (bV x36.1 x41.1).bind λt44 =>
 cond t44
 ((aJ p0).bind λt46 =>
 some (.inr (.inr (5,nK (t8+1),t46.1,t46.2.1,t46.2.2.2.2.2.2.1,t46.2.2.2.2.2.2.2.1,t46.2.2.2.2.2.2.2.2.1,t46.2.2.2.2.2.2.2.2.2.1,t46.2.2.2.2.2.2.2.2.2.2,t46.2.2.1,t46.2.2.2.1,t46.2.2.2.2.1,t46.2.2.2.2.2.1))))
 (some (.inl (nK (t9+1),b0_2,b1_2,b6_2,b7_2,b8_2,b9_2,b10_2))))
 (some (.inr (.inl (b0_2,b1_2,b6_2,b7_2,b8_2,b9_2,b10_2))))
def eQ (p0:nI) (i1:List nJ) (t8:Int) (b0:Int) (b1:List UInt8) (b6:Int) (b7:Int) (b8:Int) (b9:Int) (b10:Int) (b0_1:Int) (b1_1:List UInt8) (b6_1:Int) (b7_1:Int) (b8_1:Int) (b9_1:Int) (b10_1:Int) (b2:List Pt) (b3:List nO) (b4:List nW) (b5:List Int) (b2_1:List Pt) (b3_1:List nO) (b4_1:List nW) (b5_1:List Int):Option ((Int×Int×List UInt8×Int×Int×Int×Int×Int×Int×List UInt8×Int×Int×Int×Int×Int×List Pt×List nO×List nW×List Int×List Pt×List nO×List nW×List Int)⊕((Int×List UInt8×Int×Int×Int×Int×Int×Int×List UInt8×Int×Int×Int×Int×Int×List Pt×List nO×List nW×List Int×List Pt×List nO×List nW×List Int)⊕(Int×Int×Int×List UInt8×Int×Int×Int×Int×Int×List Pt×List nO×List nW×List Int))) :=
 cond (decide (t8<(i1.length:Int)))
 ((loop (λz=>dK p0 i1 t8 z.1 z.2.1 z.2.2.1 z.2.2.2.1 z.2.2.2.2.1 z.2.2.2.2.2.1 z.2.2.2.2.2.2.1 z.2.2.2.2.2.2.2) (0,b0,b1,b6,b7,b8,b9,b10)).bind (Sum.elim (λd =>
 (at? i1 t8).bind λx53 =>
 (dH (b0_1,b1_1,b2_1,b3_1,b4_1,b5_1,b6_1,b7_1,b8_1,b9_1,b10_1) x53).bind λt55 =>
 cond (t55.2 != 0)
 ((aJ p0).bind λt61 =>
 some (.inr (.inr (t55.2,nK (t8+1),t61.1,t61.2.1,t61.2.2.2.2.2.2.1,t61.2.2.2.2.2.2.2.1,t61.2.2.2.2.2.2.2.2.1,t61.2.2.2.2.2.2.2.2.2.1,t61.2.2.2.2.2.2.2.2.2.2,t61.2.2.1,t61.2.2.2.1,t61.2.2.2.2.1,t61.2.2.2.2.2.1))))
 (some (.inl (nK (t8+1),d.1,d.2.1,d.2.2.1,d.2.2.2.1,d.2.2.2.2.1,d.2.2.2.2.2.1,d.2.2.2.2.2.2,t55.1.1,t55.1.2.1,t55.1.2.2.2.2.2.2.1,t55.1.2.2.2.2.2.2.2.1,t55.1.2.2.2.2.2.2.2.2.1,t55.1.2.2.2.2.2.2.2.2.2.1,t55.1.2.2.2.2.2.2.2.2.2.2,b2,b3,b4,b5,t55.1.2.2.1,t55.1.2.2.2.1,t55.1.2.2.2.2.1,t55.1.2.2.2.2.2.1)))) (λr=>some (.inr (.inr r)))))
 (some (.inr (.inl (b0,b1,b6,b7,b8,b9,b10,b0_1,b1_1,b6_1,b7_1,b8_1,b9_1,b10_1,b2,b3,b4,b5,b2_1,b3_1,b4_1,b5_1))))
def eR (p0:nI) (i1:List nJ):Option (nI×Int×Int) :=
 (aJ p0).bind λt13 =>
 (cj p0).bind λt15 =>
 (cond (!t15) (some (decide ((i1.length:Int)>0))) (some false)).bind λt21 =>
 cond t21
 (some (t13,3,1))
 ((loop (λz=>eQ p0 i1 z.1 z.2.1 z.2.2.1 z.2.2.2.1 z.2.2.2.2.1 z.2.2.2.2.2.1 z.2.2.2.2.2.2.1 z.2.2.2.2.2.2.2.1 z.2.2.2.2.2.2.2.2.1 z.2.2.2.2.2.2.2.2.2.1 z.2.2.2.2.2.2.2.2.2.2.1 z.2.2.2.2.2.2.2.2.2.2.2.1 z.2.2.2.2.2.2.2.2.2.2.2.2.1 z.2.2.2.2.2.2.2.2.2.2.2.2.2.1 z.2.2.2.2.2.2.2.2.2.2.2.2.2.2.1 z.2.2.2.2.2.2.2.2.2.2.2.2.2.2.2.1 z.2.2.2.2.2.2.2.2.2.2.2.2.2.2.2.2.1 z.2.2.2.2.2.2.2.2.2.2.2.2.2.2.2.2.2.1 z.2.2.2.2.2.2.2.2.2.2.2.2.2.2.2.2.2.2.1 z.2.2.2.2.2.2.2.2.2.2.2.2.2.2.2.2.2.2.2.1 z.2.2.2.2.2.2.2.2.2.2.2.2.2.2.2.2.2.2.2.2.1 z.2.2.2.2.2.2.2.2.2.2.2.2.2.2.2.2.2.2.2.2.2.1 z.2.2.2.2.2.2.2.2.2.2.2.2.2.2.2.2.2.2.2.2.2.2) (0,0,[],0,0,0,0,0,t13.1,t13.2.1,t13.2.2.2.2.2.2.1,t13.2.2.2.2.2.2.2.1,t13.2.2.2.2.2.2.2.2.1,t13.2.2.2.2.2.2.2.2.2.1,t13.2.2.2.2.2.2.2.2.2.2,[],[],[],[],t13.2.2.1,t13.2.2.2.1,t13.2.2.2.2.1,t13.2.2.2.2.2.1)).bind (Sum.elim (λd_1 =>
 cond ((i1.length:Int)==0)
 (some ((d_1.2.2.2.2.2.2.2.1,d_1.2.2.2.2.2.2.2.2.1,d_1.2.2.2.2.2.2.2.2.2.2.2.2.2.2.2.2.2.2.1,d_1.2.2.2.2.2.2.2.2.2.2.2.2.2.2.2.2.2.2.2.1,d_1.2.2.2.2.2.2.2.2.2.2.2.2.2.2.2.2.2.2.2.2.1,d_1.2.2.2.2.2.2.2.2.2.2.2.2.2.2.2.2.2.2.2.2.2,d_1.2.2.2.2.2.2.2.2.2.1,d_1.2.2.2.2.2.2.2.2.2.2.1,d_1.2.2.2.2.2.2.2.2.2.2.2.1,d_1.2.2.2.2.2.2.2.2.2.2.2.2.1,d_1.2.2.2.2.2.2.2.2.2.2.2.2.2.1),0,0))
 ((az d_1.2.2.2.2.2.2.2.2.2.2.2.2.2.2.2.2.2.2.2.2 (d_1.2.2.2.2.2.2.2.2.2.2.2.2.2.2.2.2.2.2.1.length:Int)).bind λt75 =>
 cond (!t75)
 ((aJ p0).bind λt78 =>
 some (t78,5,(i1.length:Int)))
 ((cL (d_1.2.2.2.2.2.2.2.1,d_1.2.2.2.2.2.2.2.2.1,d_1.2.2.2.2.2.2.2.2.2.2.2.2.2.2.2.2.2.2.1,d_1.2.2.2.2.2.2.2.2.2.2.2.2.2.2.2.2.2.2.2.1,d_1.2.2.2.2.2.2.2.2.2.2.2.2.2.2.2.2.2.2.2.2.1,d_1.2.2.2.2.2.2.2.2.2.2.2.2.2.2.2.2.2.2.2.2.2,d_1.2.2.2.2.2.2.2.2.2.1,d_1.2.2.2.2.2.2.2.2.2.2.1,d_1.2.2.2.2.2.2.2.2.2.2.2.1,d_1.2.2.2.2.2.2.2.2.2.2.2.2.1,d_1.2.2.2.2.2.2.2.2.2.2.2.2.2.1)).bind λt82 =>
 some (t82,0,0)))) (λr_1=>some ((r_1.2.2.1,r_1.2.2.2.1,r_1.2.2.2.2.2.2.2.2.2.1,r_1.2.2.2.2.2.2.2.2.2.2.1,r_1.2.2.2.2.2.2.2.2.2.2.2.1,r_1.2.2.2.2.2.2.2.2.2.2.2.2,r_1.2.2.2.2.1,r_1.2.2.2.2.2.1,r_1.2.2.2.2.2.2.1,r_1.2.2.2.2.2.2.2.1,r_1.2.2.2.2.2.2.2.2.1),r_1.1,r_1.2.1))))
def jR:FL:=(177,⟨[.val true o6 false,.val false (.one (.sl nU)) false],[.val true o6 (some true),.val false nR (some true),.val false nR (some true)],λa=>eR a.1 a.2⟩)::jQ
theorem nk:Gd jR:=nV nj 177 Tryz.f177 [(0,⟨⟨[(8,false,[dI])],[(2048,.box [dI,dS,.own 1000000000,.own 1000000001,.own 1000000002,.own 1000000003,dI,dI,dI,dI,dI]),(265216,.box [dI,dS,.own 1000000004,.own 1000000005,.own 1000000006,.own 1000000007,dI,dI,dI,dI,dI]),(1000000000,.root pI true),(1000000001,.root og true),(1000000002,.root oK true),(1000000003,.root nR true),(1000000004,.root pI true),(1000000005,.root og true),(1000000006,.root oK true),(1000000007,.root nR true)]⟩,
 ⟨[],[(2048,.box [dI,dS,.own 1000000300,.own 1000000301,.own 1000000302,.own 1000000303,dI,dI,dI,dI,dI]),(265216,.box [dI,dS,.own 1000000304,.own 1000000305,.own 1000000306,.own 1000000307,dI,dI,dI,dI,dI]),(1000000300,.root pI true),(1000000301,.root og true),(1000000302,.root oK true),(1000000303,.root nR true),(1000000304,.root pI true),(1000000305,.root og true),(1000000306,.root oK true),(1000000307,.root nR true)]⟩,some ⟨[(5,false,[dI]),(6,false,[dI])],[(2048,.box [dI,dS,.own 1000000600,.own 1000000601,.own 1000000602,.own 1000000603,dI,dI,dI,dI,dI]),(1000000600,.root pI true),(1000000601,.root og true),(1000000602,.root oK true),(1000000603,.root nR true)]⟩⟩),
 (2,⟨⟨[(9,false,[dI])],[(2048,.box [dI,dS,.same 1000000000,.same 1000000001,.same 1000000002,.same 1000000003,dI,dI,dI,dI,dI])]⟩,
 ⟨[],[(2048,.box [dI,dS,.same 1000000000,.same 1000000001,.same 1000000002,.same 1000000003,dI,dI,dI,dI,dI])]⟩,some ⟨[(5,false,[dI]),(6,false,[dI])],[(2048,.box [dI,dS,.own 1000002600,.own 1000002601,.own 1000002602,.own 1000002603,dI,dI,dI,dI,dI]),(1000002600,.root pI true),(1000002601,.root og true),(1000002602,.root oK true),(1000002603,.root nR true)]⟩⟩)] Tryz.func177
def eS (b0:nI) (p1:oe):Option (nI×oe) :=
 (dE p1.2.2.2.2).bind λt14 =>
 (eR b0 p1.2.2.2.2).bind λt20 =>
 (cH (162,p1.2.1,t20.2.1,t20.2.2,t14)).bind λt29 =>
 (cond (!t29) (some true) (some (t20.2.1 != 0))).bind λt34 =>
 cond t34
 ((aJ b0).bind λt36 =>
 (cJ (162,p1.2.1,t20.2.1,t20.2.2,t14) false).bind λt38 =>
 some (t36,t38))
 (some (t20.1,(162,p1.2.1,t20.2.1,t20.2.2,t14)))
def jS:FL:=(84,⟨[.val true o6 false,.val true qu false],[.val true o6 (some true),.val true qu (some true)],λa=>eS a.1 a.2⟩)::jR
theorem nl:Gd jS:=nV nk 84 Tryz.f84 [] Tryz.func84
def nn (a0:List Int) (b1:List Int) (i5:Int):Option (Int⊕(Unit⊕Bool)) :=
 (cond (decide (i5<(a0.length:Int))) (some (decide (i5<(b1.length:Int)))) (some false)).bind λt15 =>
 cond t15
 ((at? a0 i5).bind λx20 =>
 (at? b1 i5).bind λx24 =>
 cond (x20 != x24)
 ((at? a0 i5).bind λx29 =>
 (at? b1 i5).bind λx33 =>
 some (.inr (.inr (decide (x29<x33)))))
 (some (.inl (nK (i5+1)))))
 (some (.inr (.inl ())))
def fw (a0:List Int) (b1:List Int):Option Bool :=
 (loop (λz=>nn a0 b1 z) 0).bind (Sum.elim (λd =>
 let t4:=decide ((a0.length:Int)<(b1.length:Int))
 some t4) (λr=>some r))
def jT:FL:=(343,⟨[.val false pH false,.val false pH false],[.val false oL (some true)],λa=>fw a.1 a.2⟩)::jS
theorem np:Gd jT:=nV nl 343 Tryz.f343 [(0,⟨⟨(5,false,[dI])::us 11 4 [],[]⟩,
 ⟨[],[]⟩,some ⟨[(4,false,[dB])],[]⟩⟩)] Tryz.func343
def fx (o1:List Int) (t8:List nJ) (i6:Int) (b1:Int) (b2:Int) (b3:List UInt8) (b0_1:List Int) (b4:List Int):Option ((Int×Int×Int×List UInt8×List Int×List Int)⊕((Int×Int×List UInt8×List Int×List Int)⊕(List Int×Int×Int×List UInt8×List Int))) :=
 cond (decide (i6<(t8.length:Int)))
 ((ix t8.length i6).bind λj18 =>
 (t8[j18]?).bind λx20 =>
 (fw o1 x20.1).bind λt21 =>
 cond t21
 ((ix t8.length i6).bind λj24 =>
 (t8[j24]?).bind λx25 =>
 some (.inr (.inr x25)))
 (some (.inl (nK (i6+1),b1,b2,b3,b0_1,b4))))
 (some (.inr (.inl (b1,b2,b3,b0_1,b4))))
def eT (b0:nI) (o1:List Int):Option nJ :=
 (bI b0).bind λt8 =>
 (loop (λz=>fx o1 t8 z.1 z.2.1 z.2.2.1 z.2.2.2.1 z.2.2.2.2.1 z.2.2.2.2.2) (0,0,0,[],[],[])).bind (Sum.elim (λd =>
 (od ([]:List Int) o1).bind λzs28 =>
 some (zs28,130,0,[],[])) (λr=>some r))
def jU:FL:=(292,⟨[.val true o6 false,.val false pH false],[.val true nU none],λa=>eT a.1 a.2⟩)::jT
theorem nq:Gd jU:=nV np 292 Tryz.f292 [(0,⟨⟨[(6,false,[dI])],[(2048,.box [.own 1000000000,dI,dI,dS,.own 1000000001]),(1000000000,.root nR true),(1000000001,.root nR true)]⟩,
 ⟨[],[(2048,.box [.own 1000000300,dI,dI,dS,.own 1000000301]),(1000000300,.root nR true),(1000000301,.root nR true)]⟩,some ⟨[],[(2048,.box [.dat (.sl nR),dI,dI,dS,.dat (.sl nR)])]⟩⟩)] Tryz.func292
def dL (b0:nI) (from1:List nJ) (i6:Int) (out5:List nJ):Option ((Int×List nJ)⊕(List nJ)) :=
 cond (decide (i6<(from1.length:Int)))
 ((at? from1 i6).bind λx16 =>
 cond (x16.2.1==130)
 ((at? from1 i6).bind λx24 =>
 (od out5 [x24]).bind λzs27 =>
 some (.inl (nK (i6+1),zs27)))
 ((at? from1 i6).bind λx32 =>
 (eT b0 x32.1).bind λt35 =>
 (od out5 [t35]).bind λzs37 =>
 some (.inl (nK (i6+1),zs37))))
 (some (.inr out5))
def aW (b0:nI) (from1:List nJ):Option (List nJ) :=
 (loop (λz=>dL b0 from1 z.1 z.2) (0,([]:List nJ))).bind λd =>
 some d
def jV:FL:=(178,⟨[.val true o6 false,.val false (.one (.sl nU)) false],[.val false (.one (.sl nU)) (some false)],λa=>aW a.1 a.2⟩)::jU
theorem nr:Gd jV:=nV nq 178 Tryz.f178 [(0,⟨⟨[(5,false,[.own 1000000000]),(6,false,[dI])],[(1000000000,.root nU false)]⟩,
 ⟨[(5,false,[.own 1000000300])],[(1000000300,.root nU false)]⟩,none⟩)] Tryz.func178
def dM (l0:List nJ) (i4:Int) (out3:List nJ):Option ((Int×List nJ)⊕(List nJ)) :=
 cond (decide (i4<(l0.length:Int)))
 ((at? l0 i4).bind λx15 =>
 (od out3 ([(x15.1,5,0,[],[])])).bind λzs21 =>
 some (.inl (nK (i4+1),zs21)))
 (some (.inr out3))
def bW (l0:List nJ):Option (List nJ) :=
 (loop (λz=>dM l0 z.1 z.2) (0,([]:List nJ))).bind λd =>
 some d
def jW:FL:=(179,⟨[.val false (.one (.sl nU)) false],[.val false (.one (.sl nU)) (some false)],λa=>bW a⟩)::jV
theorem nu:Gd jW:=nV nr 179 Tryz.f179 [(0,⟨⟨[(3,false,[.own 1000000000]),(4,false,[dI])],[(1000000000,.root nU false)]⟩,
 ⟨[(3,false,[.own 1000000300])],[(1000000300,.root nU false)]⟩,none⟩)] Tryz.func179
def bj (b0:nI) (p1:oe) (told8:List nJ) (i9:Int) (out7:List nJ):Option ((List nJ×Int×List nJ)⊕(List nJ)) :=
 (cond (decide (i9<p1.2.2.2.1)) (some (decide ((told8.length:Int)>0))) (some false)).bind λt39 =>
 (cond t39 (some (decide ((out7.length:Int)<10))) (some false)).bind λt44 =>
 cond t44
 ((aW b0 told8).bind λt49 =>
 (od out7 t49).bind λzs52 =>
 some (.inl (t49,nK (i9+1),zs52)))
 (some (.inr out7))
def nv (b0:nI) (p1:oe) (told8_1:List nJ) (i9_1:Int) (out7_2:List nJ):Option ((List nJ×Int×List nJ)⊕(List nJ)) :=
 (cond (decide (i9_1<p1.2.2.2.1)) (some (decide ((told8_1.length:Int)>0))) (some false)).bind λt39_1 =>
 (cond t39_1 (some (decide ((out7_2.length:Int)<10))) (some false)).bind λt44_1 =>
 cond t44_1
 ((aW b0 told8_1).bind λt49_1 =>
 (od out7_2 t49_1).bind λzs52_1 =>
 some (.inl (t49_1,nK (i9_1+1),zs52_1)))
 (some (.inr out7_2))
def eU (b0:nI) (p1:oe):Option (List nJ) :=
 cond (decide (p1.2.2.1>(p1.2.2.2.2.length:Int)))
 (let k5:=(p1.2.2.2.2.length:Int)
 (bW p1.2.2.2.2).bind λt22 =>
 (qZ t22.length 0 k5).bind λp =>
 (aW b0 ((t22.take p.2).drop p.1)).bind λt27 =>
 (cut t22 k5 (t22.length:Int)).bind λt30 =>
 (loop (λz=>bj b0 p1 z.1 z.2.1 z.2.2) (t30,0,t27)).bind λd =>
 cond (decide ((d.length:Int)>10))
 ((qZ d.length 0 10).bind λp_1 =>
 some ((d.take p_1.2).drop p_1.1))
 (some d))
 ((bW p1.2.2.2.2).bind λt22_1 =>
 (qZ t22_1.length 0 p1.2.2.1).bind λp_2 =>
 (aW b0 ((t22_1.take p_2.2).drop p_2.1)).bind λt27_1 =>
 (cut t22_1 p1.2.2.1 (t22_1.length:Int)).bind λt30_1 =>
 (loop (λz=>nv b0 p1 z.1 z.2.1 z.2.2) (t30_1,0,t27_1)).bind λd_1 =>
 cond (decide ((d_1.length:Int)>10))
 ((qZ d_1.length 0 10).bind λp_3 =>
 some ((d_1.take p_3.2).drop p_3.1))
 (some d_1))
def jX:FL:=(180,⟨[.val true o6 false,.val true qu false],[.val false (.one (.sl nU)) (some false)],λa=>eU a.1 a.2⟩)::jW
theorem nx:Gd jX:=nV nu 180 Tryz.f180 [(0,⟨⟨(7,false,[.own 1000000000])::(8,false,[.dat (.sl nU)])::(9,false,[dI])::us 36 3 (us 41 3 []),[(1000000000,.root nU false)]⟩,
 ⟨[(7,false,[.own 1000000300])],[(1000000300,.root nU false)]⟩,none⟩)] Tryz.func180
def fy (o1:List Int) (t8:List nJ) (i6:Int) (b0_1:Int) (b1:Int) (b2:List UInt8) (b3:List Int):Option ((Int×Int×Int×List UInt8×List Int)⊕((Int×Int×List UInt8×List Int)⊕(Int×Int×List UInt8×List Int))) :=
 cond (decide (i6<(t8.length:Int)))
 ((ix t8.length i6).bind λj17 =>
 (t8[j17]?).bind λx19 =>
 (bV x19.1 o1).bind λt21 =>
 cond t21
 ((ix t8.length i6).bind λj24 =>
 (t8[j24]?).bind λx26 =>
 some (.inr (.inr x26.2)))
 (some (.inl (nK (i6+1),b0_1,b1,b2,b3))))
 (some (.inr (.inl (b0_1,b1,b2,b3))))
def eV (b0:nI) (o1:List Int):Option qB :=
 (bI b0).bind λt8 =>
 (loop (λz=>fy o1 t8 z.1 z.2.1 z.2.2.1 z.2.2.2.1 z.2.2.2.2) (0,0,0,[],[])).bind (Sum.elim (λd =>
 some (128,0,[],[])) (λr=>some r))
def jY:FL:=(181,⟨[.val true o6 false,.val false pH false],[.val true sf none],λa=>eV a.1 a.2⟩)::jX
theorem ny:Gd jY:=nV nx 181 Tryz.f181 [(0,⟨⟨[(6,false,[dI])],[(2048,.box [dI,dI,dS,.own 1000000000]),(1000000000,.root nR true)]⟩,
 ⟨[],[(2048,.box [dI,dI,dS,.own 1000000300]),(1000000300,.root nR true)]⟩,some ⟨[],[(2048,.box [dI,dI,dS,.dat (.sl nR)])]⟩⟩)] Tryz.func181
def cM (b0:nI) (p1:oe) (i6:Int) (out5:List nJ):Option ((Int×List nJ)⊕(List nJ)) :=
 cond (decide (i6<(p1.2.2.2.2.length:Int)))
 ((at? p1.2.2.2.2 i6).bind λx34 =>
 (od ([]:List Int) x34.1).bind λzs37 =>
 (at? p1.2.2.2.2 i6).bind λx42 =>
 (eV b0 x42.1).bind λt45 =>
 (od out5 [(zs37,t45.1,t45.2.1,t45.2.2.1,t45.2.2.2)]).bind λzs48 =>
 some (.inl (nK (i6+1),zs48)))
 (some (.inr out5))
def eW (b0:nI) (p1:oe):Option (List nJ) :=
 cond (p1.1==161)
 ((bW p1.2.2.2.2).bind λt14 =>
 (aW b0 t14).bind λt15 =>
 some t15)
 (cond (p1.1==165)
 ((eU b0 p1).bind λt20 =>
 some t20)
 ((loop (λz=>cM b0 p1 z.1 z.2) (0,([]:List nJ))).bind λd =>
 some d))
def jZ:FL:=(86,⟨[.val true o6 false,.val true qu false],[.val false (.one (.sl nU)) (some false)],λa=>eW a.1 a.2⟩)::jY
theorem nz:Gd jZ:=nV ny 86 Tryz.f86 [(1,⟨⟨[(5,false,[.own 1000001000]),(6,false,[dI])],[(1000001000,.root nU false)]⟩,
 ⟨[(5,false,[.own 1000001300])],[(1000001300,.root nU false)]⟩,none⟩)] Tryz.func86
def eX (b0:nI) (p1:oe):Option (nI×oe×Bool) :=
 (fq b0 p1).bind λt12 =>
 cond (!t12)
 ((aJ b0).bind λt15 =>
 some (t15,(0,0,0,0,[]),false))
 (cond (p1.1==163)
 ((eS b0 p1).bind λt23 =>
 some (t23.1,t23.2,true))
 ((eW b0 p1).bind λt32 =>
 (dE t32).bind λt33 =>
 (aJ b0).bind λt36 =>
 (cJ (162,p1.2.1,0,0,t33) (p1.1==165)).bind λt41 =>
 some (t36,t41,true)))
def kc:FL:=(14,⟨[.val true o6 false,.val true qu false],[.val true o6 (some true),.val true qu (some true),.val false oL (some true)],λa=>eX a.1 a.2⟩)::jZ
theorem nA:Gd kc:=nV nz 14 Tryz.f14 [] Tryz.func14
def cN (a0:List nJ) (b1:List nJ) (t13:Int):Option (Int⊕(Unit⊕Bool)) :=
 cond (decide (t13<(a0.length:Int)))
 ((at? a0 t13).bind λx18 =>
 (at? b1 t13).bind λx23 =>
 (am x18.1 x23.1).bind λt26 =>
 (cond (!t26)
 (some true)
 ((at? a0 t13).bind λx31 =>
 (at? b1 t13).bind λx36 =>
 (ar x31.2 x36.2).bind λt39 =>
 some (!t39))).bind λt41 =>
 cond t41 (some (.inr (.inr false))) (some (.inl (nK (t13+1)))))
 (some (.inr (.inl ())))
def eY (a0:List nJ) (b1:List nJ):Option Bool :=
 cond ((a0.length:Int) != (b1.length:Int))
 (some false)
 ((loop (λz=>cN a0 b1 z) 0).bind (Sum.elim (λd =>
 some true) (λr=>some r)))
def ke:FL:=(88,⟨[.val false (.one (.sl nU)) false,.val false (.one (.sl nU)) false],[.val false oL (some true)],λa=>eY a.1 a.2⟩)::kc
theorem nB:Gd ke:=nV nA 88 Tryz.f88 [(0,⟨⟨(13,false,[dI])::us 29 12 [],[]⟩,
 ⟨[],[]⟩,some ⟨[(4,false,[dB])],[]⟩⟩)] Tryz.func88
def eZ (a0:oe) (b1:oe):Option Bool :=
 (cond (a0.1==b1.1) (some (a0.2.1==b1.2.1)) (some false)).bind λt16 =>
 (cond t16 (some (a0.2.2.1==b1.2.2.1)) (some false)).bind λt23 =>
 (cond t23 (some (a0.2.2.2.1==b1.2.2.2.1)) (some false)).bind λt30 =>
 (cond t30
 ((eY a0.2.2.2.2 b1.2.2.2.2).bind λt36 =>
 some t36)
 (some false)).bind λt37 =>
 some t37
def kf:FL:=(15,⟨[.val true qu false,.val true qu false],[.val false oL (some true)],λa=>eZ a.1 a.2⟩)::ke
theorem nC:Gd kf:=nV nB 15 Tryz.f15 [] Tryz.func15
def fA (a0:List nW) (b1:List nW) (t13:Int):Option (Int⊕(Unit⊕Bool)) :=
 cond (decide (t13<(a0.length:Int)))
 ((at? a0 t13).bind λx18 =>
 (at? b1 t13).bind λx22 =>
 cond (!(x18.1==x22.1&&(x18.2.1==x22.2.1&&(x18.2.2==x22.2.2)))) (some (.inr (.inr false))) (some (.inl (nK (t13+1)))))
 (some (.inr (.inl ())))
def f0 (a0:List nW) (b1:List nW):Option Bool :=
 cond ((a0.length:Int) != (b1.length:Int))
 (some false)
 ((loop (λz=>fA a0 b1 z) 0).bind (Sum.elim (λd =>
 some true) (λr=>some r)))
def kg:FL:=(89,⟨[.val false (.one (.sl oK)) false,.val false (.one (.sl oK)) false],[.val false oL (some true)],λa=>f0 a.1 a.2⟩)::kf
theorem nD:Gd kg:=nV nC 89 Tryz.f89 [(0,⟨⟨[(13,false,[dI])],[]⟩,
 ⟨[],[]⟩,some ⟨[(4,false,[dB])],[]⟩⟩)] Tryz.func89
def f5 (p0:nI) (i1:nI) (t60:Int):Option (Int⊕(Unit⊕Bool)) :=
 cond (decide (t60<(p0.2.2.1.length:Int)))
 ((at? p0.2.2.1 t60).bind λx66 =>
 (at? i1.2.2.1 t60).bind λx71 =>
 cond (!(x66.1==x71.1&&(x66.2.1==x71.2.1&&(x66.2.2.1==x71.2.2.1&&(x66.2.2.2.1==x71.2.2.2.1&&(x66.2.2.2.2.1==x71.2.2.2.2.1&&(x66.2.2.2.2.2.1==x71.2.2.2.2.2.1&&(x66.2.2.2.2.2.2.1==x71.2.2.2.2.2.2.1&&(x66.2.2.2.2.2.2.2==x71.2.2.2.2.2.2.2))))))))) (some (.inr (.inr false))) (some (.inl (nK (t60+1)))))
 (some (.inr (.inl ())))
def f6 (p0:nI) (i1:nI) (t78:Int):Option (Int⊕(Unit⊕Bool)) :=
 cond (decide (t78<(p0.2.2.2.1.length:Int)))
 ((at? p0.2.2.2.1 t78).bind λx84 =>
 (at? i1.2.2.2.1 t78).bind λx89 =>
 cond (!(x84.1==x89.1&&(x84.2.1==x89.2.1&&(x84.2.2.1==x89.2.2.1&&(x84.2.2.2.1==x89.2.2.2.1&&(x84.2.2.2.2==x89.2.2.2.2)))))) (some (.inr (.inr false))) (some (.inl (nK (t78+1)))))
 (some (.inr (.inl ())))
def bY (p0:nI) (i1:nI):Option Bool :=
 (cond (p0.1 != i1.1) (some true) (some (!(p0.2.1==i1.2.1)))).bind λt18 =>
 (cond t18
 (some true)
 (some ((p0.2.2.1.length:Int) != (i1.2.2.1.length:Int)))).bind λt27 =>
 (cond t27
 (some true)
 (some ((p0.2.2.2.1.length:Int) != (i1.2.2.2.1.length:Int)))).bind λt36 =>
 (cond t36
 (some true)
 ((f0 p0.2.2.2.2.1 i1.2.2.2.2.1).bind λt44 =>
 some (!t44))).bind λt46 =>
 (cond t46
 (some true)
 ((am p0.2.2.2.2.2.1 i1.2.2.2.2.2.1).bind λt54 =>
 some (!t54))).bind λt56 =>
 cond t56
 (some false)
 ((loop (λz=>f5 p0 i1 z) 0).bind (Sum.elim (λd =>
 (loop (λz=>f6 p0 i1 z) 0).bind (Sum.elim (λd_1 =>
 (cond (p0.2.2.2.2.2.2.1==i1.2.2.2.2.2.2.1) (some (p0.2.2.2.2.2.2.2.1==i1.2.2.2.2.2.2.2.1)) (some false)).bind λt104 =>
 (cond t104
 (some (p0.2.2.2.2.2.2.2.2.1==i1.2.2.2.2.2.2.2.2.1))
 (some false)).bind λt111 =>
 (cond t111
 (some (p0.2.2.2.2.2.2.2.2.2.1==i1.2.2.2.2.2.2.2.2.2.1))
 (some false)).bind λt118 =>
 (cond t118
 (some (p0.2.2.2.2.2.2.2.2.2.2==i1.2.2.2.2.2.2.2.2.2.2))
 (some false)).bind λt125 =>
 some t125) (λr=>some r))) (λr_1=>some r_1)))
def nE:FL:=(16,⟨[.val true o6 false,.val true o6 false],[.val false oL (some true)],λa=>bY a.1 a.2⟩)::kg
theorem nF:Gd nE:=nV nD 16 Tryz.f16 [(0,⟨⟨[(60,false,[dI])],[]⟩,
 ⟨[],[]⟩,some ⟨[(4,false,[dB])],[]⟩⟩),
 (2,⟨⟨[(78,false,[dI])],[]⟩,
 ⟨[],[]⟩,some ⟨[(4,false,[dB])],[]⟩⟩)] Tryz.func16
def aX (t18:nI×oe) (t24:nI×oe×Bool) (t11:Int):Option (Int⊕(Unit⊕Bool)) :=
 (cond (decide (t11<(t24.2.1.2.2.2.2.length:Int))) (some (t18.2.1==160)) (some false)).bind λt106 =>
 cond t106
 ((at? t24.2.1.2.2.2.2 t11).bind λx112 =>
 (at? t18.2.2.2.2.2 t11).bind λx118 =>
 (am x112.1 x118.1).bind λt121 =>
 (cond (!t121)
 (some true)
 ((at? t24.2.1.2.2.2.2 t11).bind λx127 =>
 (at? t18.2.2.2.2.2 t11).bind λx134 =>
 (bg t18.1 x134.1).bind λt137 =>
 (ar x127.2 t137).bind λt138 =>
 some (!t138))).bind λt140 =>
 cond t140 (some (.inr (.inr false))) (some (.inl (nK (t11+1)))))
 (some (.inr (.inl ())))
def aY (t18:nI×oe) (t24:nI×oe×Bool) (t12:Int):Option (Int⊕(Unit⊕Bool)) :=
 (cond (decide (t12<(t24.2.1.2.2.2.2.length:Int))) (some (t18.2.1==161)) (some false)).bind λt150 =>
 cond t150
 ((at? t18.2.2.2.2.2 t12).bind λx157 =>
 (aM t18.1 x157.1).bind λt160 =>
 (at? t24.2.1.2.2.2.2 t12).bind λx164 =>
 (am x164.1 t160.1).bind λt169 =>
 (cond (!t169)
 (some true)
 ((at? t24.2.1.2.2.2.2 t12).bind λx175 =>
 (ar x175.2 t160.2).bind λt180 =>
 some (!t180))).bind λt182 =>
 cond t182 (some (.inr (.inr false))) (some (.inl (nK (t12+1)))))
 (some (.inr (.inl ())))
def u4 (p0:List Int):Option Bool :=
 (f7 p0).bind λt15 =>
 cond t15
 (some true)
 ((e9 p0).bind λt18 =>
 (eC t18.1 t18.2).bind λt24 =>
 (eX t18.1 t18.2).bind λt31 =>
 (cond (!(t24.2.2==t31.2.2))
 (some true)
 ((eZ t24.2.1 t31.2.1).bind λt41 =>
 some (!t41))).bind λt43 =>
 (cond t43
 (some true)
 ((bY t24.1 t31.1).bind λt47 =>
 some (!t47))).bind λt49 =>
 (cond t49 (some true) (some (!t24.2.2))).bind λt53 =>
 cond t53
 (some false)
 ((cond (t24.2.1.1 != 162) (some true) (some (t24.2.1.2.1 != t18.2.2.1))).bind λt63 =>
 (cond t63
 (some true)
 ((cl t24.2.1).bind λt66 =>
 some (!t66))).bind λt68 =>
 (cond t68
 (some true)
 ((aF t24.2.1).bind λt71 =>
 some (!t71))).bind λt73 =>
 (cond t73
 (some true)
 ((cond (t18.2.1 != 163)
 ((bY t24.1 t18.1).bind λt81 =>
 some (!t81))
 (some false)).bind λt83 =>
 some t83)).bind λt84 =>
 cond t84
 (some false)
 ((cond (t24.2.1.2.2.1==7) (some ((t24.2.1.2.2.2.2.length:Int)==0)) (some false)).bind λt93 =>
 cond t93
 ((bY t24.1 t18.1).bind λt96 =>
 some t96)
 ((loop (λz=>aX t18 t24 z) 0).bind (Sum.elim (λd =>
 (loop (λz=>aY t18 t24 z) 0).bind (Sum.elim (λd_1 =>
 (cond (t18.2.1==165)
 (some true)
 (some ((t24.2.1.2.2.2.2.length:Int)==(t18.2.2.2.2.2.length:Int)))).bind λt194 =>
 some t194) (λr=>some r))) (λr_1=>some r_1))))))
def vf:Fn:=⟨[.val false qA false],[.val false oL (some true)],λa=>u4 a⟩
def yN:List (Nat×nQ):=[(0,⟨⟨(11,false,[dI])::us 103 3 (us 124 16 []),[]⟩,
 ⟨[],[]⟩,some ⟨[(2,false,[dB])],[]⟩⟩),
 (2,⟨⟨(12,false,[dI])::us 147 3 (us 172 10 []),[]⟩,
 ⟨[],[]⟩,some ⟨[(2,false,[dB])],[]⟩⟩)]
theorem m_laws_FnReplies:vB Tryz.prog 3 vf:=IJ nF 3 Tryz.f3 yN vf Tryz.func3
end
end Go.V.W

