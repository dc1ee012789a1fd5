/- The law FnExactFlow: part of the proof that for every input it returns true. No condition. -/
import Derived.Test.YthcdcolihokdmaaGreatV4
import Derived.Test.YthcdcolihokdmaaGreatProg
import Derived.Test.YthcdcolihokdmaaGreatChecked
import Derived.KernelRfl
set_option linter.unusedVariables false
set_option linter.unusedSimpArgs false
namespace Go.V.W
open Go.Proofs
noncomputable section
def us:Nat->Nat->List (Nat×Bool×List nZ)->List (Nat×Bool×List nZ)|_,0,l=>l|a,n+1,l=>(a,false,[.undef])::us (a+1) n l
@[reducible] def mM:Cs:=.one (.int .i64)
@[reducible] def nO:Cs:=.one .bool
@[reducible] def uP:Cs:=.one (.sl (.one (.int .u8)))
@[reducible] def pa:Cs:=.one (.sl (.one (.int .i64)))
@[reducible] def IV:Cs:=.one .str
@[reducible] def dI:nZ:=.dat (.int .i64)
@[reducible] def dB:nZ:=.dat .bool
@[reducible] def dS:nZ:=.dat .str
@[reducible] def qz:Cs:=.cons (.int .i64) (.cons (.int .i64) (.cons (.int .i64) (.cons (.int .i64) mM)))
@[reducible] def oK:Cs:=.cons .bool (.cons (.int .i64) (.cons .bool (.cons (.int .i64) (.cons (.int .i64) (.cons (.int .i64) (.cons (.int .i64) mM))))))
@[reducible] def ng:Cs:=.cons (.int .i64) (.cons (.int .i64) (.cons (.int .i64) (.cons (.int .i64) nO)))
@[reducible] def o7:Cs:=.cons (.int .i64) (.cons (.int .i64) mM)
@[reducible] def pn:Cs:=.cons (.sl o7) pa
@[reducible] def na:Cs:=.cons (.int .i64) (.cons .str (.cons (.sl oK) (.cons (.sl ng) (.cons (.sl o7) (.cons (.sl mM) (.cons (.int .i64) (.cons (.int .i64) (.cons (.int .i64) (.cons (.int .i64) mM)))))))))
@[reducible] def oO:Cs:=.cons (.int .i64) (.cons (.int .i64) (.cons (.int .i64) mM))
@[reducible] def pA:Cs:=.cons (.int .i64) (.cons .bool (.cons (.int .i64) (.cons (.int .i64) (.cons (.int .i64) (.cons (.int .i64) mM)))))
@[reducible] def oi:Cs:=.cons (.sl na) (.cons (.sl oO) (.one (.sl pA)))
@[reducible] def o8:Cs:=.cons (.int .i64) (.cons (.int .i64) (.cons (.int .i64) uP))
@[reducible] def sC:Cs:=.cons (.int .i64) (.cons (.int .i64) (.cons (.int .i64) (.cons (.int .i64) uP)))
@[reducible] def ny:Cs:=.cons (.int .i64) (.cons (.int .i64) (.cons (.int .i64) (.cons (.int .i64) (.cons (.int .i64) uP))))
@[reducible] def wt:Cs:=.cons (.sl na) (.cons (.sl oO) (.cons (.sl pA) (.cons (.sl ny) (.cons (.sl ny) (.cons (.sl mM) mM)))))
abbrev rk:Type:=Int×Int×Int×Int×Int
abbrev Pt:Type:=Bool×Int×Bool×Int×Int×Int×Int×Int
abbrev mT:Type:=Int×Int×Int×Int×Bool
abbrev oy:Type:=Int×Int×Int
abbrev nY:Type:=List oy×List Int
abbrev mL:Type:=Int×List UInt8×List Pt×List mT×List oy×List Int×Int×Int×Int×Int×Int
abbrev nD:Type:=Int×Int×Int×Int
abbrev oT:Type:=Int×Bool×Int×Int×Int×Int×Int
abbrev nh:Type:=List mL×List nD×List oT
abbrev nM:Type:=Int×Int×Int×List Int
abbrev nC:Type:=Int×Int×Int×Int×List Int
abbrev n9:Type:=Int×Int×Int×Int×Int×List Int
abbrev vR:Type:=List mL×List nD×List oT×List n9×List n9×List Int×Int
def tis:List (Nat×n7):=[(2,⟨false,.one (.int .i64),[],0⟩),
 (3,⟨false,.one (.int .i64),[],0⟩),
 (4,⟨false,.one .bool,[],0⟩),
 (5,⟨false,.one (.int .u8),[],0⟩),
 (6,⟨false,.one (.int .u8),[],0⟩),
 (9,⟨false,.one .str,[],0⟩),
 (10,⟨false,.one .str,[],0⟩),
 (11,⟨false,.one .str,[],0⟩),
 (12,⟨false,.one (.int .u64),[],0⟩),
 (21,⟨false,.one (.int .i32),[],0⟩),
 (22,⟨false,.one (.sl (.one (.int .u8))),[],5⟩),
 (24,⟨false,.one (.sl oK),[],239⟩),
 (25,⟨false,.one (.sl ng),[],320⟩),
 (26,⟨false,.one (.sl o7),[],322⟩),
 (27,⟨false,.one (.sl mM),[],3⟩),
 (28,⟨true,pn,[(26,0),(27,1)],0⟩),
 (29,⟨true,pn,[(26,0),(27,1)],0⟩),
 (30,⟨true,na,[(3,0),(9,1),(24,2),(25,3),(29,4),(3,6),(3,7),(3,8),(3,9),(3,10)],0⟩),
 (31,⟨true,na,[(3,0),(9,1),(24,2),(25,3),(29,4),(3,6),(3,7),(3,8),(3,9),(3,10)],0⟩),
 (32,⟨false,.one (.sl (.cons (.int .i64) (.cons (.sl (.one (.int .u8))) (.cons (.int .i64) (.cons (.int .i64) (.cons (.int .i64) (.cons (.int .i64) (.cons (.int .i64) (.cons (.sl (.cons (.sl mM) (.cons (.int .i64) (.cons (.int .i64) (.cons .str pa))))) (.cons (.int .i64) (.cons .str (.cons (.sl oK) (.cons (.sl ng) (.cons (.sl o7) (.cons (.sl mM) (.cons (.int .i64) (.cons (.int .i64) (.cons (.int .i64) (.cons (.int .i64) (.cons (.int .i64) (.cons (.int .i64) mM))))))))))))))))))))),[],148⟩),
 (33,⟨true,.cons (.int .i64) (.cons .str (.cons (.sl oK) (.cons (.sl ng) (.cons (.sl o7) (.cons (.sl mM) (.cons (.int .i64) (.cons (.int .i64) (.cons (.int .i64) (.cons (.int .i64) (.cons (.int .i64) (.cons .str (.cons (.sl (.cons (.int .i64) (.cons (.sl (.one (.int .u8))) (.cons (.int .i64) (.cons (.int .i64) (.cons (.int .i64) (.cons (.int .i64) (.cons (.int .i64) (.cons (.sl (.cons (.sl mM) (.cons (.int .i64) (.cons (.int .i64) (.cons .str pa))))) (.cons (.int .i64) (.cons .str (.cons (.sl oK) (.cons (.sl ng) (.cons (.sl o7) (.cons (.sl mM) (.cons (.int .i64) (.cons (.int .i64) (.cons (.int .i64) (.cons (.int .i64) (.cons (.int .i64) (.cons (.int .i64) mM))))))))))))))))))))) (.cons (.int .i64) mM))))))))))))),[(31,0),(9,11),(32,12),(3,13),(3,14)],0⟩),
 (34,⟨true,.cons (.int .i64) (.cons .str (.cons (.sl oK) (.cons (.sl ng) (.cons (.sl o7) (.cons (.sl mM) (.cons (.int .i64) (.cons (.int .i64) (.cons (.int .i64) (.cons (.int .i64) (.cons (.int .i64) (.cons .str (.cons (.sl (.cons (.int .i64) (.cons (.sl (.one (.int .u8))) (.cons (.int .i64) (.cons (.int .i64) (.cons (.int .i64) (.cons (.int .i64) (.cons (.int .i64) (.cons (.sl (.cons (.sl mM) (.cons (.int .i64) (.cons (.int .i64) (.cons .str pa))))) (.cons (.int .i64) (.cons .str (.cons (.sl oK) (.cons (.sl ng) (.cons (.sl o7) (.cons (.sl mM) (.cons (.int .i64) (.cons (.int .i64) (.cons (.int .i64) (.cons (.int .i64) (.cons (.int .i64) (.cons (.int .i64) mM))))))))))))))))))))) (.cons (.int .i64) mM))))))))))))),[(31,0),(9,11),(32,12),(3,13),(3,14)],0⟩),
 (39,⟨false,.one (.sl (.cons (.sl mM) (.cons (.int .i64) (.cons (.int .i64) (.cons .str pa))))),[],209⟩),
 (40,⟨true,.cons (.int .i64) (.cons (.int .i64) (.cons (.int .i64) (.cons (.int .i64) (.one (.sl (.cons (.sl mM) (.cons (.int .i64) (.cons (.int .i64) (.cons .str pa))))))))),[(3,0),(3,1),(3,2),(3,3),(39,4)],0⟩),
 (41,⟨true,.cons (.int .i64) (.cons (.int .i64) (.cons (.int .i64) (.cons (.int .i64) (.one (.sl (.cons (.sl mM) (.cons (.int .i64) (.cons (.int .i64) (.cons .str pa))))))))),[(3,0),(3,1),(3,2),(3,3),(39,4)],0⟩),
 (44,⟨false,.one (.sl (.cons (.int .i64) (.cons (.int .i64) (.cons (.int .i64) (.cons (.int .i64) (.cons (.int .i64) (.one (.sl (.cons (.sl mM) (.cons (.int .i64) (.cons (.int .i64) (.cons .str pa)))))))))))),[],49⟩),
 (48,⟨true,.cons (.int .i64) (.cons (.int .i64) (.cons (.int .i64) (.cons (.int .i64) (.cons (.int .i64) (.one (.sl (.cons (.sl mM) (.cons (.int .i64) (.cons (.int .i64) (.cons .str pa)))))))))),[(3,0),(41,1)],0⟩),
 (49,⟨true,.cons (.int .i64) (.cons (.int .i64) (.cons (.int .i64) (.cons (.int .i64) (.cons (.int .i64) (.one (.sl (.cons (.sl mM) (.cons (.int .i64) (.cons (.int .i64) (.cons .str pa)))))))))),[(3,0),(41,1)],0⟩),
 (50,⟨false,.one (.sl na),[],83⟩),
 (51,⟨false,.one (.sl oO),[],232⟩),
 (52,⟨false,.one (.sl pA),[],237⟩),
 (53,⟨true,oi,[(50,0),(51,1),(52,2)],0⟩),
 (54,⟨true,oi,[(50,0),(51,1),(52,2)],0⟩),
 (55,⟨true,o8,[(3,0),(3,1),(3,2),(22,3)],0⟩),
 (56,⟨true,o8,[(3,0),(3,1),(3,2),(22,3)],0⟩),
 (59,⟨false,.one (.sl na),[],31⟩),
 (60,⟨false,.one (.sl oO),[],230⟩),
 (61,⟨false,.one (.sl pA),[],234⟩),
 (62,⟨true,oi,[(59,0),(60,1),(61,2)],0⟩),
 (63,⟨true,oi,[(59,0),(60,1),(61,2)],0⟩),
 (64,⟨false,.one (.sl ny),[],169⟩),
 (68,⟨true,o8,[(3,0),(3,1),(3,2),(22,3)],0⟩),
 (77,⟨false,.one (.sl oK),[],332⟩),
 (78,⟨false,.one (.sl ng),[],334⟩),
 (79,⟨false,.one (.sl o7),[],372⟩),
 (80,⟨true,pn,[(79,0),(27,1)],0⟩),
 (81,⟨true,pn,[(79,0),(27,1)],0⟩),
 (82,⟨true,na,[(3,0),(9,1),(77,2),(78,3),(81,4),(3,6),(3,7),(3,8),(3,9),(3,10)],0⟩),
 (83,⟨true,na,[(3,0),(9,1),(77,2),(78,3),(81,4),(3,6),(3,7),(3,8),(3,9),(3,10)],0⟩),
 (84,⟨false,.one (.sl (.cons (.int .i64) (.cons (.sl (.one (.int .u8))) (.cons (.int .i64) (.cons (.int .i64) (.cons (.int .i64) (.cons (.int .i64) (.cons (.int .i64) (.cons (.sl (.cons (.sl mM) (.cons (.int .i64) (.cons (.int .i64) (.cons .str pa))))) (.cons (.int .i64) (.cons .str (.cons (.sl oK) (.cons (.sl ng) (.cons (.sl o7) (.cons (.sl mM) (.cons (.int .i64) (.cons (.int .i64) (.cons (.int .i64) (.cons (.int .i64) (.cons (.int .i64) (.cons (.int .i64) mM))))))))))))))))))))),[],263⟩),
 (85,⟨true,.cons (.int .i64) (.cons .str (.cons (.sl oK) (.cons (.sl ng) (.cons (.sl o7) (.cons (.sl mM) (.cons (.int .i64) (.cons (.int .i64) (.cons (.int .i64) (.cons (.int .i64) (.cons (.int .i64) (.cons .str (.cons (.sl (.cons (.int .i64) (.cons (.sl (.one (.int .u8))) (.cons (.int .i64) (.cons (.int .i64) (.cons (.int .i64) (.cons (.int .i64) (.cons (.int .i64) (.cons (.sl (.cons (.sl mM) (.cons (.int .i64) (.cons (.int .i64) (.cons .str pa))))) (.cons (.int .i64) (.cons .str (.cons (.sl oK) (.cons (.sl ng) (.cons (.sl o7) (.cons (.sl mM) (.cons (.int .i64) (.cons (.int .i64) (.cons (.int .i64) (.cons (.int .i64) (.cons (.int .i64) (.cons (.int .i64) mM))))))))))))))))))))) (.cons (.int .i64) mM))))))))))))),[(83,0),(9,11),(84,12),(3,13),(3,14)],0⟩),
 (86,⟨true,.cons (.int .i64) (.cons .str (.cons (.sl oK) (.cons (.sl ng) (.cons (.sl o7) (.cons (.sl mM) (.cons (.int .i64) (.cons (.int .i64) (.cons (.int .i64) (.cons (.int .i64) (.cons (.int .i64) (.cons .str (.cons (.sl (.cons (.int .i64) (.cons (.sl (.one (.int .u8))) (.cons (.int .i64) (.cons (.int .i64) (.cons (.int .i64) (.cons (.int .i64) (.cons (.int .i64) (.cons (.sl (.cons (.sl mM) (.cons (.int .i64) (.cons (.int .i64) (.cons .str pa))))) (.cons (.int .i64) (.cons .str (.cons (.sl oK) (.cons (.sl ng) (.cons (.sl o7) (.cons (.sl mM) (.cons (.int .i64) (.cons (.int .i64) (.cons (.int .i64) (.cons (.int .i64) (.cons (.int .i64) (.cons (.int .i64) mM))))))))))))))))))))) (.cons (.int .i64) mM))))))))))))),[(83,0),(9,11),(84,12),(3,13),(3,14)],0⟩),
 (94,⟨true,qz,[(3,0),(3,1),(3,2),(3,3),(3,4)],0⟩),
 (95,⟨true,qz,[(3,0),(3,1),(3,2),(3,3),(3,4)],0⟩),
 (96,⟨true,.cons (.int .i64) (.cons (.int .i64) (.cons .bool (.cons (.sl (.one (.int .u8))) (.cons (.int .i64) (.cons (.int .i64) (.cons (.int .i64) (.cons (.sl (.one (.int .u8))) (.cons (.int .i64) (.cons (.int .i64) (.cons (.int .i64) (.cons (.int .i64) mM))))))))))),[(3,0),(3,1),(4,2),(22,3),(56,4),(95,8)],0⟩),
 (97,⟨true,.cons (.int .i64) (.cons (.int .i64) (.cons .bool (.cons (.sl (.one (.int .u8))) (.cons (.int .i64) (.cons (.int .i64) (.cons (.int .i64) (.cons (.sl (.one (.int .u8))) (.cons (.int .i64) (.cons (.int .i64) (.cons (.int .i64) (.cons (.int .i64) mM))))))))))),[(3,0),(3,1),(4,2),(22,3),(56,4),(95,8)],0⟩),
 (99,⟨false,.one (.sl sC),[],194⟩),
 (102,⟨true,qz,[(3,0),(3,1),(3,2),(3,3),(3,4)],0⟩),
 (103,⟨true,.cons (.int .i64) (.cons (.int .i64) (.cons .bool (.cons (.sl (.one (.int .u8))) (.cons (.int .i64) (.cons (.int .i64) (.cons (.int .i64) (.cons (.sl (.one (.int .u8))) (.cons (.int .i64) (.cons (.int .i64) (.cons (.int .i64) (.cons (.int .i64) mM))))))))))),[(3,0),(3,1),(4,2),(22,3),(68,4),(102,8)],0⟩),
 (104,⟨true,.cons (.int .i64) (.cons (.int .i64) (.cons .bool (.cons (.sl (.one (.int .u8))) (.cons (.int .i64) (.cons (.int .i64) (.cons (.int .i64) (.cons (.sl (.one (.int .u8))) (.cons (.int .i64) (.cons (.int .i64) (.cons (.int .i64) (.cons (.int .i64) mM))))))))))),[(3,0),(3,1),(4,2),(22,3),(68,4),(102,8)],0⟩),
 (111,⟨false,.one (.sl (.cons (.int .i64) (.cons (.int .i64) (.cons .bool (.cons (.sl (.one (.int .u8))) (.cons (.int .i64) (.cons (.int .i64) (.cons (.int .i64) (.cons (.sl (.one (.int .u8))) (.cons (.int .i64) (.cons (.int .i64) (.cons (.int .i64) (.cons (.int .i64) mM))))))))))))),[],97⟩),
 (114,⟨false,.one (.sl (.cons (.int .i64) (.cons (.int .i64) (.cons .bool (.cons (.sl (.one (.int .u8))) (.cons (.int .i64) (.cons (.int .i64) (.cons (.int .i64) (.cons (.sl (.one (.int .u8))) (.cons (.int .i64) (.cons (.int .i64) (.cons (.int .i64) (.cons (.int .i64) mM))))))))))))),[],104⟩),
 (125,⟨false,.one (.sl IV),[],9⟩),
 (137,⟨true,.cons (.sl (.one (.int .u8))) (.cons (.int .i64) nO),[(22,0),(3,1),(4,2)],0⟩),
 (138,⟨true,.cons (.sl (.one (.int .u8))) (.cons (.int .i64) nO),[(22,0),(3,1),(4,2)],0⟩),
 (147,⟨true,.cons (.int .i64) (.cons (.sl (.one (.int .u8))) (.cons (.int .i64) (.cons (.int .i64) (.cons (.int .i64) (.cons (.int .i64) (.cons (.int .i64) (.cons (.sl (.cons (.sl mM) (.cons (.int .i64) (.cons (.int .i64) (.cons .str pa))))) (.cons (.int .i64) (.cons .str (.cons (.sl oK) (.cons (.sl ng) (.cons (.sl o7) (.cons (.sl mM) (.cons (.int .i64) (.cons (.int .i64) (.cons (.int .i64) (.cons (.int .i64) (.cons (.int .i64) (.cons (.int .i64) mM))))))))))))))))))),[(3,0),(22,1),(3,2),(41,3),(31,8),(3,19),(3,20)],0⟩),
 (148,⟨true,.cons (.int .i64) (.cons (.sl (.one (.int .u8))) (.cons (.int .i64) (.cons (.int .i64) (.cons (.int .i64) (.cons (.int .i64) (.cons (.int .i64) (.cons (.sl (.cons (.sl mM) (.cons (.int .i64) (.cons (.int .i64) (.cons .str pa))))) (.cons (.int .i64) (.cons .str (.cons (.sl oK) (.cons (.sl ng) (.cons (.sl o7) (.cons (.sl mM) (.cons (.int .i64) (.cons (.int .i64) (.cons (.int .i64) (.cons (.int .i64) (.cons (.int .i64) (.cons (.int .i64) mM))))))))))))))))))),[(3,0),(22,1),(3,2),(41,3),(31,8),(3,19),(3,20)],0⟩),
 (154,⟨false,.one (.sl ny),[],227⟩),
 (155,⟨true,wt,[(63,0),(154,3),(64,4),(27,5),(3,6)],0⟩),
 (156,⟨true,wt,[(63,0),(154,3),(64,4),(27,5),(3,6)],0⟩),
 (168,⟨true,ny,[(3,0),(3,1),(68,2)],0⟩),
 (169,⟨true,ny,[(3,0),(3,1),(68,2)],0⟩),
 (193,⟨true,sC,[(3,0),(68,1)],0⟩),
 (194,⟨true,sC,[(3,0),(68,1)],0⟩),
 (196,⟨true,.cons (.sl (.one (.int .u8))) (.cons (.int .i64) mM),[(22,0),(3,1),(3,2)],0⟩),
 (197,⟨true,.cons (.sl (.one (.int .u8))) (.cons (.int .i64) mM),[(22,0),(3,1),(3,2)],0⟩),
 (205,⟨true,.cons (.int .i64) (.cons (.int .i64) (.cons .str pa)),[(3,0),(3,1),(9,2),(27,3)],0⟩),
 (206,⟨true,.cons (.int .i64) (.cons (.int .i64) (.cons .str pa)),[(3,0),(3,1),(9,2),(27,3)],0⟩),
 (208,⟨true,.cons (.sl mM) (.cons (.int .i64) (.cons (.int .i64) (.cons .str pa))),[(27,0),(206,1)],0⟩),
 (209,⟨true,.cons (.sl mM) (.cons (.int .i64) (.cons (.int .i64) (.cons .str pa))),[(27,0),(206,1)],0⟩),
 (210,⟨false,.one (.int .u64),[],0⟩),
 (226,⟨true,ny,[(3,0),(3,1),(68,2)],0⟩),
 (227,⟨true,ny,[(3,0),(3,1),(68,2)],0⟩),
 (229,⟨true,oO,[(3,0),(3,1),(3,2),(3,3)],0⟩),
 (230,⟨true,oO,[(3,0),(3,1),(3,2),(3,3)],0⟩),
 (232,⟨true,oO,[(3,0),(3,1),(3,2),(3,3)],0⟩),
 (233,⟨true,pA,[(3,0),(4,1),(102,2)],0⟩),
 (234,⟨true,pA,[(3,0),(4,1),(102,2)],0⟩),
 (236,⟨true,pA,[(3,0),(4,1),(95,2)],0⟩),
 (237,⟨true,pA,[(3,0),(4,1),(95,2)],0⟩),
 (238,⟨true,oK,[(4,0),(3,1),(4,2),(102,3)],0⟩),
 (239,⟨true,oK,[(4,0),(3,1),(4,2),(102,3)],0⟩),
 (243,⟨true,ny,[(3,0),(3,1),(68,2)],0⟩),
 (244,⟨true,ny,[(3,0),(3,1),(68,2)],0⟩),
 (245,⟨false,.one (.sl ny),[],244⟩),
 (259,⟨false,.one (.sl (.cons (.sl mM) (.cons (.int .i64) (.cons (.int .i64) (.cons .str pa))))),[],392⟩),
 (260,⟨true,.cons (.int .i64) (.cons (.int .i64) (.cons (.int .i64) (.cons (.int .i64) (.one (.sl (.cons (.sl mM) (.cons (.int .i64) (.cons (.int .i64) (.cons .str pa))))))))),[(3,0),(3,1),(3,2),(3,3),(259,4)],0⟩),
 (261,⟨true,.cons (.int .i64) (.cons (.int .i64) (.cons (.int .i64) (.cons (.int .i64) (.one (.sl (.cons (.sl mM) (.cons (.int .i64) (.cons (.int .i64) (.cons .str pa))))))))),[(3,0),(3,1),(3,2),(3,3),(259,4)],0⟩),
 (262,⟨true,.cons (.int .i64) (.cons (.sl (.one (.int .u8))) (.cons (.int .i64) (.cons (.int .i64) (.cons (.int .i64) (.cons (.int .i64) (.cons (.int .i64) (.cons (.sl (.cons (.sl mM) (.cons (.int .i64) (.cons (.int .i64) (.cons .str pa))))) (.cons (.int .i64) (.cons .str (.cons (.sl oK) (.cons (.sl ng) (.cons (.sl o7) (.cons (.sl mM) (.cons (.int .i64) (.cons (.int .i64) (.cons (.int .i64) (.cons (.int .i64) (.cons (.int .i64) (.cons (.int .i64) mM))))))))))))))))))),[(3,0),(22,1),(3,2),(261,3),(83,8),(3,19),(3,20)],0⟩),
 (263,⟨true,.cons (.int .i64) (.cons (.sl (.one (.int .u8))) (.cons (.int .i64) (.cons (.int .i64) (.cons (.int .i64) (.cons (.int .i64) (.cons (.int .i64) (.cons (.sl (.cons (.sl mM) (.cons (.int .i64) (.cons (.int .i64) (.cons .str pa))))) (.cons (.int .i64) (.cons .str (.cons (.sl oK) (.cons (.sl ng) (.cons (.sl o7) (.cons (.sl mM) (.cons (.int .i64) (.cons (.int .i64) (.cons (.int .i64) (.cons (.int .i64) (.cons (.int .i64) (.cons (.int .i64) mM))))))))))))))))))),[(3,0),(22,1),(3,2),(261,3),(83,8),(3,19),(3,20)],0⟩),
 (301,⟨false,.one (.int .i8),[],0⟩),
 (319,⟨true,ng,[(3,0),(3,1),(3,2),(3,3),(4,4)],0⟩),
 (320,⟨true,ng,[(3,0),(3,1),(3,2),(3,3),(4,4)],0⟩),
 (321,⟨true,o7,[(3,0),(3,1),(3,2)],0⟩),
 (322,⟨true,o7,[(3,0),(3,1),(3,2)],0⟩),
 (331,⟨true,oK,[(4,0),(3,1),(4,2),(95,3)],0⟩),
 (332,⟨true,oK,[(4,0),(3,1),(4,2),(95,3)],0⟩),
 (334,⟨true,ng,[(3,0),(3,1),(3,2),(3,3),(4,4)],0⟩),
 (366,⟨true,.cons (.sl (.one (.int .u8))) (.cons (.int .i64) nO),[(22,0),(3,1),(4,2)],0⟩),
 (367,⟨true,.cons (.sl (.one (.int .u8))) (.cons (.int .i64) nO),[(22,0),(3,1),(4,2)],0⟩),
 (372,⟨true,o7,[(3,0),(3,1),(3,2)],0⟩),
 (387,⟨false,.one (.sl pa),[],27⟩),
 (390,⟨true,.cons (.int .i64) (.cons (.int .i64) (.cons .str pa)),[(3,0),(3,1),(9,2),(27,3)],0⟩),
 (391,⟨true,.cons (.sl mM) (.cons (.int .i64) (.cons (.int .i64) (.cons .str pa))),[(27,0),(390,1)],0⟩),
 (392,⟨true,.cons (.sl mM) (.cons (.int .i64) (.cons (.int .i64) (.cons .str pa))),[(27,0),(390,1)],0⟩),
 (417,⟨false,.one (.int .u32),[],0⟩),
 (418,⟨false,.one (.int .u8),[],0⟩),
 (419,⟨false,.one (.int .u8),[],0⟩),
 (422,⟨false,.one (.int .i32),[],0⟩),
 (423,⟨false,.one (.int .i32),[],0⟩)]
theorem tisT:oG Tryz.prog tis:=oG.of_all (by kernel_rfl)
theorem IY:Be Tryz.prog tis:=Be.of_all (by kernel_rfl)
theorem tisD:Deep Tryz.prog tis:=Deep.of_all (by kernel_rfl)
theorem rG:Tryz.prog.follows .mixedOrders=true:=by kernel_rfl
def oj (fn:Func):Code:=match fn.body with|some c=>c|none=>.skip
theorem je:p5 Tryz.prog ⟨tis,[],[],false⟩:=⟨tisT,IY,(λf F h=>by cases h),(λf M h=>by cases h),(λh=>by cases h)⟩
theorem Jf {l : List (FuncId×Fn)} (g : p5 Tryz.prog ⟨tis, l, [], false⟩) (n : FuncId) (f : Func) (ann : List (Nat×mO)) (F : Fn) (h1 : Tryz.prog.funcs[n]?=some f) (h2 : (f.name == "runtime.NumGoroutine")=false := by kernel_rfl) (h3 : f.body=some (oj f) := by kernel_rfl) (h4 : xI ⟨tis, l, [], false⟩ ann f (oj f) F.ps F.rs=F.den := by kernel_rfl) : tK Tryz.prog n F := by
 have h:=BB (ann:=ann) (ps:=F.ps) (rs:=F.rs) g rG h1 h2 h3;rw[h4]at h;exact h
abbrev FL:=List (FuncId×Fn)
def Gd (l:FL):Prop:=p5 Tryz.prog ⟨tis,l,[],false⟩
theorem mV {l : List (FuncId×Fn)} (g : Gd l) (n : FuncId) (f : Func) (ann : List (Nat×mO)) {F : Fn} (h1 : Tryz.prog.funcs[n]?=some f) (h2 : (f.name == "runtime.NumGoroutine")=false := by kernel_rfl) (h3 : f.body=some (oj f) := by kernel_rfl) (h4 : xI ⟨tis, l, [], false⟩ ann f (oj f) F.ps F.rs=F.den := by kernel_rfl) : Gd ((n, F)::l) := p5.cons g (Jf g n f ann F h1 h2 h3 h4)
def dP (a0:List Pt) (left1:Int):Option Int :=
 let left1_1:=mH (left1-(a0.length:Int))
 cond (decide (left1_1<0)) (some (-1)) (some left1_1)
def f6:FL:=(172,⟨[.val false (.one (.sl oK)) false,.val false mM false],[.val false mM (some true)],λa=>dP a.1 a.2⟩)::[]
theorem jf:Gd f6:=mV je 172 Tryz.f172 [] Tryz.func172
def dQ (a0:List mT) (left1:Int):Option Int :=
 let left1_1:=mH (left1-(a0.length:Int))
 cond (decide (left1_1<0)) (some (-1)) (some left1_1)
def f7:FL:=(173,⟨[.val false (.one (.sl ng)) false,.val false mM false],[.val false mM (some true)],λa=>dQ a.1 a.2⟩)::f6
theorem jg:Gd f7:=mV jf 173 Tryz.f173 [] Tryz.func173
def dR (a0:List oy) (left1:Int):Option Int :=
 let left1_1:=mH (left1-(a0.length:Int))
 cond (decide (left1_1<0)) (some (-1)) (some left1_1)
def f8:FL:=(261,⟨[.val false (.one (.sl o7)) false,.val false mM false],[.val false mM (some true)],λa=>dR a.1 a.2⟩)::f7
theorem jh:Gd f8:=mV jg 261 Tryz.f261 [] Tryz.func261
def dU (a0:List Int) (left1:Int):Option Int :=
 let left1_1:=mH (left1-(a0.length:Int))
 cond (decide (left1_1<0)) (some (-1)) (some left1_1)
def f9:FL:=(262,⟨[.val false pa false,.val false mM false],[.val false mM (some true)],λa=>dU a.1 a.2⟩)::f8
theorem ji:Gd f9:=mV jh 262 Tryz.f262 [] Tryz.func262
def dV (a0:nY) (left1:Int):Option Int :=
 (dR a0.1 left1).bind λt8 =>
 cond (decide (t8<0))
 (some (-1))
 ((dU a0.2 t8).bind λt14 =>
 cond (decide (t14<0)) (some (-1)) (some t14))
def fa:FL:=(174,⟨[.val true pn false,.val false mM false],[.val false mM (some true)],λa=>dV a.1 a.2⟩)::f9
theorem jj:Gd fa:=mV ji 174 Tryz.f174 [] Tryz.func174
def cB (a0:mL) (left1:Int):Option Int :=
 let left1_1:=mH (left1-(a0.2.1.length:Int))
 cond (decide (left1_1<0))
 (some (-1))
 ((dP a0.2.2.1 left1_1).bind λt15 =>
 cond (decide (t15<0))
 (some (-1))
 ((dQ a0.2.2.2.1 t15).bind λt21 =>
 cond (decide (t21<0))
 (some (-1))
 ((dV (a0.2.2.2.2.1,a0.2.2.2.2.2.1) t21).bind λt27 =>
 cond (decide (t27<0)) (some (-1)) (some t27))))
def fb:FL:=(103,⟨[.val true na false,.val false mM false],[.val false mM (some true)],λa=>cB a.1 a.2⟩)::fa
theorem jk:Gd fb:=mV jj 103 Tryz.f103 [] Tryz.func103
def fd (a0:List mL) (left1_2:Int) (i5:Int):Option ((Int×Int)⊕(Int⊕Int)) :=
 cond (decide (i5<(a0.length:Int)))
 ((at? a0 i5).bind λx20 =>
 (cB x20 left1_2).bind λt23 =>
 cond (decide (t23<0)) (some (.inr (.inr (-1)))) (some (.inl (t23,mH (i5+1)))))
 (some (.inr (.inl left1_2)))
def dW (a0:List mL) (left1:Int):Option Int :=
 let left1_1:=mH (left1-(a0.length:Int))
 cond (decide (left1_1<0))
 (some (-1))
 ((loop (λz=>fd a0 z.1 z.2) (left1_1,0)).bind (Sum.elim (λd =>
 some d) (λr=>some r)))
def fe:FL:=(78,⟨[.val false (.one (.sl na)) false,.val false mM false],[.val false mM (some true)],λa=>dW a.1 a.2⟩)::fb
theorem jl:Gd fe:=mV jk 78 Tryz.f78 [(0,⟨⟨[(1,false,[dI]),(5,false,[dI])],[]⟩,
 ⟨[(1,false,[dI])],[]⟩,some ⟨[(4,false,[dI])],[]⟩⟩)] Tryz.func78
def dX (a0:List nD) (left1:Int):Option Int :=
 let left1_1:=mH (left1-(a0.length:Int))
 cond (decide (left1_1<0)) (some (-1)) (some left1_1)
def ff:FL:=(79,⟨[.val false (.one (.sl oO)) false,.val false mM false],[.val false mM (some true)],λa=>dX a.1 a.2⟩)::fe
theorem jm:Gd ff:=mV jl 79 Tryz.f79 [] Tryz.func79
def dY (a0:List oT) (left1:Int):Option Int :=
 let left1_1:=mH (left1-(a0.length:Int))
 cond (decide (left1_1<0)) (some (-1)) (some left1_1)
def fg:FL:=(80,⟨[.val false (.one (.sl pA)) false,.val false mM false],[.val false mM (some true)],λa=>dY a.1 a.2⟩)::ff
theorem jn:Gd fg:=mV jm 80 Tryz.f80 [] Tryz.func80
def dZ (a0:nh) (left1:Int):Option Int :=
 (dW a0.1 left1).bind λt8 =>
 cond (decide (t8<0))
 (some (-1))
 ((dX a0.2.1 t8).bind λt14 =>
 cond (decide (t14<0))
 (some (-1))
 ((dY a0.2.2 t14).bind λt20 =>
 cond (decide (t20<0)) (some (-1)) (some t20)))
def fh:FL:=(15,⟨[.val true oi false,.val false mM false],[.val false mM (some true)],λa=>dZ a.1 a.2⟩)::fg
theorem jo:Gd fh:=mV jn 15 Tryz.f15 [] Tryz.func15
def ea (a0:List Int) (left1:Int):Option Int :=
 let left1_1:=mH (left1-(a0.length:Int))
 cond (decide (left1_1<0)) (some (-1)) (some left1_1)
def fi:FL:=(81,⟨[.val false uP false,.val false mM false],[.val false mM (some true)],λa=>ea a.1 a.2⟩)::fh
theorem jp:Gd fi:=mV jo 81 Tryz.f81 [] Tryz.func81
def ed (a0:nM) (left1:Int):Option Int :=
 (ea a0.2.2.2 left1).bind λt8 =>
 cond (decide (t8<0)) (some (-1)) (some t8)
def fj:FL:=(16,⟨[.val true o8 false,.val false mM false],[.val false mM (some true)],λa=>ed a.1 a.2⟩)::fi
theorem jq:Gd fj:=mV jp 16 Tryz.f16 [] Tryz.func16
def a6 (x0:Int) (least1:Int) (most2:Int):Option Bool :=
 (cond (decide (x0>=least1)) (some (decide (x0<=most2))) (some false)).bind λt14 =>
 some t14
def fk:FL:=(107,⟨[.val false mM false,.val false mM false,.val false mM false],[.val false nO (some true)],λa=>a6 a.1 a.2.1 a.2.2⟩)::fj
theorem jr:Gd fk:=mV jq 107 Tryz.f107 [] Tryz.func107
def bw (l0:List mT):Option (List mT) :=
 (app ([]:List mT) l0).bind λzs5 =>
 some zs5
def fm:FL:=(264,⟨[.val false (.one (.sl ng)) false],[.val false (.one (.sl ng)) (some true)],λa=>bw a⟩)::fk
theorem js:Gd fm:=mV jr 264 Tryz.f264 [] Tryz.func264
def cC (v0:nY):Option nY :=
 (app ([]:List oy) v0.1).bind λzs6 =>
 (app ([]:List Int) v0.2).bind λzs10 =>
 some (zs6,zs10)
def fo:FL:=(265,⟨[.val true pn false],[.val true pn (some true)],λa=>cC a⟩)::fm
theorem jt:Gd fo:=mV js 265 Tryz.f265 [] Tryz.func265
def bx (b0:mL):Option mL :=
 (app ([]:List Pt) b0.2.2.1).bind λzs8 =>
 (bw b0.2.2.2.1).bind λt12 =>
 (cC (b0.2.2.2.2.1,b0.2.2.2.2.2.1)).bind λt16 =>
 some (b0.1,b0.2.1,zs8,t12,t16.1,t16.2,b0.2.2.2.2.2.2.1,b0.2.2.2.2.2.2.2.1,b0.2.2.2.2.2.2.2.2.1,b0.2.2.2.2.2.2.2.2.2.1,b0.2.2.2.2.2.2.2.2.2.2)
def fp:FL:=(176,⟨[.val true na false],[.val true na (some true)],λa=>bx a⟩)::fo
theorem ju:Gd fp:=mV jt 176 Tryz.f176 [] Tryz.func176
def aD (n0:Int):Option Int :=
 cond (decide (n0>=1000000)) (some n0) (some (mH (n0+1)))
def fq:FL:=(195,⟨[.val false mM false],[.val false mM (some true)],λa=>aD a⟩)::fp
theorem jv:Gd fq:=mV ju 195 Tryz.f195 [] Tryz.func195
def aS (v0:rk):Option Bool :=
 (a6 v0.1 1 99).bind λt5 =>
 (cond t5
 ((a6 v0.2.1 0 100000).bind λt9 =>
 some t9)
 (some false)).bind λt10 =>
 (cond t10
 ((a6 v0.2.2.1 0 10).bind λt14 =>
 some t14)
 (some false)).bind λt15 =>
 (cond t15
 ((a6 v0.2.2.2.1 1 99).bind λt19 =>
 some t19)
 (some false)).bind λt20 =>
 (cond t20
 ((a6 v0.2.2.2.2 0 7).bind λt24 =>
 some t24)
 (some false)).bind λt25 =>
 some t25
def fr:FL:=(245,⟨[.val true qz false],[.val false nO (some true)],λa=>aS a⟩)::fq
theorem jw:Gd fr:=mV jv 245 Tryz.f245 [] Tryz.func245
def bz (p0:Pt):Option Bool :=
 (a6 p0.2.1 1 1000).bind λt5 =>
 (cond (!t5)
 (some true)
 ((cond (!p0.1) (some p0.2.2.1) (some false)).bind λt14 =>
 some t14)).bind λt15 =>
 cond t15
 (some false)
 (cond (!p0.2.2.1)
 (let t2:=p0.2.2.2.1==0&&(p0.2.2.2.2.1==0&&(p0.2.2.2.2.2.1==0&&(p0.2.2.2.2.2.2.1==0&&(p0.2.2.2.2.2.2.2==0))))
 some t2)
 ((aS p0.2.2.2).bind λt25 =>
 some t25))
def ft:FL:=(268,⟨[.val true oK false],[.val false nO (some true)],λa=>bz a⟩)::fr
theorem jx:Gd ft:=mV jw 268 Tryz.f268 [] Tryz.func268
def bA (e0:mT):Option Bool :=
 (a6 e0.1 1 99).bind λt5 =>
 (cond t5
 ((a6 e0.2.1 1 9999).bind λt9 =>
 some t9)
 (some false)).bind λt10 =>
 (cond t10
 ((a6 e0.2.2.1 0 7).bind λt14 =>
 some t14)
 (some false)).bind λt15 =>
 (cond t15
 ((a6 e0.2.2.2.1 0 4).bind λt19 =>
 some t19)
 (some false)).bind λt20 =>
 (cond t20
 ((cond (!e0.2.2.2.2) (some true) (some (e0.2.2.2.1==0))).bind λt29 =>
 some t29)
 (some false)).bind λt30 =>
 some t30
def fu:FL:=(292,⟨[.val true ng false],[.val false nO (some true)],λa=>bA a⟩)::ft
theorem jy:Gd fu:=mV jx 292 Tryz.f292 [] Tryz.func292
def av (e0:mT) (tag1:Int) (mac2:Int):Option Bool :=
 cond (e0.1 != tag1) (some (decide (e0.1<tag1))) (some (decide (e0.2.1<mac2)))
def fv:FL:=(329,⟨[.val true ng false,.val false mM false,.val false mM false],[.val false nO (some true)],λa=>av a.1 a.2.1 a.2.2⟩)::fu
theorem jz:Gd fv:=mV jy 329 Tryz.f329 [] Tryz.func329
def ee (l0:List mT) (i3:Int):Option (Int⊕(Unit⊕Bool)) :=
 cond (decide (i3<(l0.length:Int)))
 ((at? l0 i3).bind λx12 =>
 (bA x12).bind λt14 =>
 (cond (!t14)
 (some true)
 ((cond (decide (i3>0))
 ((at? l0 (mH (i3-1))).bind λx23 =>
 (at? l0 i3).bind λx27 =>
 (at? l0 i3).bind λx32 =>
 (av x23 x27.1 x32.2.1).bind λt35 =>
 some (!t35))
 (some false)).bind λt37 =>
 some t37)).bind λt38 =>
 cond t38 (some (.inr (.inr false))) (some (.inl (mH (i3+1)))))
 (some (.inr (.inl ())))
def bB (l0:List mT):Option Bool :=
 (loop (λz=>ee l0 z) 0).bind (Sum.elim (λd =>
 let t2:=decide ((l0.length:Int)<=12)
 some t2) (λr=>some r))
def fw:FL:=(269,⟨[.val false (.one (.sl ng)) false],[.val false nO (some true)],λa=>bB a⟩)::fv
theorem jA:Gd fw:=mV jz 269 Tryz.f269 [(0,⟨⟨(3,false,[dI])::us 17 21 [],[]⟩,
 ⟨[],[]⟩,some ⟨[(2,false,[dB])],[]⟩⟩)] Tryz.func269
def jB (v0:nY) (id1:Int) (i5:Int):Option (Int⊕(Unit⊕Int)) :=
 cond (decide (i5<(v0.1.length:Int)))
 ((at? v0.1 i5).bind λx16 =>
 cond (x16.1==id1) (some (.inr (.inr i5))) (some (.inl (mH (i5+1)))))
 (some (.inr (.inl ())))
def aE (v0:nY) (id1:Int):Option Int :=
 (loop (λz=>jB v0 id1 z) 0).bind (Sum.elim (λd =>
 some (-1)) (λr=>some r))
def fx:FL:=(290,⟨[.val true pn false,.val false mM false],[.val false mM (some true)],λa=>aE a.1 a.2⟩)::fw
theorem jC:Gd fx:=mV jA 290 Tryz.f290 [(0,⟨⟨[(5,false,[dI])],[]⟩,
 ⟨[],[]⟩,some ⟨[(4,false,[dI])],[]⟩⟩)] Tryz.func290
def ef (p0:nY) (t27:Int) (t6:Int):Option (Int⊕(Unit⊕Bool)) :=
 cond (decide (t6<(p0.1.length:Int)))
 ((at? p0.1 t6).bind λx39 =>
 (a6 x39.1 1 99).bind λt43 =>
 (cond (!t43)
 (some true)
 ((a6 x39.2.1 0 (mH (t27-1))).bind λt49 =>
 some (!t49))).bind λt51 =>
 (cond t51
 (some true)
 ((a6 x39.2.2 0 (mH (t27-1))).bind λt56 =>
 some (!t56))).bind λt58 =>
 (cond t58 (some true) (some ((pp .i64 x39.2.2 x39.2.1) != x39.2.2))).bind λt68 =>
 (cond t68
 (some true)
 ((cond (decide (t6>0))
 ((at? p0.1 (mH (t6-1))).bind λx77 =>
 some (decide (x77.1>=x39.1)))
 (some false)).bind λt83 =>
 some t83)).bind λt84 =>
 cond t84 (some (.inr (.inr false))) (some (.inl (mH (t6+1)))))
 (some (.inr (.inl ())))
def fy (p0:nY) (t8:Int):Option (Int⊕(Unit⊕Bool)) :=
 cond (decide (t8<(p0.2.length:Int)))
 ((at? p0.2 t8).bind λx96 =>
 (aE p0 x96).bind λt98 =>
 cond (decide (t98<0)) (some (.inr (.inr false))) (some (.inl (mH (t8+1)))))
 (some (.inr (.inl ())))
def cD (p0:nY) (i1:Int):Option Bool :=
 (a6 i1 1 6).bind λt10 =>
 (cond (!t10) (some true) (some ((p0.2.length:Int) != i1))).bind λt18 =>
 (cond t18 (some true) (some (decide ((p0.1.length:Int)>6)))).bind λt24 =>
 cond t24
 (some false)
 ((shl .i64 1 (IntKind.u64.wrap (i1))).bind λt27 =>
 (loop (λz=>ef p0 t27 z) 0).bind (Sum.elim (λd =>
 (loop (λz=>fy p0 z) 0).bind (Sum.elim (λd_1 =>
 some true) (λr=>some r))) (λr_1=>some r_1)))
def fA:FL:=(270,⟨[.val true pn false,.val false mM false],[.val false nO (some true)],λa=>cD a.1 a.2⟩)::fx
theorem jD:Gd fA:=mV jC 270 Tryz.f270 [(0,⟨⟨(6,false,[dI])::us 46 5 (us 53 5 (us 60 8 (us 70 14 []))),[]⟩,
 ⟨[],[]⟩,some ⟨[(4,false,[dB])],[]⟩⟩),
 (2,⟨⟨[(8,false,[dI])],[]⟩,
 ⟨[],[]⟩,some ⟨[(4,false,[dB])],[]⟩⟩)] Tryz.func270
def cE (b0:mL):Option Bool :=
 (a6 b0.2.2.2.2.2.2.1 0 1000000).bind λt5 =>
 (cond t5
 ((a6 b0.2.2.2.2.2.2.2.1 0 1000000).bind λt9 =>
 some t9)
 (some false)).bind λt10 =>
 (cond t10
 ((a6 b0.2.2.2.2.2.2.2.2.1 0 1000000).bind λt14 =>
 some t14)
 (some false)).bind λt15 =>
 (cond t15
 ((a6 b0.2.2.2.2.2.2.2.2.2.1 0 1000000).bind λt19 =>
 some t19)
 (some false)).bind λt20 =>
 (cond t20
 ((a6 b0.2.2.2.2.2.2.2.2.2.2 0 1000000).bind λt24 =>
 some t24)
 (some false)).bind λt25 =>
 some t25
def fB:FL:=(271,⟨[.val true na false],[.val false nO (some true)],λa=>cE a⟩)::fA
theorem jE:Gd fB:=mV jD 271 Tryz.f271 [] Tryz.func271
def eg (b0:mL) (i3:Int):Option (Int⊕(Unit⊕Bool)) :=
 cond (decide (i3<(b0.2.2.1.length:Int)))
 ((at? b0.2.2.1 i3).bind λx14 =>
 (bz x14).bind λt16 =>
 cond (!t16) (some (.inr (.inr false))) (some (.inl (mH (i3+1)))))
 (some (.inr (.inl ())))
def bC (b0:mL):Option Bool :=
 (loop (λz=>eg b0 z) 0).bind (Sum.elim (λd =>
 (a6 b0.1 1 99).bind λt20 =>
 (cond t20 (some (decide ((b0.2.1.length:Int)<=10))) (some false)).bind λt26 =>
 (cond t26
 ((a6 (b0.2.2.1.length:Int) 1 6).bind λt31 =>
 some t31)
 (some false)).bind λt32 =>
 (cond t32
 ((bB b0.2.2.2.1).bind λt36 =>
 some t36)
 (some false)).bind λt37 =>
 (cond t37
 ((cD (b0.2.2.2.2.1,b0.2.2.2.2.2.1) (b0.2.2.1.length:Int)).bind λt44 =>
 some t44)
 (some false)).bind λt45 =>
 (cond t45
 ((cE b0).bind λt48 =>
 some t48)
 (some false)).bind λt49 =>
 some t49) (λr=>some r))
def fC:FL:=(179,⟨[.val true na false],[.val false nO (some true)],λa=>bC a⟩)::fB
theorem jF:Gd fC:=mV jE 179 Tryz.f179 [(0,⟨⟨[(3,false,[dI])],[]⟩,
 ⟨[],[]⟩,some ⟨[(2,false,[dB])],[]⟩⟩)] Tryz.func179
def cG (b0:mL) (port1:Int):Option Bool :=
 (bC b0).bind λt6 =>
 (cond t6
 ((a6 port1 0 (mH ((b0.2.2.1.length:Int)-1))).bind λt13 =>
 some t13)
 (some false)).bind λt14 =>
 some t14
def fD:FL:=(196,⟨[.val true na false,.val false mM false],[.val false nO (some true)],λa=>cG a.1 a.2⟩)::fC
theorem jG:Gd fD:=mV jF 196 Tryz.f196 [] Tryz.func196
def eh (f0:nM):Option Bool :=
 (a6 f0.1 0 9999).bind λt5 =>
 (cond t5
 ((a6 f0.2.1 1 9999).bind λt9 =>
 some t9)
 (some false)).bind λt10 =>
 (cond t10
 ((a6 f0.2.2.1 0 99).bind λt14 =>
 some t14)
 (some false)).bind λt15 =>
 (cond t15 (some (decide ((f0.2.2.2.length:Int)<=20))) (some false)).bind λt21 =>
 some t21
def fE:FL:=(197,⟨[.val true o8 false],[.val false nO (some true)],λa=>eh a⟩)::fD
theorem jH:Gd fE:=mV jG 197 Tryz.f197 [] Tryz.func197
def cH (a0:rk) (b1:rk):Option Bool :=
 cond (a0.1 != b1.1)
 (some (decide (a0.1<b1.1)))
 (cond (a0.2.1 != b1.2.1)
 (some (decide (a0.2.1<b1.2.1)))
 (cond (a0.2.2.2.1 != b1.2.2.2.1)
 (let t4:=decide (a0.2.2.2.1<b1.2.2.2.1)
 some t4)
 (let t4_1:=decide (a0.2.2.2.2<b1.2.2.2.2)
 some t4_1)))
def fF:FL:=(345,⟨[.val true qz false,.val true qz false],[.val false nO (some true)],λa=>cH a.1 a.2⟩)::fE
theorem jI:Gd fF:=mV jH 345 Tryz.f345 [] Tryz.func345
def ej (v0:rk) (cost1:Int):Option (rk×Bool) :=
 (aS v0).bind λt8 =>
 (cond (!t8)
 (some true)
 ((a6 cost1 1 1000).bind λt12 =>
 some (!t12))).bind λt14 =>
 cond t14
 (some (v0,false))
 ((aS (v0.1,mH (v0.2.1+cost1),mH (v0.2.2.1+1),v0.2.2.2.1,v0.2.2.2.2)).bind λt27 =>
 cond (!t27)
 (some (v0,false))
 (some ((v0.1,mH (v0.2.1+cost1),mH (v0.2.2.1+1),v0.2.2.2.1,v0.2.2.2.2),true)))
def fG:FL:=(371,⟨[.val true qz false,.val false mM false],[.val true qz (some true),.val false nO (some true)],λa=>ej a.1 a.2⟩)::fF
theorem jJ:Gd fG:=mV jI 371 Tryz.f371 [] Tryz.func371
def ek (p0:Int) (i1:List Pt) (t8:Int) (t9:Int) (b0:Int) (b1:Int) (b2:Int) (b3:Int) (b4:Int) (b0_1:Int) (b1_1:Int) (b2_1:Int) (b3_1:Int) (b4_1:Int):Option ((Int×Int×Int×Int×Int×Int×Int×Int×Int×Int×Int×Int)⊕(Int×Int×Int×Int×Int×Int×Int×Int×Int×Int×Int)) :=
 cond (decide (t9<(i1.length:Int)))
 ((at? i1 t9).bind λx24 =>
 (cond (!x24.1)
 (some true)
 ((at? i1 t9).bind λx31 =>
 some (!x31.2.2.1))).bind λt35 =>
 cond t35
 (some (.inl (t8,mH (t9+1),b0,b1,b2,b3,b4,b0_1,b1_1,b2_1,b3_1,b4_1)))
 ((at? i1 t9).bind λx39 =>
 (at? i1 t9).bind λx44 =>
 (ej x39.2.2.2 x44.2.1).bind λt47 =>
 (cond t47.2 (some (decide (t47.1.1<p0))) (some false)).bind λt56 =>
 (cond t56
 ((cond (decide (t8<0))
 (some true)
 ((cH t47.1 (b0_1,b1_1,b2_1,b3_1,b4_1)).bind λt63 =>
 some t63)).bind λt64 =>
 some t64)
 (some false)).bind λt65 =>
 cond t65
 (some (.inl (t9,mH (t9+1),t47.1.1,t47.1.2.1,t47.1.2.2.1,p0,0,t47.1.1,t47.1.2.1,t47.1.2.2.1,t47.1.2.2.2.1,t47.1.2.2.2.2)))
 (some (.inl (t8,mH (t9+1),b0,b1,b2,b3,b4,b0_1,b1_1,b2_1,b3_1,b4_1)))))
 (some (.inr (t8,b0,b1,b2,b3,b4,b0_1,b1_1,b2_1,b3_1,b4_1)))
def bD (p0:Int) (i1:List Pt):Option (rk×Int) :=
 (loop (λz=>ek p0 i1 z.1 z.2.1 z.2.2.1 z.2.2.2.1 z.2.2.2.2.1 z.2.2.2.2.2.1 z.2.2.2.2.2.2.1 z.2.2.2.2.2.2.2.1 z.2.2.2.2.2.2.2.2.1 z.2.2.2.2.2.2.2.2.2.1 z.2.2.2.2.2.2.2.2.2.2.1 z.2.2.2.2.2.2.2.2.2.2.2) ((-1),0,p0,0,0,p0,0,0,0,0,0,0)).bind λd =>
 some ((d.2.1,d.2.2.1,d.2.2.2.1,d.2.2.2.2.1,d.2.2.2.2.2.1),d.1)
def fH:FL:=(344,⟨[.val false mM false,.val false (.one (.sl oK)) false],[.val true qz (some true),.val false mM (some true)],λa=>bD a.1 a.2⟩)::fG
theorem jK:Gd fH:=mV jJ 344 Tryz.f344 [(0,⟨⟨(8,false,[dI])::(9,false,[dI])::us 29 6 (us 52 4 (us 58 7 [])),[(266240,.box [dI,dI,dI,dI,dI]),(526336,.box [dI,dI,dI,dI,dI])]⟩,
 ⟨[(8,false,[dI])],[(266240,.box [dI,dI,dI,dI,dI]),(526336,.box [dI,dI,dI,dI,dI])]⟩,none⟩)] Tryz.func344
def cI (id0:Int) (l1:List Pt) (port2:Int):Option rk :=
 (bD id0 l1).bind λt12 =>
 some (t12.1.1,t12.1.2.1,t12.1.2.2.1,t12.1.2.2.2.1,port2)
def fJ:FL:=(346,⟨[.val false mM false,.val false (.one (.sl oK)) false,.val false mM false],[.val true qz (some true)],λa=>cI a.1 a.2.1 a.2.2⟩)::fH
theorem jL:Gd fJ:=mV jK 346 Tryz.f346 [] Tryz.func346
def cJ (id0:Int) (l1:List Pt) (port2:Int):Option Int :=
 (a6 port2 0 (mH ((l1.length:Int)-1))).bind λt13 =>
 (cond (!t13)
 (some true)
 ((at? l1 port2).bind λx18 =>
 some (!x18.1))).bind λt22 =>
 cond t22
 (some 4)
 ((bD id0 l1).bind λt26 =>
 cond (t26.2==port2)
 (some 1)
 ((at? l1 port2).bind λx36 =>
 (cond (!x36.2.2.1)
 (some true)
 ((cI id0 l1 port2).bind λt44 =>
 (at? l1 port2).bind λx47 =>
 (cH t44 x47.2.2.2).bind λt50 =>
 some t50)).bind λt51 =>
 cond t51 (some 2) (some 3)))
def fK:FL:=(289,⟨[.val false mM false,.val false (.one (.sl oK)) false,.val false mM false],[.val false mM (some true)],λa=>cJ a.1 a.2.1 a.2.2⟩)::fJ
theorem jM:Gd fK:=mV jL 289 Tryz.f289 [] Tryz.func289
def bE (id0:Int) (l1:List Pt) (n5:Int) (i6:Int):Option ((Int×Int)⊕Int) :=
 (cond (decide (i6<(l1.length:Int))) (some (decide (i6<6))) (some false)).bind λt14 =>
 cond t14
 ((cJ id0 l1 i6).bind λt20 =>
 cond (decide (t20<=2))
 ((shl .i64 1 (IntKind.u64.wrap (i6))).bind λt25 =>
 some (.inl (AU .i64 n5 t25,mH (i6+1))))
 (some (.inl (n5,mH (i6+1)))))
 (some (.inr n5))
def bG (id0:Int) (l1:List Pt):Option Int :=
 (loop (λz=>bE id0 l1 z.1 z.2) (0,0)).bind λd =>
 some d
def fL:FL:=(198,⟨[.val false mM false,.val false (.one (.sl oK)) false],[.val false mM (some true)],λa=>bG a.1 a.2⟩)::fK
theorem jN:Gd fL:=mV jM 198 Tryz.f198 [(0,⟨⟨[(5,false,[dI]),(6,false,[dI]),(12,false,[.undef]),(13,false,[.undef])],[]⟩,
 ⟨[(5,false,[dI])],[]⟩,none⟩)] Tryz.func198
def af (n0:Int) (port1:Int):Option Bool :=
 (a6 port1 0 7).bind λt6 =>
 (cond t6
 ((shr .i64 n0 (IntKind.u64.wrap (port1))).bind λt11 =>
 some ((pp .i64 t11 1)==1))
 (some false)).bind λt14 =>
 some t14
def fM:FL:=(200,⟨[.val false mM false,.val false mM false],[.val false nO (some true)],λa=>af a.1 a.2⟩)::fL
theorem jO:Gd fM:=mV jN 200 Tryz.f200 [] Tryz.func200
def cK (v0:nY) (port1:Int) (tag2:Int):Option (Int×Bool) :=
 (a6 port1 0 (mH ((v0.2.length:Int)-1))).bind λt14 =>
 cond (!t14)
 (some (0,false))
 (cond (tag2==0)
 ((at? v0.2 port1).bind λx21 =>
 (aE v0 x21).bind λt25 =>
 (cond (decide (t25<0))
 (some true)
 ((at? v0.1 t25).bind λx32 =>
 (af x32.2.1 port1).bind λt36 =>
 some (!t36))).bind λt38 =>
 cond t38 (some (0,false)) (some (x21,true)))
 ((aE v0 tag2).bind λt25_1 =>
 (cond (decide (t25_1<0))
 (some true)
 ((at? v0.1 t25_1).bind λx32_1 =>
 (af x32_1.2.1 port1).bind λt36_1 =>
 some (!t36_1))).bind λt38_1 =>
 cond t38_1 (some (0,false)) (some (tag2,true))))
def fN:FL:=(199,⟨[.val true pn false,.val false mM false,.val false mM false],[.val false mM (some true),.val false nO (some true)],λa=>cK a.1 a.2.1 a.2.2⟩)::fM
theorem jP:Gd fN:=mV jO 199 Tryz.f199 [] Tryz.func199
def aF (l0:List mT) (tag1:Int) (mac2:Int) (i7:Int):Option (Int⊕(Unit⊕Int)) :=
 cond (decide (i7<(l0.length:Int)))
 ((at? l0 i7).bind λx16 =>
 (cond (x16.1==tag1)
 ((at? l0 i7).bind λx24 =>
 some (x24.2.1==mac2))
 (some false)).bind λt29 =>
 cond t29 (some (.inr (.inr i7))) (some (.inl (mH (i7+1)))))
 (some (.inr (.inl ())))
def bH (l0:List mT) (tag1:Int) (mac2:Int):Option Int :=
 (loop (λz=>aF l0 tag1 mac2 z) 0).bind (Sum.elim (λd =>
 some (-1)) (λr=>some r))
def fO:FL:=(291,⟨[.val false (.one (.sl ng)) false,.val false mM false,.val false mM false],[.val false mM (some true)],λa=>bH a.1 a.2.1 a.2.2⟩)::fN
theorem jQ:Gd fO:=mV jP 291 Tryz.f291 [(0,⟨⟨(7,false,[dI])::us 22 7 [],[]⟩,
 ⟨[],[]⟩,some ⟨[(6,false,[dI])],[]⟩⟩)] Tryz.func291
def aG (p0:List mT) (i1:mT) (t6:Bool) (t7:Int) (t5:List mT):Option ((Bool×Int×List mT)⊕(Bool×List mT)) :=
 cond (decide (t7<(p0.length:Int)))
 ((cond (!t6)
 ((at? p0 t7).bind λx20 =>
 (av x20 i1.1 i1.2.1).bind λt26 =>
 some (!t26))
 (some false)).bind λt28 =>
 cond t28
 ((app t5 [i1]).bind λzs32 =>
 (at? p0 t7).bind λx35 =>
 (cond (x35.1 != i1.1)
 (some true)
 ((at? p0 t7).bind λx44 =>
 some (x44.2.1 != i1.2.1))).bind λt50 =>
 cond t50
 ((at? p0 t7).bind λx54 =>
 (app zs32 [x54]).bind λzs57 =>
 some (.inl (true,mH (t7+1),zs57)))
 (some (.inl (true,mH (t7+1),zs32))))
 ((at? p0 t7).bind λx35_1 =>
 (cond (x35_1.1 != i1.1)
 (some true)
 ((at? p0 t7).bind λx44_1 =>
 some (x44_1.2.1 != i1.2.1))).bind λt50_1 =>
 cond t50_1
 ((at? p0 t7).bind λx54_1 =>
 (app t5 [x54_1]).bind λzs57_1 =>
 some (.inl (t6,mH (t7+1),zs57_1)))
 (some (.inl (t6,mH (t7+1),t5)))))
 (some (.inr (t6,t5)))
def cL (p0:List mT) (i1:mT):Option (List mT) :=
 (loop (λz=>aG p0 i1 z.1 z.2.1 z.2.2) (false,0,([]:List mT))).bind λd =>
 cond (!d.1)
 ((app d.2 [i1]).bind λzs63 =>
 some zs63)
 (some d.2)
def fP:FL:=(293,⟨[.val false (.one (.sl ng)) false,.val true ng false],[.val false (.one (.sl ng)) (some true)],λa=>cL a.1 a.2⟩)::fO
theorem jR:Gd fP:=mV jQ 293 Tryz.f293 [(0,⟨⟨(5,false,[.own 1000000000])::(6,false,[dB])::(7,false,[dI])::us 18 10 (us 42 8 []),[(1000000000,.root ng true)]⟩,
 ⟨[(5,false,[.own 1000000300]),(6,false,[dB])],[(1000000300,.root ng true)]⟩,none⟩)] Tryz.func293
def cM (l0:List mT) (tag1:Int) (mac2:Int) (port3:Int):Option (List mT) :=
 (bH l0 tag1 mac2).bind λt18 =>
 (bB l0).bind λt20 =>
 (cond (!t20)
 (some true)
 ((bA (tag1,mac2,port3,0,false)).bind λt24 =>
 some (!t24))).bind λt26 =>
 (cond t26
 (some true)
 ((cond (decide (t18>=0))
 ((at? l0 t18).bind λx33 =>
 some x33.2.2.2.2)
 (some false)).bind λt36 =>
 some t36)).bind λt37 =>
 (cond t37
 (some true)
 ((cond (decide (t18<0)) (some (decide ((l0.length:Int)>=12))) (some false)).bind λt45 =>
 some t45)).bind λt46 =>
 cond t46
 ((bw l0).bind λt48 =>
 some t48)
 ((cL l0 (tag1,mac2,port3,0,false)).bind λt51 =>
 some t51)
def fQ:FL:=(201,⟨[.val false (.one (.sl ng)) false,.val false mM false,.val false mM false,.val false mM false],[.val false (.one (.sl ng)) (some true)],λa=>cM a.1 a.2.1 a.2.2.1 a.2.2.2⟩)::fP
theorem jS:Gd fQ:=mV jR 201 Tryz.f201 [] Tryz.func201
def eo (v0:nY) (id1:Int):Option Int :=
 (aE v0 id1).bind λt8 =>
 cond (decide (t8<0))
 (some 0)
 ((at? v0.1 t8).bind λx14 =>
 some x14.2.1)
def fR:FL:=(202,⟨[.val true pn false,.val false mM false],[.val false mM (some true)],λa=>eo a.1 a.2⟩)::fQ
theorem jT:Gd fR:=mV jS 202 Tryz.f202 [] Tryz.func202
def cN (l0:List mT) (tag1:Int) (mac2:Int):Option Int :=
 (bH l0 tag1 mac2).bind λt11 =>
 cond (decide (t11<0))
 (some (-1))
 ((at? l0 t11).bind λx16 =>
 some x16.2.2.1)
def fS:FL:=(203,⟨[.val false (.one (.sl ng)) false,.val false mM false,.val false mM false],[.val false mM (some true)],λa=>cN a.1 a.2.1 a.2.2⟩)::fR
theorem jU:Gd fS:=mV jT 203 Tryz.f203 [] Tryz.func203
def ep (f0:nM):Option nM :=
 (app ([]:List Int) f0.2.2.2).bind λzs8 =>
 some (f0.1,f0.2.1,f0.2.2.1,zs8)
def fT:FL:=(347,⟨[.val true o8 false],[.val true o8 (some true)],λa=>ep a⟩)::fS
theorem jV:Gd fT:=mV jU 347 Tryz.f347 [] Tryz.func347
def cO (f0:nM) (tag1:Int):Option nM :=
 (ep f0).bind λt7 =>
 some (t7.1,t7.2.1,tag1,t7.2.2.2)
def fU:FL:=(294,⟨[.val true o8 false,.val false mM false],[.val true o8 (some true)],λa=>cO a.1 a.2⟩)::fT
theorem jW:Gd fU:=mV jV 294 Tryz.f294 [] Tryz.func294
def cP (v0:nY) (id1:Int) (port2:Int):Option Int :=
 (aE v0 id1).bind λt10 =>
 (cond (decide (t10<0))
 (some true)
 ((at? v0.1 t10).bind λx17 =>
 (af x17.2.2 port2).bind λt21 =>
 some t21)).bind λt22 =>
 cond t22 (some 0) (some id1)
def fV:FL:=(295,⟨[.val true pn false,.val false mM false,.val false mM false],[.val false mM (some true)],λa=>cP a.1 a.2.1 a.2.2⟩)::fU
theorem jX:Gd fV:=mV jW 295 Tryz.f295 [] Tryz.func295
def aU (b0:mL) (tag1:Int) (bits2:Int) (f3:nM) (i10:Int) (out9:List nC):Option ((Int×List nC)⊕(List nC)) :=
 cond (decide (i10<(b0.2.2.1.length:Int)))
 ((af bits2 i10).bind λt21 =>
 cond t21
 ((cP (b0.2.2.2.2.1,b0.2.2.2.2.2.1) tag1 i10).bind λt29 =>
 (cO f3 t29).bind λt30 =>
 (app out9 [(i10,t30.1,t30.2.1,t30.2.2.1,t30.2.2.2)]).bind λzs33 =>
 some (.inl (mH (i10+1),zs33)))
 (some (.inl (mH (i10+1),out9))))
 (some (.inr out9))
def aH (b0:mL) (tag1:Int) (bits2:Int) (f3:nM):Option (List nC) :=
 (loop (λz=>aU b0 tag1 bits2 f3 z.1 z.2) (0,([]:List nC))).bind λd =>
 some d
def fW:FL:=(204,⟨[.val true na false,.val false mM false,.val false mM false,.val true o8 false],[.val false (.one (.sl sC)) (some true)],λa=>aH a.1 a.2.1 a.2.2.1 a.2.2.2⟩)::fV
theorem jY:Gd fW:=mV jX 204 Tryz.f204 [(0,⟨⟨[(9,false,[.own 1000000000]),(10,false,[dI])],[(1000000000,.root sC true)]⟩,
 ⟨[(9,false,[.own 1000000300])],[(1000000300,.root sC true)]⟩,none⟩)] Tryz.func204
def aV (p0:mL) (i1:Int) (a2:nM):Option (mL×List nC) :=
 (bx p0).bind λt16 =>
 (cG p0 i1).bind λt20 =>
 (cond (!t20)
 (some true)
 ((eh a2).bind λt24 =>
 some (!t24))).bind λt26 =>
 cond t26
 (some (t16,([]:List nC)))
 ((bG p0.1 p0.2.2.1).bind λt33 =>
 (cK (p0.2.2.2.2.1,p0.2.2.2.2.2.1) i1 a2.2.2.1).bind λt40 =>
 (af t33 i1).bind λt45 =>
 (cond (!t45) (some true) (some (!t40.2))).bind λt50 =>
 cond t50
 ((aD p0.2.2.2.2.2.2.2.2.2.1).bind λt53 =>
 some ((t16.1,t16.2.1,t16.2.2.1,t16.2.2.2.1,t16.2.2.2.2.1,t16.2.2.2.2.2.1,t16.2.2.2.2.2.2.1,t16.2.2.2.2.2.2.2.1,t16.2.2.2.2.2.2.2.2.1,t53,t16.2.2.2.2.2.2.2.2.2.2),([]:List nC)))
 ((cM p0.2.2.2.1 t40.1 a2.2.1 i1).bind λt63 =>
 (aD p0.2.2.2.2.2.2.2.2.2.2).bind λt67 =>
 (eo (p0.2.2.2.2.1,p0.2.2.2.2.2.1) t40.1).bind λt73 =>
 (shl .i64 1 (IntKind.u64.wrap (i1))).bind λt77 =>
 let t13:=sJ .i64 (pp .i64 t33 t73) t77
 cond (a2.1 != 0)
 ((cN t63 t40.1 a2.1).bind λt87 =>
 cond (decide (t87>=0))
 ((shl .i64 1 (IntKind.u64.wrap (t87))).bind λt93 =>
 (aH p0 t40.1 (pp .i64 t13 t93) a2).bind λt100 =>
 some ((t16.1,t16.2.1,t16.2.2.1,t63,t16.2.2.2.2.1,t16.2.2.2.2.2.1,t16.2.2.2.2.2.2.1,t16.2.2.2.2.2.2.2.1,t16.2.2.2.2.2.2.2.2.1,t16.2.2.2.2.2.2.2.2.2.1,t67),t100))
 ((aH p0 t40.1 t13 a2).bind λt100_1 =>
 some ((t16.1,t16.2.1,t16.2.2.1,t63,t16.2.2.2.2.1,t16.2.2.2.2.2.1,t16.2.2.2.2.2.2.1,t16.2.2.2.2.2.2.2.1,t16.2.2.2.2.2.2.2.2.1,t16.2.2.2.2.2.2.2.2.2.1,t67),t100_1)))
 ((aH p0 t40.1 t13 a2).bind λt100_2 =>
 some ((t16.1,t16.2.1,t16.2.2.1,t63,t16.2.2.2.2.1,t16.2.2.2.2.2.1,t16.2.2.2.2.2.2.1,t16.2.2.2.2.2.2.2.1,t16.2.2.2.2.2.2.2.2.1,t16.2.2.2.2.2.2.2.2.2.1,t67),t100_2))))
def fX:FL:=(121,⟨[.val true na false,.val false mM false,.val true o8 false],[.val true na (some true),.val false (.one (.sl sC)) (some true)],λa=>aV a.1 a.2.1 a.2.2⟩)::fW
theorem jZ:Gd fX:=mV jY 121 Tryz.f121 [] Tryz.func121
def aW (n0:nh) (i4:Int) (b0:List mL):Option ((Int×List mL)⊕(List mL)) :=
 cond (decide (i4<(n0.1.length:Int)))
 ((at? n0.1 i4).bind λx26 =>
 (bx x26).bind λt28 =>
 (app b0 [t28]).bind λzs30 =>
 some (.inl (mH (i4+1),zs30)))
 (some (.inr b0))
def cQ (n0:nh):Option nh :=
 (app ([]:List nD) n0.2.1).bind λzs8 =>
 (app ([]:List oT) n0.2.2).bind λzs12 =>
 (loop (λz=>aW n0 z.1 z.2) (0,[])).bind λd =>
 some (d,zs8,zs12)
def fY:FL:=(150,⟨[.val true oi false],[.val true oi (some true)],λa=>cQ a⟩)::fX
theorem kc:Gd fY:=mV jZ 150 Tryz.f150 [(0,⟨⟨[(4,false,[dI])],[(272384,.box [.own 1000000000,.same 266240,.same 270336]),(1000000000,.root na true)]⟩,
 ⟨[],[(272384,.box [.own 1000000300,.same 266240,.same 270336]),(1000000300,.root na true)]⟩,none⟩)] Tryz.func150
def aX (n0:nh) (b1:Int) (p2:Int) (k7:Int) (i8:Int):Option ((Int×Int)⊕Int) :=
 cond (decide (i8<(n0.2.1.length:Int)))
 ((at? n0.2.1 i8).bind λx20 =>
 (cond (x20.1==b1) (some (x20.2.1==p2)) (some false)).bind λt31 =>
 cond t31
 ((cond (x20.2.2.1==b1) (some (x20.2.2.2==p2)) (some false)).bind λt43 =>
 cond t43
 (some (.inl (mH ((mH (k7+1))+1),mH (i8+1))))
 (some (.inl (mH (k7+1),mH (i8+1)))))
 ((cond (x20.2.2.1==b1) (some (x20.2.2.2==p2)) (some false)).bind λt43_1 =>
 cond t43_1
 (some (.inl (mH (k7+1),mH (i8+1))))
 (some (.inl (k7,mH (i8+1))))))
 (some (.inr k7))
def bI (n0:nh) (b1:Int) (p2:Int):Option Int :=
 (loop (λz=>aX n0 b1 p2 z.1 z.2) (0,0)).bind λd =>
 some d
def fZ:FL:=(324,⟨[.val true oi false,.val false mM false,.val false mM false],[.val false mM (some true)],λa=>bI a.1 a.2.1 a.2.2⟩)::fY
theorem kd:Gd fZ:=mV kc 324 Tryz.f324 [(0,⟨⟨(7,false,[dI])::(8,false,[dI])::us 27 4 (us 39 4 []),[]⟩,
 ⟨[(7,false,[dI])],[]⟩,none⟩)] Tryz.func324
def aY (p0:nh) (t3:Int) (t4:Int):Option (Int⊕(Unit⊕Bool)) :=
 cond (decide (t4<t3))
 ((at? p0.1 t4).bind λx28 =>
 (at? p0.1 t3).bind λx34 =>
 cond (x28.1==x34.1) (some (.inr (.inr false))) (some (.inl (mH (t4+1)))))
 (some (.inr (.inl ())))
def aZ (p0:nh) (t3:Int) (t5:Int):Option (Int⊕(Unit⊕Bool)) :=
 (at? p0.1 t3).bind λx42 =>
 cond (decide (t5<(x42.2.2.1.length:Int)))
 ((at? p0.1 t3).bind λx52 =>
 (at? x52.2.2.1 t5).bind λx56 =>
 (cond x56.2.2.1
 ((bI p0 t3 t5).bind λt63 =>
 some (t63==0))
 (some false)).bind λt65 =>
 cond t65 (some (.inr (.inr false))) (some (.inl (mH (t5+1)))))
 (some (.inr (.inl ())))
def b7 (p0:nh) (t3:Int):Option (Int⊕(Unit⊕Bool)) :=
 cond (decide (t3<(p0.1.length:Int)))
 ((at? p0.1 t3).bind λx16 =>
 (bC x16).bind λt18 =>
 cond (!t18)
 (some (.inr (.inr false)))
 ((loop (λz=>aY p0 t3 z) 0).bind (Sum.elim (λd =>
 (loop (λz=>aZ p0 t3 z) 0).bind (Sum.elim (λd_1 =>
 some (.inl (mH (t3+1)))) (λr=>some (.inr (.inr r))))) (λr_1=>some (.inr (.inr r_1))))))
 (some (.inr (.inl ())))
def cR (p0:nh):Option Bool :=
 (loop (λz=>b7 p0 z) 0).bind (Sum.elim (λd_2 =>
 (a6 (p0.1.length:Int) 1 6).bind λt69 =>
 some t69) (λr_2=>some r_2))
def ga:FL:=(243,⟨[.val true oi false],[.val false nO (some true)],λa=>cR a⟩)::fZ
theorem ke:Gd ga:=mV kd 243 Tryz.f243 [(0,⟨⟨(3,false,[dI])::us 60 5 [],[]⟩,
 ⟨[],[]⟩,some ⟨[(2,false,[dB])],[]⟩⟩),
 (2,⟨⟨[(4,false,[dI])],[]⟩,
 ⟨[],[]⟩,some ⟨[(2,false,[dB])],[]⟩⟩),
 (4,⟨⟨(5,false,[dI])::us 60 5 [],[]⟩,
 ⟨us 60 5 [],[]⟩,some ⟨[(2,false,[dB])],[]⟩⟩)] Tryz.func243
def bJ (n0:nh) (b1:Int) (p2:Int):Option Bool :=
 (a6 b1 0 (mH ((n0.1.length:Int)-1))).bind λt12 =>
 (cond t12
 ((at? n0.1 b1).bind λx18 =>
 (a6 p2 0 (mH ((x18.2.2.1.length:Int)-1))).bind λt23 =>
 some t23)
 (some false)).bind λt24 =>
 (cond t24
 ((bI n0 b1 p2).bind λt29 =>
 some (t29==1))
 (some false)).bind λt31 =>
 some t31
def gb:FL:=(244,⟨[.val true oi false,.val false mM false,.val false mM false],[.val false nO (some true)],λa=>bJ a.1 a.2.1 a.2.2⟩)::ga
theorem kf:Gd gb:=mV ke 244 Tryz.f244 [] Tryz.func244
def b8 (p0:nh) (t3:Int):Option (Int⊕(Unit⊕Bool)) :=
 cond (decide (t3<(p0.2.1.length:Int)))
 ((at? p0.2.1 t3).bind λx31 =>
 (cond (x31.1==x31.2.2.1)
 (some true)
 ((bJ p0 x31.1 x31.2.1).bind λt44 =>
 some (!t44))).bind λt46 =>
 (cond t46
 (some true)
 ((bJ p0 x31.2.2.1 x31.2.2.2).bind λt53 =>
 some (!t53))).bind λt55 =>
 (cond t55
 (some true)
 ((at? p0.1 x31.1).bind λx61 =>
 (at? x61.2.2.1 x31.2.1).bind λx66 =>
 (at? p0.1 x31.2.2.1).bind λx73 =>
 (at? x73.2.2.1 x31.2.2.2).bind λx78 =>
 some (!(x66.1==x78.1)))).bind λt82 =>
 cond t82 (some (.inr (.inr false))) (some (.inl (mH (t3+1)))))
 (some (.inr (.inl ())))
def b9 (p0:nh) (t5:Int):Option (Int⊕(Unit⊕Bool)) :=
 cond (decide (t5<(p0.2.2.length:Int)))
 ((at? p0.2.2 t5).bind λx93 =>
 (a6 x93.1 0 (mH ((p0.2.1.length:Int)-1))).bind λt100 =>
 (cond (!t100)
 (some true)
 ((at? p0.2.2 t5).bind λx106 =>
 (aS x106.2.2).bind λt109 =>
 some (!t109))).bind λt111 =>
 cond t111 (some (.inr (.inr false))) (some (.inl (mH (t5+1)))))
 (some (.inr (.inl ())))
def cS (p0:nh):Option Bool :=
 (cR p0).bind λt7 =>
 (cond (!t7) (some true) (some (decide ((p0.2.1.length:Int)>9)))).bind λt14 =>
 (cond t14 (some true) (some (decide ((p0.2.2.length:Int)>40)))).bind λt20 =>
 cond t20
 (some false)
 ((loop (λz=>b8 p0 z) 0).bind (Sum.elim (λd =>
 (loop (λz=>b9 p0 z) 0).bind (Sum.elim (λd_1 =>
 some true) (λr=>some r))) (λr_1=>some r_1)))
def gd:FL:=(151,⟨[.val true oi false],[.val false nO (some true)],λa=>cS a⟩)::gb
theorem kg:Gd gd:=mV kf 151 Tryz.f151 [(0,⟨⟨(3,false,[dI])::us 39 7 (us 48 7 (us 57 25 [])),[]⟩,
 ⟨[],[]⟩,some ⟨[(2,false,[dB])],[]⟩⟩),
 (2,⟨⟨(5,false,[dI])::us 103 8 [],[]⟩,
 ⟨[],[]⟩,some ⟨[(2,false,[dB])],[]⟩⟩)] Tryz.func151
def bK (n0:nh) (b1:Int) (p2:Int):Option Bool :=
 (at? n0.1 b1).bind λx10 =>
 (at? n0.1 b1).bind λx16 =>
 (bG x10.1 x16.2.2.1).bind λt19 =>
 (af t19 p2).bind λt21 =>
 some t21
def ge:FL:=(152,⟨[.val true oi false,.val false mM false,.val false mM false],[.val false nO (some true)],λa=>bK a.1 a.2.1 a.2.2⟩)::gd
theorem kh:Gd ge:=mV kg 152 Tryz.f152 [] Tryz.func152
def ki (n0:nh) (b1:Int) (p2:Int) (i9:Int):Option (Int⊕(Unit⊕(Int×Int×Bool))) :=
 cond (decide (i9<(n0.2.1.length:Int)))
 ((at? n0.2.1 i9).bind λx21 =>
 (cond (x21.1==b1) (some (x21.2.1==p2)) (some false)).bind λt32 =>
 cond t32
 (some (.inr (.inr (x21.2.2.1,x21.2.2.2,true))))
 ((cond (x21.2.2.1==b1) (some (x21.2.2.2==p2)) (some false)).bind λt46 =>
 cond t46
 (some (.inr (.inr (x21.1,x21.2.1,true))))
 (some (.inl (mH (i9+1))))))
 (some (.inr (.inl ())))
def eq (n0:nh) (b1:Int) (p2:Int):Option (Int×Int×Bool) :=
 (loop (λz=>ki n0 b1 p2 z) 0).bind (Sum.elim (λd =>
 some ((-1),(-1),false)) (λr=>some r))
def gg:FL:=(246,⟨[.val true oi false,.val false mM false,.val false mM false],[.val false mM (some true),.val false mM (some true),.val false nO (some true)],λa=>eq a.1 a.2.1 a.2.2⟩)::ge
theorem kj:Gd gg:=mV kh 246 Tryz.f246 [(0,⟨⟨(9,false,[dI])::us 28 4 (us 42 4 []),[]⟩,
 ⟨[],[]⟩,some ⟨[(6,false,[dI]),(7,false,[dI]),(8,false,[dB])],[]⟩⟩)] Tryz.func246
def bL (n0:nh) (b1:Int) (p2:Int):Option Bool :=
 (a6 b1 0 (mH ((n0.1.length:Int)-1))).bind λt12 =>
 (cond t12
 ((at? n0.1 b1).bind λx18 =>
 (a6 p2 0 (mH ((x18.2.2.1.length:Int)-1))).bind λt23 =>
 some t23)
 (some false)).bind λt24 =>
 (cond t24
 ((at? n0.1 b1).bind λx29 =>
 (at? x29.2.2.1 p2).bind λx33 =>
 some x33.1)
 (some false)).bind λt36 =>
 some t36
def gh:FL:=(247,⟨[.val true oi false,.val false mM false,.val false mM false],[.val false nO (some true)],λa=>bL a.1 a.2.1 a.2.2⟩)::gg
theorem kk:Gd gh:=mV kj 247 Tryz.f247 [] Tryz.func247
def aI (p0:vR) (i1:Int) (a2:List nC) (t6:Int) (b6:Int) (b3:List n9) (b4:List n9):Option ((Int×Int×List n9×List n9)⊕(Int×List n9×List n9)) :=
 cond (decide (t6<(a2.length:Int)))
 ((at? a2 t6).bind λx24 =>
 (eq (p0.1,p0.2.1,p0.2.2.1) i1 x24.1).bind λt27 =>
 cond (!t27.2.2)
 ((at? a2 t6).bind λx42 =>
 (at? a2 t6).bind λx47 =>
 (app b4 [(i1,x42.1,x47.2.1,x47.2.2.1,x47.2.2.2.1,x47.2.2.2.2)]).bind λzs52 =>
 some (.inl (mH (t6+1),b6,b3,zs52)))
 ((bL (p0.1,p0.2.1,p0.2.2.1) t27.1 t27.2.1).bind λt62 =>
 cond t62
 ((at? a2 t6).bind λx72 =>
 (app b3 [(t27.1,t27.2.1,x72.2.1,x72.2.2.1,x72.2.2.2.1,x72.2.2.2.2)]).bind λzs77 =>
 some (.inl (mH (t6+1),b6,zs77,b4)))
 (some (.inl (mH (t6+1),b6,b3,b4)))))
 (some (.inr (b6,b3,b4)))
def bM (p0:vR) (i1:Int) (a2:List nC):Option vR :=
 (loop (λz=>aI p0 i1 a2 z.1 z.2.1 z.2.2.1 z.2.2.2) (0,p0.2.2.2.2.2.2,p0.2.2.2.1,p0.2.2.2.2.1)).bind λd =>
 some (p0.1,p0.2.1,p0.2.2.1,d.2.1,d.2.2,p0.2.2.2.2.2.1,d.1)
def gi:FL:=(153,⟨[.ptr wt (some false),.val false mM false,.val false (.one (.sl sC)) false],[],λa=>bM a.1 a.2.1 a.2.2⟩)::gh
theorem kl:Gd gi:=mV kk 153 Tryz.f153 [(0,⟨⟨[(6,false,[dI])],[(1,.box [.same 2,.same 3,.same 4,.own 1000000000,.own 1000000001,.same 7,dI]),(1000000000,.root ny false),(1000000001,.root ny false)]⟩,
 ⟨[],[(1,.box [.same 2,.same 3,.same 4,.own 1000000300,.own 1000000301,.same 7,dI]),(1000000300,.root ny false),(1000000301,.root ny false)]⟩,none⟩)] Tryz.func153
def aq (b6:Int) (b0:List mL) (b1:List nD) (b2:List oT) (b3:List n9) (b4:List n9) (b5:List Int):Option ((Int×List mL×List nD×List oT×List n9×List n9×List Int)⊕(Int×List mL×List nD×List oT×List n9×List n9×List Int)) :=
 (cond (decide ((b3.length:Int)>0)) (some (decide (b6<60))) (some false)).bind λt65 =>
 cond t65
 ((ix b3.length 0).bind λj70 =>
 (b3[j70]?).bind λx71 =>
 (vY b3.length 1 (b3.length:Int)).bind λp =>
 (ix b0.length x71.1).bind λj88 =>
 (b0[j88]?).bind λx89 =>
 (aV x89 x71.2.1 x71.2.2).bind λt94 =>
 (ix b0.length x71.1).bind λj105 =>
 (b0[j105]?).bind λx =>
 (bK (b0.set j105 t94.1,b1,b2) x71.1 x71.2.1).bind λt114 =>
 cond t114
 ((app b5 [x71.1]).bind λzs123 =>
 (bM (b0.set j105 t94.1,b1,b2,(b3.take p.2).drop p.1,b4,zs123,mH (b6+1)) x71.1 t94.2).bind λt137 =>
 some (.inl (t137.2.2.2.2.2.2,t137.1,t137.2.1,t137.2.2.1,t137.2.2.2.1,t137.2.2.2.2.1,t137.2.2.2.2.2.1)))
 ((bM (b0.set j105 t94.1,b1,b2,(b3.take p.2).drop p.1,b4,b5,mH (b6+1)) x71.1 t94.2).bind λt137_1 =>
 some (.inl (t137_1.2.2.2.2.2.2,t137_1.1,t137_1.2.1,t137_1.2.2.1,t137_1.2.2.2.1,t137_1.2.2.2.2.1,t137_1.2.2.2.2.2.1))))
 (some (.inr (b6,b0,b1,b2,b3,b4,b5)))
def ew (p0:nh) (i1:Int) (a2:Int) (a3:nM):Option vR :=
 (cQ p0).bind λt14 =>
 (cS p0).bind λt20 =>
 (cond (!t20)
 (some true)
 ((a6 i1 0 (mH ((p0.1.length:Int)-1))).bind λt28 =>
 some (!t28))).bind λt30 =>
 (cond t30
 (some true)
 ((at? p0.1 i1).bind λx36 =>
 (a6 a2 0 (mH ((x36.2.2.1.length:Int)-1))).bind λt41 =>
 some (!t41))).bind λt43 =>
 cond t43
 (some (t14.1,t14.2.1,t14.2.2,[],([]:List n9),([]:List Int),0))
 ((loop (λz=>aq z.1 z.2.1 z.2.2.1 z.2.2.2.1 z.2.2.2.2.1 z.2.2.2.2.2.1 z.2.2.2.2.2.2) (0,t14.1,t14.2.1,t14.2.2,[(i1,a2,a3.1,a3.2.1,a3.2.2.1,a3.2.2.2)],([]:List n9),([]:List Int))).bind λd =>
 some (d.2.1,d.2.2.1,d.2.2.2.1,d.2.2.2.2.1,d.2.2.2.2.2.1,d.2.2.2.2.2.2,d.1))
def gj:FL:=(82,⟨[.val true oi false,.val false mM false,.val false mM false,.val true o8 false],[.ptr wt (some false)],λa=>ew a.1 a.2.1 a.2.2.1 a.2.2.2⟩)::gi
theorem ko:Gd gj:=mV kl 82 Tryz.f82 [(0,⟨⟨us 60 5 [],[(268288,.box [.own 1000000000,.own 1000000001,.own 1000000002,.own 1000000003,.own 1000000004,.own 1000000005,dI]),(1000000000,.root na false),(1000000001,.root oO false),(1000000002,.root pA false),(1000000003,.root ny false),(1000000004,.root ny false),(1000000005,.root mM false)]⟩,
 ⟨[],[(268288,.box [.own 1000000300,.own 1000000301,.own 1000000302,.own 1000000303,.own 1000000304,.own 1000000305,dI]),(1000000300,.root na false),(1000000301,.root oO false),(1000000302,.root pA false),(1000000303,.root ny false),(1000000304,.root ny false),(1000000305,.root mM false)]⟩,none⟩)] Tryz.func82
def cU (n0:nh) (b1:Int) (p2:Int) (f3:nM):Option (nh×(List n9)×Int) :=
 (ew n0 b1 p2 f3).bind λt16 =>
 some ((t16.1,t16.2.1,t16.2.2.1),t16.2.2.2.2.1,t16.2.2.2.2.2.2)
def gk:FL:=(17,⟨[.val true oi false,.val false mM false,.val false mM false,.val true o8 false],[.val true oi none,.val false (.one (.sl ny)) none,.val false mM (some true)],λa=>cU a.1 a.2.1 a.2.2.1 a.2.2.2⟩)::gj
theorem kq:Gd gk:=mV ko 17 Tryz.f17 [] Tryz.func17
def ez (a0:rk):Option rk :=
 some a0
def gl:FL:=(123,⟨[.val true qz false],[.val true qz (some true)],λa=>ez a⟩)::gk
theorem kt:Gd gl:=mV kq 123 Tryz.f123 [] Tryz.func123
def eA (a0:Pt):Option Pt :=
 (ez a0.2.2.2).bind λt15 =>
 some (a0.1,a0.2.1,a0.2.2.1,t15.1,t15.2.1,t15.2.2.1,t15.2.2.2.1,t15.2.2.2.2)
def gm:FL:=(279,⟨[.val true oK false],[.val true oK (some true)],λa=>eA a⟩)::gl
theorem ku:Gd gm:=mV kt 279 Tryz.f279 [] Tryz.func279
def kv (a0:List Pt) (i4:Int) (l:List Pt):Option ((Int×List Pt)⊕(List Pt)) :=
 cond (decide (i4<(a0.length:Int)))
 ((at? a0 i4).bind λx18 =>
 (eA x18).bind λt20 =>
 (ix l.length i4).bind λj21 =>
 (l[j21]?).bind λx =>
 some (.inl (mH (i4+1),l.set j21 t20)))
 (some (.inr l))
def eB (a0:List Pt):Option (List Pt) :=
 (r6 (a0.length:Int)).bind λn =>
 (loop (λz=>kv a0 z.1 z.2) (0,List.replicate n ((false,0,false,0,0,0,0,0):Pt))).bind λd =>
 some d
def gn:FL:=(184,⟨[.val false (.one (.sl oK)) false],[.val false (.one (.sl oK)) (some true)],λa=>eB a⟩)::gm
theorem kw:Gd gn:=mV ku 184 Tryz.f184 [(0,⟨⟨[(4,false,[dI])],[(265216,.keep oK true)]⟩,
 ⟨[],[(265216,.keep oK true)]⟩,none⟩)] Tryz.func184
def eC (a0:mT):Option mT :=
 some a0
def gp:FL:=(280,⟨[.val true ng false],[.val true ng (some true)],λa=>eC a⟩)::gn
theorem kz:Gd gp:=mV kw 280 Tryz.f280 [] Tryz.func280
def kA (a0:List mT) (i4:Int) (l:List mT):Option ((Int×List mT)⊕(List mT)) :=
 cond (decide (i4<(a0.length:Int)))
 ((at? a0 i4).bind λx18 =>
 (eC x18).bind λt20 =>
 (ix l.length i4).bind λj21 =>
 (l[j21]?).bind λx =>
 some (.inl (mH (i4+1),l.set j21 t20)))
 (some (.inr l))
def eD (a0:List mT):Option (List mT) :=
 (r6 (a0.length:Int)).bind λn =>
 (loop (λz=>kA a0 z.1 z.2) (0,List.replicate n ((0,0,0,0,false):mT))).bind λd =>
 some d
def gq:FL:=(185,⟨[.val false (.one (.sl ng)) false],[.val false (.one (.sl ng)) (some true)],λa=>eD a⟩)::gp
theorem kB:Gd gq:=mV kz 185 Tryz.f185 [(0,⟨⟨[(4,false,[dI])],[(265216,.keep ng true)]⟩,
 ⟨[],[(265216,.keep ng true)]⟩,none⟩)] Tryz.func185
def eE (a0:oy):Option oy :=
 some a0
def gt:FL:=(340,⟨[.val true o7 false],[.val true o7 (some true)],λa=>eE a⟩)::gq
theorem kC:Gd gt:=mV kB 340 Tryz.f340 [] Tryz.func340
def kD (a0:List oy) (i4:Int) (l:List oy):Option ((Int×List oy)⊕(List oy)) :=
 cond (decide (i4<(a0.length:Int)))
 ((at? a0 i4).bind λx18 =>
 (eE x18).bind λt20 =>
 (ix l.length i4).bind λj21 =>
 (l[j21]?).bind λx =>
 some (.inl (mH (i4+1),l.set j21 t20)))
 (some (.inr l))
def eF (a0:List oy):Option (List oy) :=
 (r6 (a0.length:Int)).bind λn =>
 (loop (λz=>kD a0 z.1 z.2) (0,List.replicate n ((0,0,0):oy))).bind λd =>
 some d
def gu:FL:=(281,⟨[.val false (.one (.sl o7)) false],[.val false (.one (.sl o7)) (some true)],λa=>eF a⟩)::gt
theorem kE:Gd gu:=mV kC 281 Tryz.f281 [(0,⟨⟨[(4,false,[dI])],[(265216,.keep o7 true)]⟩,
 ⟨[],[(265216,.keep o7 true)]⟩,none⟩)] Tryz.func281
def kF (a0:List Int) (i4:Int) (l:List Int):Option ((Int×List Int)⊕(List Int)) :=
 cond (decide (i4<(a0.length:Int)))
 ((at? a0 i4).bind λx18 =>
 (ix l.length i4).bind λj20 =>
 (l[j20]?).bind λx =>
 some (.inl (mH (i4+1),l.set j20 x18)))
 (some (.inr l))
def eG (a0:List Int):Option (List Int) :=
 (r6 (a0.length:Int)).bind λn =>
 (loop (λz=>kF a0 z.1 z.2) (0,List.replicate n (0:Int))).bind λd =>
 some d
def gv:FL:=(282,⟨[.val false pa false],[.val false pa (some true)],λa=>eG a⟩)::gu
theorem kG:Gd gv:=mV kE 282 Tryz.f282 [(0,⟨⟨[(4,false,[dI])],[(265216,.keep mM true)]⟩,
 ⟨[],[(265216,.keep mM true)]⟩,none⟩)] Tryz.func282
def cV (a0:nY):Option nY :=
 (eF a0.1).bind λt6 =>
 (eG a0.2).bind λt10 =>
 some (t6,t10)
def gw:FL:=(186,⟨[.val true pn false],[.val true pn (some true)],λa=>cV a⟩)::gv
theorem kH:Gd gw:=mV kG 186 Tryz.f186 [] Tryz.func186
def bN (a0:mL):Option mL :=
 (eB a0.2.2.1).bind λt12 =>
 (eD a0.2.2.2.1).bind λt16 =>
 (cV (a0.2.2.2.2.1,a0.2.2.2.2.2.1)).bind λt20 =>
 some (a0.1,a0.2.1,t12,t16,t20.1,t20.2,a0.2.2.2.2.2.2.1,a0.2.2.2.2.2.2.2.1,a0.2.2.2.2.2.2.2.2.1,a0.2.2.2.2.2.2.2.2.2.1,a0.2.2.2.2.2.2.2.2.2.2)
def gx:FL:=(109,⟨[.val true na false],[.val true na (some true)],λa=>bN a⟩)::gw
theorem kJ:Gd gx:=mV kH 109 Tryz.f109 [] Tryz.func109
def kK (a0:List mL) (i4:Int) (l:List mL):Option ((Int×List mL)⊕(List mL)) :=
 cond (decide (i4<(a0.length:Int)))
 ((at? a0 i4).bind λx18 =>
 (bN x18).bind λt20 =>
 (ix l.length i4).bind λj21 =>
 (l[j21]?).bind λx =>
 some (.inl (mH (i4+1),l.set j21 t20)))
 (some (.inr l))
def eH (a0:List mL):Option (List mL) :=
 (r6 (a0.length:Int)).bind λn =>
 (loop (λz=>kK a0 z.1 z.2) (0,List.replicate n ((0,[],[],[],[],[],0,0,0,0,0):mL))).bind λd =>
 some d
def gy:FL:=(83,⟨[.val false (.one (.sl na)) false],[.val false (.one (.sl na)) (some true)],λa=>eH a⟩)::gx
theorem kL:Gd gy:=mV kJ 83 Tryz.f83 [(0,⟨⟨[(4,false,[dI])],[(265216,.keep na true)]⟩,
 ⟨[],[(265216,.keep na true)]⟩,none⟩)] Tryz.func83
def eI (a0:nD):Option nD :=
 some a0
def gz:FL:=(154,⟨[.val true oO false],[.val true oO (some true)],λa=>eI a⟩)::gy
theorem kM:Gd gz:=mV kL 154 Tryz.f154 [] Tryz.func154
def kN (a0:List nD) (i4:Int) (l:List nD):Option ((Int×List nD)⊕(List nD)) :=
 cond (decide (i4<(a0.length:Int)))
 ((at? a0 i4).bind λx18 =>
 (eI x18).bind λt20 =>
 (ix l.length i4).bind λj21 =>
 (l[j21]?).bind λx =>
 some (.inl (mH (i4+1),l.set j21 t20)))
 (some (.inr l))
def eJ (a0:List nD):Option (List nD) :=
 (r6 (a0.length:Int)).bind λn =>
 (loop (λz=>kN a0 z.1 z.2) (0,List.replicate n ((0,0,0,0):nD))).bind λd =>
 some d
def gA:FL:=(84,⟨[.val false (.one (.sl oO)) false],[.val false (.one (.sl oO)) (some true)],λa=>eJ a⟩)::gz
theorem kO:Gd gA:=mV kM 84 Tryz.f84 [(0,⟨⟨[(4,false,[dI])],[(265216,.keep oO true)]⟩,
 ⟨[],[(265216,.keep oO true)]⟩,none⟩)] Tryz.func84
def eK (a0:oT):Option oT :=
 (ez a0.2.2).bind λt12 =>
 some (a0.1,a0.2.1,t12.1,t12.2.1,t12.2.2.1,t12.2.2.2.1,t12.2.2.2.2)
def gB:FL:=(155,⟨[.val true pA false],[.val true pA (some true)],λa=>eK a⟩)::gA
theorem kP:Gd gB:=mV kO 155 Tryz.f155 [] Tryz.func155
def kQ (a0:List oT) (i4:Int) (l:List oT):Option ((Int×List oT)⊕(List oT)) :=
 cond (decide (i4<(a0.length:Int)))
 ((at? a0 i4).bind λx18 =>
 (eK x18).bind λt20 =>
 (ix l.length i4).bind λj21 =>
 (l[j21]?).bind λx =>
 some (.inl (mH (i4+1),l.set j21 t20)))
 (some (.inr l))
def eL (a0:List oT):Option (List oT) :=
 (r6 (a0.length:Int)).bind λn =>
 (loop (λz=>kQ a0 z.1 z.2) (0,List.replicate n ((0,false,0,0,0,0,0):oT))).bind λd =>
 some d
def gC:FL:=(85,⟨[.val false (.one (.sl pA)) false],[.val false (.one (.sl pA)) (some true)],λa=>eL a⟩)::gB
theorem kR:Gd gC:=mV kP 85 Tryz.f85 [(0,⟨⟨[(4,false,[dI])],[(265216,.keep pA true)]⟩,
 ⟨[],[(265216,.keep pA true)]⟩,none⟩)] Tryz.func85
def aJ (a0:nh):Option nh :=
 (eH a0.1).bind λt6 =>
 (eJ a0.2.1).bind λt10 =>
 (eL a0.2.2).bind λt14 =>
 some (t6,t10,t14)
def gD:FL:=(18,⟨[.val true oi false],[.val true oi (some true)],λa=>aJ a⟩)::gC
theorem kS:Gd gD:=mV kR 18 Tryz.f18 [] Tryz.func18
def kT (a0:List Int) (i4:Int) (l:List Int):Option ((Int×List Int)⊕(List Int)) :=
 cond (decide (i4<(a0.length:Int)))
 ((at? a0 i4).bind λx18 =>
 (ix l.length i4).bind λj20 =>
 (l[j20]?).bind λx =>
 some (.inl (mH (i4+1),l.set j20 x18)))
 (some (.inr l))
def eM (a0:List Int):Option (List Int) :=
 (r6 (a0.length:Int)).bind λn =>
 (loop (λz=>kT a0 z.1 z.2) (0,List.replicate n (0:Int))).bind λd =>
 some d
def gE:FL:=(86,⟨[.val false uP false],[.val false uP (some true)],λa=>eM a⟩)::gD
theorem kU:Gd gE:=mV kS 86 Tryz.f86 [(0,⟨⟨[(4,false,[dI])],[(265216,.keep (.one (.int .u8)) true)]⟩,
 ⟨[],[(265216,.keep (.one (.int .u8)) true)]⟩,none⟩)] Tryz.func86
def aK (a0:nM):Option nM :=
 (eM a0.2.2.2).bind λt15 =>
 some (a0.1,a0.2.1,a0.2.2.1,t15)
def gF:FL:=(19,⟨[.val true o8 false],[.val true o8 (some true)],λa=>aK a⟩)::gE
theorem kV:Gd gF:=mV kU 19 Tryz.f19 [] Tryz.func19
def aw (l0:List mT):Option (List mT) :=
 (app [] l0).bind λzs4 =>
 some zs4
def gG:FL:=(233,⟨[.val false (.one (.sl ng)) false],[.val false (.one (.sl ng)) (some true)],λa=>aw a⟩)::gF
theorem kW:Gd gG:=mV kV 233 Tryz.f233 [] Tryz.func233
def cW (l0:List Int):Option (List Int) :=
 (app [] l0).bind λzs4 =>
 some zs4
def gH:FL:=(313,⟨[.val false pa false],[.val false pa (some true)],λa=>cW a⟩)::gG
theorem kX:Gd gH:=mV kW 313 Tryz.f313 [] Tryz.func313
def cX (v0:nY):Option nY :=
 (app [] v0.1).bind λzs5 =>
 (cW v0.2).bind λt8 =>
 some (zs5,t8)
def gI:FL:=(234,⟨[.val true pn false],[.val true pn (some true)],λa=>cX a⟩)::gH
theorem kY:Gd gI:=mV kX 234 Tryz.f234 [] Tryz.func234
def bO (b0:mL):Option mL :=
 (app [] b0.2.2.1).bind λzs5 =>
 (aw b0.2.2.2.1).bind λt9 =>
 (cX (b0.2.2.2.2.1,b0.2.2.2.2.2.1)).bind λt12 =>
 some (b0.1,b0.2.1,zs5,t9,t12.1,t12.2,b0.2.2.2.2.2.2.1,b0.2.2.2.2.2.2.2.1,b0.2.2.2.2.2.2.2.2.1,b0.2.2.2.2.2.2.2.2.2.1,b0.2.2.2.2.2.2.2.2.2.2)
def gJ:FL:=(143,⟨[.val true na false],[.val true na (some true)],λa=>bO a⟩)::gI
theorem kZ:Gd gJ:=mV kY 143 Tryz.f143 [] Tryz.func143
def ba (n0:nh) (t16:Int) (b0:List mL):Option ((Int×List mL)⊕(List mL)) :=
 cond (decide (t16<(n0.1.length:Int)))
 ((at? n0.1 t16).bind λx18 =>
 (bO x18).bind λt23 =>
 (app b0 [t23]).bind λzs25 =>
 some (.inl (mH (t16+1),zs25)))
 (some (.inr b0))
def cY (n0:nh):Option nh :=
 (app [] n0.2.1).bind λzs8 =>
 (app [] n0.2.2).bind λzs11 =>
 (loop (λz=>ba n0 z.1 z.2) (0,[])).bind λd =>
 some (d,zs8,zs11)
def gK:FL:=(87,⟨[.val true oi false],[.val true oi (some true)],λa=>cY a⟩)::gJ
theorem l7:Gd gK:=mV kZ 87 Tryz.f87 [(0,⟨⟨[(16,false,[dI])],[(270336,.box [.own 1000000000,.same 265216,.same 268288]),(1000000000,.root na true)]⟩,
 ⟨[],[(270336,.box [.own 1000000300,.same 265216,.same 268288]),(1000000300,.root na true)]⟩,none⟩)] Tryz.func87
def a7 (n0:Int) (low1:Int) (high2:Int):Option Bool :=
 (cond (decide (n0>=low1)) (some (decide (n0<=high2))) (some false)).bind λt14 =>
 some t14
def gL:FL:=(74,⟨[.val false mM false,.val false mM false,.val false mM false],[.val false nO (some true)],λa=>a7 a.1 a.2.1 a.2.2⟩)::gK
theorem l8:Gd gL:=mV l7 74 Tryz.f74 [] Tryz.func74
def bb (n0:nh) (b1:Int) (p2:Int):Option (Pt×Bool) :=
 (a7 b1 0 (mH ((n0.1.length:Int)-1))).bind λt13 =>
 (cond (!t13)
 (some true)
 ((at? n0.1 b1).bind λx20 =>
 (a7 p2 0 (mH ((x20.2.2.1.length:Int)-1))).bind λt25 =>
 some (!t25))).bind λt27 =>
 cond t27
 (some ((false,0,false,0,0,0,0,0),false))
 ((at? n0.1 b1).bind λx32 =>
 (at? x32.2.2.1 p2).bind λx36 =>
 some (x36,true))
def gM:FL:=(156,⟨[.val true oi false,.val false mM false,.val false mM false],[.val true oK (some true),.val false nO (some true)],λa=>bb a.1 a.2.1 a.2.2⟩)::gL
theorem la:Gd gM:=mV l8 156 Tryz.f156 [] Tryz.func156
def ax (n0:Int):Option Bool :=
 (a7 n0 0 1000000).bind λt4 =>
 some t4
def gN:FL:=(146,⟨[.val false mM false],[.val false nO (some true)],λa=>ax a⟩)::gM
theorem lb:Gd gN:=mV la 146 Tryz.f146 [] Tryz.func146
def ay (v0:rk):Option Bool :=
 (a7 v0.1 1 99).bind λt5 =>
 (cond t5
 ((a7 v0.2.1 0 100000).bind λt9 =>
 some t9)
 (some false)).bind λt10 =>
 (cond t10
 ((a7 v0.2.2.1 0 10).bind λt14 =>
 some t14)
 (some false)).bind λt15 =>
 (cond t15
 ((a7 v0.2.2.2.1 1 99).bind λt19 =>
 some t19)
 (some false)).bind λt20 =>
 (cond t20
 ((a7 v0.2.2.2.2 0 7).bind λt24 =>
 some t24)
 (some false)).bind λt25 =>
 some t25
def gO:FL:=(249,⟨[.val true qz false],[.val false nO (some true)],λa=>ay a⟩)::gN
theorem lc:Gd gO:=mV lb 249 Tryz.f249 [] Tryz.func249
def bP (p0:Pt):Option Bool :=
 (a7 p0.2.1 1 1000).bind λt5 =>
 (cond (!t5)
 (some true)
 ((cond p0.2.2.1 (some (!p0.1)) (some false)).bind λt14 =>
 some t14)).bind λt15 =>
 cond t15
 (some false)
 (cond p0.2.2.1
 ((ay p0.2.2.2).bind λt20 =>
 some t20)
 (let t2:=p0.2.2.2.1==0&&(p0.2.2.2.2.1==0&&(p0.2.2.2.2.2.1==0&&(p0.2.2.2.2.2.2.1==0&&(p0.2.2.2.2.2.2.2==0))))
 some t2))
def gP:FL:=(236,⟨[.val true oK false],[.val false nO (some true)],λa=>bP a⟩)::gO
theorem ld:Gd gP:=mV lc 236 Tryz.f236 [] Tryz.func236
def aL (e0:mT):Option Bool :=
 (a7 e0.1 1 99).bind λt5 =>
 (cond t5
 ((a7 e0.2.1 1 9999).bind λt9 =>
 some t9)
 (some false)).bind λt10 =>
 (cond t10
 ((a7 e0.2.2.1 0 7).bind λt14 =>
 some t14)
 (some false)).bind λt15 =>
 (cond t15
 ((a7 e0.2.2.2.1 0 4).bind λt19 =>
 some t19)
 (some false)).bind λt20 =>
 (cond t20
 ((cond (!e0.2.2.2.2) (some true) (some (e0.2.2.2.1==0))).bind λt29 =>
 some t29)
 (some false)).bind λt30 =>
 some t30
def gQ:FL:=(315,⟨[.val true ng false],[.val false nO (some true)],λa=>aL a⟩)::gP
theorem lf:Gd gQ:=mV ld 315 Tryz.f315 [] Tryz.func315
def bc (e0:mT) (tag1:Int) (mac2:Int):Option Bool :=
 (cond (decide (e0.1>tag1))
 (some true)
 ((cond (e0.1==tag1) (some (decide (e0.2.1>mac2))) (some false)).bind λt21 =>
 some t21)).bind λt22 =>
 some t22
def gR:FL:=(316,⟨[.val true ng false,.val false mM false,.val false mM false],[.val false nO (some true)],λa=>bc a.1 a.2.1 a.2.2⟩)::gQ
theorem lg:Gd gR:=mV lf 316 Tryz.f316 [] Tryz.func316
def eN (l0:List mT) (t7:Int):Option (Int⊕(Unit⊕Bool)) :=
 cond (decide (t7<(l0.length:Int)))
 ((at? l0 t7).bind λx10 =>
 (aL x10).bind λt13 =>
 (cond (!t13)
 (some true)
 ((cond (decide (t7>0))
 ((at? l0 (mH (t7-1))).bind λx23 =>
 (at? l0 (mH (t7-1))).bind λx29 =>
 (bc x10 x23.1 x29.2.1).bind λt32 =>
 some (!t32))
 (some false)).bind λt34 =>
 some t34)).bind λt35 =>
 cond t35 (some (.inr (.inr false))) (some (.inl (mH (t7+1)))))
 (some (.inr (.inl ())))
def bQ (l0:List mT):Option Bool :=
 (loop (λz=>eN l0 z) 0).bind (Sum.elim (λd =>
 let t2:=decide ((l0.length:Int)<=12)
 some t2) (λr=>some r))
def gS:FL:=(237,⟨[.val false (.one (.sl ng)) false],[.val false nO (some true)],λa=>bQ a⟩)::gR
theorem lh:Gd gS:=mV lg 237 Tryz.f237 [(0,⟨⟨(7,false,[dI])::us 16 19 [],[]⟩,
 ⟨[],[]⟩,some ⟨[(2,false,[dB])],[]⟩⟩)] Tryz.func237
def cZ (ports0:Int):Option Int :=
 (shl .i64 1 ports0).bind λt4 =>
 some (mH (t4-1))
def gT:FL:=(317,⟨[.val false mM false],[.val false mM (some true)],λa=>cZ a⟩)::gS
theorem li:Gd gT:=mV lh 317 Tryz.f317 [] Tryz.func317
def aM (v0:nY) (id1:Int) (t10:Int):Option (Int⊕(Unit⊕Int)) :=
 cond (decide (t10<(v0.1.length:Int)))
 ((at? v0.1 t10).bind λx13 =>
 cond (x13.1==id1) (some (.inr (.inr t10))) (some (.inl (mH (t10+1)))))
 (some (.inr (.inl ())))
def ae (v0:nY) (id1:Int):Option Int :=
 (loop (λz=>aM v0 id1 z) 0).bind (Sum.elim (λd =>
 some (-1)) (λr=>some r))
def gU:FL:=(318,⟨[.val true pn false,.val false mM false],[.val false mM (some true)],λa=>ae a.1 a.2⟩)::gT
theorem lj:Gd gU:=mV li 318 Tryz.f318 [(0,⟨⟨[(10,false,[dI])],[]⟩,
 ⟨[],[]⟩,some ⟨[(4,false,[dI])],[]⟩⟩)] Tryz.func318
def eO (p0:nY) (i1:Int) (t28:Int):Option (Int⊕(Unit⊕Bool)) :=
 cond (decide (t28<(p0.1.length:Int)))
 ((at? p0.1 t28).bind λx31 =>
 (a7 x31.1 1 99).bind λt35 =>
 (cond (!t35)
 (some true)
 ((cond (decide (t28>0))
 ((at? p0.1 (mH (t28-1))).bind λx45 =>
 some (decide (x45.1>=x31.1)))
 (some false)).bind λt51 =>
 some t51)).bind λt52 =>
 (cond t52
 (some true)
 ((cZ i1).bind λt57 =>
 (a7 x31.2.1 0 t57).bind λt58 =>
 some (!t58))).bind λt60 =>
 (cond t60 (some true) (some ((sJ .i64 x31.2.2 x31.2.1) != 0))).bind λt68 =>
 cond t68 (some (.inr (.inr false))) (some (.inl (mH (t28+1)))))
 (some (.inr (.inl ())))
def d6 (p0:nY) (t73:Int):Option (Int⊕(Unit⊕Bool)) :=
 cond (decide (t73<(p0.2.length:Int)))
 ((at? p0.2 t73).bind λx75 =>
 (ae p0 x75).bind λt79 =>
 cond (decide (t79<0)) (some (.inr (.inr false))) (some (.inl (mH (t73+1)))))
 (some (.inr (.inl ())))
def d7 (p0:nY) (i1:Int):Option Bool :=
 (a7 i1 1 6).bind λt10 =>
 (cond (!t10) (some true) (some ((p0.2.length:Int) != i1))).bind λt18 =>
 (cond t18 (some true) (some (decide ((p0.1.length:Int)>6)))).bind λt24 =>
 cond t24
 (some false)
 ((loop (λz=>eO p0 i1 z) 0).bind (Sum.elim (λd =>
 (loop (λz=>d6 p0 z) 0).bind (Sum.elim (λd_1 =>
 some true) (λr=>some r))) (λr_1=>some r_1)))
def gV:FL:=(238,⟨[.val true pn false,.val false mM false],[.val false nO (some true)],λa=>d7 a.1 a.2⟩)::gU
theorem lk:Gd gV:=mV lj 238 Tryz.f238 [(0,⟨⟨(28,false,[dI])::us 38 14 (us 54 6 (us 62 6 [])),[]⟩,
 ⟨[],[]⟩,some ⟨[(4,false,[dB])],[]⟩⟩),
 (2,⟨⟨[(73,false,[dI])],[]⟩,
 ⟨[],[]⟩,some ⟨[(4,false,[dB])],[]⟩⟩)] Tryz.func238
def eP (p0:mL) (t8:Int):Option (Int⊕(Unit⊕Bool)) :=
 cond (decide (t8<(p0.2.2.1.length:Int)))
 ((at? p0.2.2.1 t8).bind λx10 =>
 (bP x10).bind λt13 =>
 cond (!t13) (some (.inr (.inr false))) (some (.inl (mH (t8+1)))))
 (some (.inr (.inl ())))
def bR (p0:mL):Option Bool :=
 (loop (λz=>eP p0 z) 0).bind (Sum.elim (λd =>
 (a7 p0.1 1 99).bind λt18 =>
 (cond (!t18) (some true) (some (decide ((p0.2.1.length:Int)>10)))).bind λt25 =>
 (cond t25
 (some true)
 ((a7 (p0.2.2.1.length:Int) 1 6).bind λt30 =>
 some (!t30))).bind λt32 =>
 (cond t32
 (some true)
 ((bQ p0.2.2.2.1).bind λt36 =>
 some (!t36))).bind λt38 =>
 (cond t38
 (some true)
 ((d7 (p0.2.2.2.2.1,p0.2.2.2.2.2.1) (p0.2.2.1.length:Int)).bind λt45 =>
 some (!t45))).bind λt47 =>
 cond t47
 (some false)
 ((ax p0.2.2.2.2.2.2.1).bind λt50 =>
 (cond t50
 ((ax p0.2.2.2.2.2.2.2.1).bind λt54 =>
 some t54)
 (some false)).bind λt55 =>
 (cond t55
 ((ax p0.2.2.2.2.2.2.2.2.1).bind λt59 =>
 some t59)
 (some false)).bind λt60 =>
 (cond t60
 ((ax p0.2.2.2.2.2.2.2.2.2.1).bind λt64 =>
 some t64)
 (some false)).bind λt65 =>
 (cond t65
 ((ax p0.2.2.2.2.2.2.2.2.2.2).bind λt69 =>
 some t69)
 (some false)).bind λt70 =>
 some t70)) (λr=>some r))
def gW:FL:=(145,⟨[.val true na false],[.val false nO (some true)],λa=>bR a⟩)::gV
theorem ll:Gd gW:=mV lk 145 Tryz.f145 [(0,⟨⟨[(8,false,[dI])],[]⟩,
 ⟨[],[]⟩,some ⟨[(2,false,[dB])],[]⟩⟩)] Tryz.func145
def bd (l0:List nD) (b1:Int) (p2:Int) (t11:Int):Option (Int⊕(Unit⊕Bool)) :=
 cond (decide (t11<(l0.length:Int)))
 ((at? l0 t11).bind λx13 =>
 (cond (x13.1==b1) (some (x13.2.1==p2)) (some false)).bind λt24 =>
 (cond t24
 (some true)
 ((cond (x13.2.2.1==b1) (some (x13.2.2.2==p2)) (some false)).bind λt35 =>
 some t35)).bind λt36 =>
 cond t36 (some (.inr (.inr true))) (some (.inl (mH (t11+1)))))
 (some (.inr (.inl ())))
def be (l0:List nD) (b1:Int) (p2:Int):Option Bool :=
 (loop (λz=>bd l0 b1 p2 z) 0).bind (Sum.elim (λd =>
 some false) (λr=>some r))
def gX:FL:=(248,⟨[.val false (.one (.sl oO)) false,.val false mM false,.val false mM false],[.val false nO (some true)],λa=>be a.1 a.2.1 a.2.2⟩)::gW
theorem lm:Gd gX:=mV ll 248 Tryz.f248 [(0,⟨⟨(11,false,[dI])::us 20 4 (us 26 10 []),[]⟩,
 ⟨[],[]⟩,some ⟨[(6,false,[dB])],[]⟩⟩)] Tryz.func248
def bf (p0:nh) (t12:Int):Option (Int⊕(Unit⊕Bool)) :=
 cond (decide (t12<(p0.2.1.length:Int)))
 ((at? p0.2.1 t12).bind λx15 =>
 (bb p0 x15.1 x15.2.1).bind λt23 =>
 (bb p0 x15.2.2.1 x15.2.2.2).bind λt32 =>
 (cond (decide (t12>=9)) (some true) (some (!t23.2))).bind λt40 =>
 (cond t40 (some true) (some (!t32.2))).bind λt44 =>
 (cond t44 (some true) (some (x15.1==x15.2.2.1))).bind λt51 =>
 (cond t51 (some true) (some (!(t23.1.1==t32.1.1)))).bind λt58 =>
 cond t58
 (some (.inr (.inr false)))
 ((cut p0.2.1 0 t12).bind λt62 =>
 (be t62 x15.1 x15.2.1).bind λt67 =>
 (cond t67
 (some true)
 ((cut p0.2.1 0 t12).bind λt72 =>
 (be t72 x15.2.2.1 x15.2.2.2).bind λt77 =>
 some t77)).bind λt78 =>
 cond t78 (some (.inr (.inr false))) (some (.inl (mH (t12+1))))))
 (some (.inr (.inl ())))
def d8 (p0:nh):Option Bool :=
 (loop (λz=>bf p0 z) 0).bind (Sum.elim (λd =>
 some true) (λr=>some r))
def gY:FL:=(250,⟨[.val true oi false],[.val false nO (some true)],λa=>d8 a⟩)::gX
theorem ln:Gd gY:=mV lm 250 Tryz.f250 [(0,⟨⟨(12,false,[dI])::us 38 2 (us 42 2 (us 46 5 (us 53 5 (us 69 9 [])))),[]⟩,
 ⟨[],[]⟩,some ⟨[(2,false,[dB])],[]⟩⟩)] Tryz.func250
def bg (x28:mL) (t36:List mL) (t38:Int):Option (Int⊕(Unit⊕Bool)) :=
 cond (decide (t38<(t36.length:Int)))
 ((at? t36 t38).bind λx40 =>
 cond (x40.1==x28.1) (some (.inr (.inr false))) (some (.inl (mH (t38+1)))))
 (some (.inr (.inl ())))
def bh (p0:nh) (t25:Int) (x28:mL) (t51:Int):Option (Int⊕(Unit⊕Bool)) :=
 cond (decide (t51<(x28.2.2.1.length:Int)))
 ((at? x28.2.2.1 t51).bind λx54 =>
 (cond x54.2.2.1
 ((be p0.2.1 t25 t51).bind λt63 =>
 some (!t63))
 (some false)).bind λt65 =>
 cond t65 (some (.inr (.inr false))) (some (.inl (mH (t51+1)))))
 (some (.inr (.inl ())))
def bj (p0:nh) (t25:Int):Option (Int⊕(Unit⊕Bool)) :=
 cond (decide (t25<(p0.1.length:Int)))
 ((at? p0.1 t25).bind λx28 =>
 (bR x28).bind λt31 =>
 cond (!t31)
 (some (.inr (.inr false)))
 ((cut p0.1 0 t25).bind λt36 =>
 (loop (λz=>bg x28 t36 z) 0).bind (Sum.elim (λd =>
 (loop (λz=>bh p0 t25 x28 z) 0).bind (Sum.elim (λd_1 =>
 some (.inl (mH (t25+1)))) (λr=>some (.inr (.inr r))))) (λr_1=>some (.inr (.inr r_1))))))
 (some (.inr (.inl ())))
def bm (p0:nh) (t71:Int):Option (Int⊕(Unit⊕Bool)) :=
 cond (decide (t71<(p0.2.2.length:Int)))
 ((at? p0.2.2 t71).bind λx73 =>
 (a7 x73.1 0 (mH ((p0.2.1.length:Int)-1))).bind λt81 =>
 (cond (!t81)
 (some true)
 ((ay x73.2.2).bind λt86 =>
 some (!t86))).bind λt88 =>
 cond t88 (some (.inr (.inr false))) (some (.inl (mH (t71+1)))))
 (some (.inr (.inl ())))
def d9 (p0:nh):Option Bool :=
 (a7 (p0.1.length:Int) 1 6).bind λt14 =>
 (cond (!t14) (some true) (some (decide ((p0.2.2.length:Int)>40)))).bind λt21 =>
 cond t21
 (some false)
 ((loop (λz=>bj p0 z) 0).bind (Sum.elim (λd_2 =>
 (loop (λz=>bm p0 z) 0).bind (Sum.elim (λd_3 =>
 (d8 p0).bind λt91 =>
 some t91) (λr_2=>some r_2))) (λr_3=>some r_3)))
def gZ:FL:=(157,⟨[.val true oi false],[.val false nO (some true)],λa=>d9 a⟩)::gY
theorem lp:Gd gZ:=mV ln 157 Tryz.f157 [(0,⟨⟨(25,false,[dI])::us 59 6 [],[]⟩,
 ⟨[],[]⟩,some ⟨[(2,false,[dB])],[]⟩⟩),
 (2,⟨⟨[(38,false,[dI])],[]⟩,
 ⟨[],[]⟩,some ⟨[(2,false,[dB])],[]⟩⟩),
 (4,⟨⟨(51,false,[dI])::us 59 6 [],[]⟩,
 ⟨us 59 6 [],[]⟩,some ⟨[(2,false,[dB])],[]⟩⟩),
 (6,⟨⟨(71,false,[dI])::us 84 4 [],[]⟩,
 ⟨[],[]⟩,some ⟨[(2,false,[dB])],[]⟩⟩)] Tryz.func157
def eQ (n0:nh) (b1:Int) (p2:Int):Option Bool :=
 (bb n0 b1 p2).bind λt13 =>
 (cond t13.2
 ((d9 n0).bind λt19 =>
 some t19)
 (some false)).bind λt20 =>
 some t20
def hC:FL:=(88,⟨[.val true oi false,.val false mM false,.val false mM false],[.val false nO (some true)],λa=>eQ a.1 a.2.1 a.2.2⟩)::gZ
theorem lq:Gd hC:=mV lp 88 Tryz.f88 [] Tryz.func88
def a9 (bits0:Int) (port1:Int):Option Bool :=
 (a7 port1 0 62).bind λt6 =>
 (cond t6
 ((shr .i64 bits0 port1).bind λt10 =>
 some ((pp .i64 t10 1)==1))
 (some false)).bind λt13 =>
 some t13
def hN:FL:=(251,⟨[.val false mM false,.val false mM false],[.val false nO (some true)],λa=>a9 a.1 a.2⟩)::hC
theorem lr:Gd hN:=mV lq 251 Tryz.f251 [] Tryz.func251
def bn (a0:rk) (b1:rk):Option Bool :=
 cond (a0.1 != b1.1)
 (some (decide (a0.1<b1.1)))
 (cond (a0.2.1 != b1.2.1)
 (some (decide (a0.2.1<b1.2.1)))
 (cond (a0.2.2.2.1 != b1.2.2.2.1)
 (let t4:=decide (a0.2.2.2.1<b1.2.2.2.1)
 some t4)
 (let t4_1:=decide (a0.2.2.2.2<b1.2.2.2.2)
 some t4_1)))
def hZ:FL:=(361,⟨[.val true qz false,.val true qz false],[.val false nO (some true)],λa=>bn a.1 a.2⟩)::hN
theorem lu:Gd hZ:=mV lr 361 Tryz.f361 [] Tryz.func361
def bS (v0:rk) (cost1:Int):Option (rk×Bool) :=
 (ay v0).bind λt8 =>
 (cond (!t8)
 (some true)
 ((a7 cost1 1 1000).bind λt12 =>
 some (!t12))).bind λt14 =>
 cond t14
 (some (v0,false))
 ((ay (v0.1,mH (v0.2.1+cost1),mH (v0.2.2.1+1),v0.2.2.2.1,v0.2.2.2.2)).bind λt27 =>
 cond (!t27)
 (some (v0,false))
 (some ((v0.1,mH (v0.2.1+cost1),mH (v0.2.2.1+1),v0.2.2.2.1,v0.2.2.2.2),true)))
def ia:FL:=(378,⟨[.val true qz false,.val false mM false],[.val true qz (some true),.val false nO (some true)],λa=>bS a.1 a.2⟩)::hZ
theorem lv:Gd ia:=mV lu 378 Tryz.f378 [] Tryz.func378
def bo (p0:Int) (i1:List Pt) (t7:Int) (t18:Int) (b0:Int) (b1:Int) (b2:Int) (b3:Int) (b4:Int) (b0_1:Int) (b1_1:Int) (b2_1:Int) (b3_1:Int) (b4_1:Int):Option ((Int×Int×Int×Int×Int×Int×Int×Int×Int×Int×Int×Int)⊕(Int×Int×Int×Int×Int×Int×Int×Int×Int×Int×Int)) :=
 cond (decide (t18<(i1.length:Int)))
 ((at? i1 t18).bind λx21 =>
 (cond (!x21.1) (some true) (some (!x21.2.2.1))).bind λt30 =>
 cond t30
 (some (.inl (t7,mH (t18+1),b0,b1,b2,b3,b4,b0_1,b1_1,b2_1,b3_1,b4_1)))
 ((bS x21.2.2.2 x21.2.1).bind λt36 =>
 (cond t36.2 (some (decide (t36.1.1<p0))) (some false)).bind λt45 =>
 (cond t45
 ((cond (decide (t7<0))
 (some true)
 ((bn t36.1 (b0_1,b1_1,b2_1,b3_1,b4_1)).bind λt52 =>
 some t52)).bind λt53 =>
 some t53)
 (some false)).bind λt54 =>
 cond t54
 (some (.inl (t18,mH (t18+1),t36.1.1,t36.1.2.1,t36.1.2.2.1,p0,0,t36.1.1,t36.1.2.1,t36.1.2.2.1,t36.1.2.2.2.1,t36.1.2.2.2.2)))
 (some (.inl (t7,mH (t18+1),b0,b1,b2,b3,b4,b0_1,b1_1,b2_1,b3_1,b4_1)))))
 (some (.inr (t7,b0,b1,b2,b3,b4,b0_1,b1_1,b2_1,b3_1,b4_1)))
def az (p0:Int) (i1:List Pt):Option (rk×Int) :=
 (loop (λz=>bo p0 i1 z.1 z.2.1 z.2.2.1 z.2.2.2.1 z.2.2.2.2.1 z.2.2.2.2.2.1 z.2.2.2.2.2.2.1 z.2.2.2.2.2.2.2.1 z.2.2.2.2.2.2.2.2.1 z.2.2.2.2.2.2.2.2.2.1 z.2.2.2.2.2.2.2.2.2.2.1 z.2.2.2.2.2.2.2.2.2.2.2) ((-1),0,p0,0,0,p0,0,0,0,0,0,0)).bind λd =>
 some ((d.2.1,d.2.2.1,d.2.2.2.1,d.2.2.2.2.1,d.2.2.2.2.2.1),d.1)
def ib:FL:=(360,⟨[.val false mM false,.val false (.one (.sl oK)) false],[.val true qz (some true),.val false mM (some true)],λa=>az a.1 a.2⟩)::ia
theorem lw:Gd ib:=mV lv 360 Tryz.f360 [(0,⟨⟨(7,false,[dI])::(18,false,[dI])::us 27 3 (us 41 4 (us 47 7 [])),[(266240,.box [dI,dI,dI,dI,dI]),(525312,.box [dI,dI,dI,dI,dI])]⟩,
 ⟨[(7,false,[dI])],[(266240,.box [dI,dI,dI,dI,dI]),(525312,.box [dI,dI,dI,dI,dI])]⟩,none⟩)] Tryz.func360
def bT (id0:Int) (l1:List Pt) (port2:Int):Option rk :=
 (az id0 l1).bind λt12 =>
 some (t12.1.1,t12.1.2.1,t12.1.2.2.1,t12.1.2.2.2.1,port2)
def ic:FL:=(362,⟨[.val false mM false,.val false (.one (.sl oK)) false,.val false mM false],[.val true qz (some true)],λa=>bT a.1 a.2.1 a.2.2⟩)::ib
theorem lz:Gd ic:=mV lw 362 Tryz.f362 [] Tryz.func362
def ar (id0:Int) (l1:List Pt) (port2:Int):Option Int :=
 (a7 port2 0 (mH ((l1.length:Int)-1))).bind λt13 =>
 (cond (!t13)
 (some true)
 ((at? l1 port2).bind λx18 =>
 some (!x18.1))).bind λt22 =>
 cond t22
 (some 4)
 ((az id0 l1).bind λt26 =>
 cond (t26.2==port2)
 (some 1)
 ((at? l1 port2).bind λx36 =>
 (cond (!x36.2.2.1)
 (some true)
 ((bT id0 l1 port2).bind λt44 =>
 (at? l1 port2).bind λx47 =>
 (bn t44 x47.2.2.2).bind λt50 =>
 some t50)).bind λt51 =>
 cond t51 (some 2) (some 3)))
def ie:FL:=(325,⟨[.val false mM false,.val false (.one (.sl oK)) false,.val false mM false],[.val false mM (some true)],λa=>ar a.1 a.2.1 a.2.2⟩)::ic
theorem lA:Gd ie:=mV lz 325 Tryz.f325 [] Tryz.func325
def ai (id0:Int) (l1:List Pt) (bits5:Int) (port6:Int):Option ((Int×Int)⊕Int) :=
 (cond (decide (port6<(l1.length:Int))) (some (decide (port6<6))) (some false)).bind λt15 =>
 cond t15
 ((ar id0 l1 port6).bind λt21 =>
 (cond (t21==1) (some true) (some (t21==2))).bind λt27 =>
 cond t27
 ((shl .i64 1 port6).bind λt30 =>
 some (.inl (AU .i64 bits5 t30,mH (port6+1))))
 (some (.inl (bits5,mH (port6+1)))))
 (some (.inr bits5))
def bU (id0:Int) (l1:List Pt):Option Int :=
 (loop (λz=>ai id0 l1 z.1 z.2) (0,0)).bind λd =>
 some d
def ig:FL:=(252,⟨[.val false mM false,.val false (.one (.sl oK)) false],[.val false mM (some true)],λa=>bU a.1 a.2⟩)::ie
theorem lB:Gd ig:=mV lA 252 Tryz.f252 [(0,⟨⟨[(5,false,[dI]),(6,false,[dI]),(13,false,[.undef]),(14,false,[.undef]),(25,false,[.undef]),(26,false,[.undef])],[]⟩,
 ⟨[(5,false,[dI])],[]⟩,none⟩)] Tryz.func252
def bV (n0:nh) (b1:Int) (p2:Int):Option Bool :=
 (at? n0.1 b1).bind λx10 =>
 (at? n0.1 b1).bind λx16 =>
 (bU x10.1 x16.2.2.1).bind λt19 =>
 (a9 t19 p2).bind λt21 =>
 some t21
def ii:FL:=(158,⟨[.val true oi false,.val false mM false,.val false mM false],[.val false nO (some true)],λa=>bV a.1 a.2.1 a.2.2⟩)::ig
theorem lC:Gd ii:=mV lB 158 Tryz.f158 [] Tryz.func158
def au (n0:Int):Option Int :=
 let t2:=min2 (mH (n0+1)) 1000000
 some t2
def ij:FL:=(76,⟨[.val false mM false],[.val false mM (some true)],λa=>au a⟩)::ii
theorem lD:Gd ij:=mV lC 76 Tryz.f76 [] Tryz.func76
def aA (b0:mL) (port1:Int):Option Bool :=
 (bR b0).bind λt6 =>
 (cond t6
 ((a7 port1 0 (mH ((b0.2.2.1.length:Int)-1))).bind λt13 =>
 some t13)
 (some false)).bind λt14 =>
 some t14
def il:FL:=(253,⟨[.val true na false,.val false mM false],[.val false nO (some true)],λa=>aA a.1 a.2⟩)::ij
theorem lE:Gd il:=mV lD 253 Tryz.f253 [] Tryz.func253
def bW (f0:nM):Option Bool :=
 (a7 f0.1 0 9999).bind λt5 =>
 (cond t5
 ((a7 f0.2.1 1 9999).bind λt9 =>
 some t9)
 (some false)).bind λt10 =>
 (cond t10
 ((a7 f0.2.2.1 0 99).bind λt14 =>
 some t14)
 (some false)).bind λt15 =>
 (cond t15 (some (decide ((f0.2.2.2.length:Int)<=20))) (some false)).bind λt21 =>
 some t21
def im:FL:=(254,⟨[.val true o8 false],[.val false nO (some true)],λa=>bW a⟩)::il
theorem lF:Gd im:=mV lE 254 Tryz.f254 [] Tryz.func254
def bp (v0:nY) (port1:Int) (tag2:Int):Option (Int×Bool) :=
 (a7 port1 0 (mH ((v0.2.length:Int)-1))).bind λt15 =>
 cond (!t15)
 (some (0,false))
 (cond (tag2==0)
 ((at? v0.2 port1).bind λx23 =>
 (ae v0 x23).bind λt27 =>
 (cond (decide (t27<0))
 (some true)
 ((at? v0.1 t27).bind λx34 =>
 (a9 x34.2.1 port1).bind λt38 =>
 some (!t38))).bind λt40 =>
 cond t40 (some (0,false)) (some (x23,true)))
 ((ae v0 tag2).bind λt27_1 =>
 (cond (decide (t27_1<0))
 (some true)
 ((at? v0.1 t27_1).bind λx34_1 =>
 (a9 x34_1.2.1 port1).bind λt38_1 =>
 some (!t38_1))).bind λt40_1 =>
 cond t40_1 (some (0,false)) (some (tag2,true))))
def ip:FL:=(255,⟨[.val true pn false,.val false mM false,.val false mM false],[.val false mM (some true),.val false nO (some true)],λa=>bp a.1 a.2.1 a.2.2⟩)::im
theorem lG:Gd ip:=mV lF 255 Tryz.f255 [] Tryz.func255
def aN (l0:List mT) (tag1:Int) (mac2:Int) (t11:Int):Option (Int⊕(Unit⊕Int)) :=
 cond (decide (t11<(l0.length:Int)))
 ((at? l0 t11).bind λx14 =>
 (cond (x14.1==tag1) (some (x14.2.1==mac2)) (some false)).bind λt25 =>
 cond t25 (some (.inr (.inr t11))) (some (.inl (mH (t11+1)))))
 (some (.inr (.inl ())))
def bq (l0:List mT) (tag1:Int) (mac2:Int):Option Int :=
 (loop (λz=>aN l0 tag1 mac2 z) 0).bind (Sum.elim (λd =>
 some (-1)) (λr=>some r))
def iq:FL:=(326,⟨[.val false (.one (.sl ng)) false,.val false mM false,.val false mM false],[.val false mM (some true)],λa=>bq a.1 a.2.1 a.2.2⟩)::ip
theorem lH:Gd iq:=mV lG 326 Tryz.f326 [(0,⟨⟨(11,false,[dI])::us 21 4 [],[]⟩,
 ⟨[],[]⟩,some ⟨[(6,false,[dI])],[]⟩⟩)] Tryz.func326
def aj (l0:List mT) (e1:mT) (k8:Int):Option (Int⊕Int) :=
 (cond (decide (k8<(l0.length:Int)))
 ((at? l0 k8).bind λx35 =>
 (bc x35 e1.1 e1.2.1).bind λt41 =>
 some (!t41))
 (some false)).bind λt43 =>
 cond t43 (some (.inl (mH (k8+1)))) (some (.inr k8))
def aO (l0:List mT) (e1:mT):Option ((List mT)×Bool) :=
 (aw l0).bind λt10 =>
 (bq l0 e1.1 e1.2.1).bind λt16 =>
 cond (decide (t16>=0))
 ((ix t10.length t16).bind λj22 =>
 (t10[j22]?).bind λx =>
 some (t10.set j22 e1,true))
 (cond (decide ((l0.length:Int)>=12))
 (some (t10,false))
 ((loop (λz=>aj l0 e1 z) 0).bind λd =>
 (cut l0 0 d).bind λt48 =>
 (aw t48).bind λt49 =>
 (app t49 [e1]).bind λzs52 =>
 (cut l0 d (l0.length:Int)).bind λt55 =>
 (app zs52 t55).bind λzs56 =>
 some (zs56,true)))
def ir:FL:=(327,⟨[.val false (.one (.sl ng)) false,.val true ng false],[.val false (.one (.sl ng)) (some true),.val false nO (some true)],λa=>aO a.1 a.2⟩)::iq
theorem lI:Gd ir:=mV lH 327 Tryz.f327 [(0,⟨⟨(8,false,[dI])::us 33 10 [],[]⟩,
 ⟨[(8,false,[dI])],[]⟩,none⟩)] Tryz.func327
def br (l0:List mT) (tag1:Int) (mac2:Int) (port3:Int):Option (List mT) :=
 (bq l0 tag1 mac2).bind λt20 =>
 (bQ l0).bind λt22 =>
 (cond (!t22)
 (some true)
 ((aL (tag1,mac2,port3,0,false)).bind λt26 =>
 some (!t26))).bind λt28 =>
 (cond t28
 (some true)
 ((cond (decide (t20>=0))
 ((at? l0 t20).bind λx35 =>
 some x35.2.2.2.2)
 (some false)).bind λt38 =>
 some t38)).bind λt39 =>
 cond t39
 ((aw l0).bind λt41 =>
 some t41)
 ((aO l0 (tag1,mac2,port3,0,false)).bind λt45 =>
 some t45.1)
def iu:FL:=(256,⟨[.val false (.one (.sl ng)) false,.val false mM false,.val false mM false,.val false mM false],[.val false (.one (.sl ng)) (some true)],λa=>br a.1 a.2.1 a.2.2.1 a.2.2.2⟩)::ir
theorem lJ:Gd iu:=mV lI 256 Tryz.f256 [] Tryz.func256
def bt (l0:List mT) (tag1:Int) (mac2:Int):Option Int :=
 (bq l0 tag1 mac2).bind λt11 =>
 cond (decide (t11<0))
 (some (-1))
 ((at? l0 t11).bind λx16 =>
 some x16.2.2.1)
def iv:FL:=(257,⟨[.val false (.one (.sl ng)) false,.val false mM false,.val false mM false],[.val false mM (some true)],λa=>bt a.1 a.2.1 a.2.2⟩)::iu
theorem lK:Gd iv:=mV lJ 257 Tryz.f257 [] Tryz.func257
def ak (v0:nY) (id1:Int):Option Int :=
 (ae v0 id1).bind λt8 =>
 cond (decide (t8<0))
 (some 0)
 ((at? v0.1 t8).bind λx14 =>
 some x14.2.1)
def iw:FL:=(258,⟨[.val true pn false,.val false mM false],[.val false mM (some true)],λa=>ak a.1 a.2⟩)::iv
theorem lL:Gd iw:=mV lK 258 Tryz.f258 [] Tryz.func258
def da (b0:List Int):Option (List Int) :=
 (app [] b0).bind λzs4 =>
 some zs4
def iy:FL:=(77,⟨[.val false uP false],[.val false uP (some true)],λa=>da a⟩)::iw
theorem lM:Gd iy:=mV lL 77 Tryz.f77 [] Tryz.func77
def aB (f0:nM) (tag1:Int):Option nM :=
 (da f0.2.2.2).bind λt7 =>
 some (f0.1,f0.2.1,tag1,t7)
def iz:FL:=(259,⟨[.val true o8 false,.val false mM false],[.val true o8 (some true)],λa=>aB a.1 a.2⟩)::iy
theorem lN:Gd iz:=mV lM 259 Tryz.f259 [] Tryz.func259
def ao (v0:nY) (id1:Int) (port2:Int):Option Int :=
 (ae v0 id1).bind λt10 =>
 (cond (decide (t10<0))
 (some true)
 ((at? v0.1 t10).bind λx17 =>
 (a9 x17.2.2 port2).bind λt21 =>
 some t21)).bind λt22 =>
 cond t22 (some 0) (some id1)
def iA:FL:=(260,⟨[.val true pn false,.val false mM false,.val false mM false],[.val false mM (some true)],λa=>ao a.1 a.2.1 a.2.2⟩)::iz
theorem lO:Gd iA:=mV lN 260 Tryz.f260 [] Tryz.func260
def aa (p0:mL) (i1:Int) (a2:nM) (t31:Int) (t38:Int×Bool) (t74:Int) (t78:Int) (t13:List nC):Option ((Int×List nC)⊕(List nC)) :=
 cond (decide (t78<(p0.2.2.1.length:Int)))
 ((cond (t78 != i1)
 ((ak (p0.2.2.2.2.1,p0.2.2.2.2.2.1) t38.1).bind λt89 =>
 (a9 (pp .i64 t31 t89) t78).bind λt92 =>
 some t92)
 (some false)).bind λt93 =>
 (cond t93
 ((cond (decide (t74<0)) (some true) (some (t74==t78))).bind λt101 =>
 some t101)
 (some false)).bind λt102 =>
 cond t102
 ((ao (p0.2.2.2.2.1,p0.2.2.2.2.2.1) t38.1 t78).bind λt110 =>
 (aB a2 t110).bind λt111 =>
 (app t13 [(t78,t111.1,t111.2.1,t111.2.2.1,t111.2.2.2)]).bind λzs114 =>
 some (.inl (mH (t78+1),zs114)))
 (some (.inl (mH (t78+1),t13))))
 (some (.inr t13))
def ac (p0:mL) (i1:Int) (a2:nM) (t31:Int) (t38:Int×Bool) (t78_1:Int) (t13_2:List nC):Option ((Int×List nC)⊕(List nC)) :=
 cond (decide (t78_1<(p0.2.2.1.length:Int)))
 ((cond (t78_1 != i1)
 ((ak (p0.2.2.2.2.1,p0.2.2.2.2.2.1) t38.1).bind λt89_1 =>
 (a9 (pp .i64 t31 t89_1) t78_1).bind λt92_1 =>
 some t92_1)
 (some false)).bind λt93_1 =>
 (cond t93_1
 ((cond (decide ((-1)<0)) (some true) (some ((-1)==t78_1))).bind λt101_1 =>
 some t101_1)
 (some false)).bind λt102_1 =>
 cond t102_1
 ((ao (p0.2.2.2.2.1,p0.2.2.2.2.2.1) t38.1 t78_1).bind λt110_1 =>
 (aB a2 t110_1).bind λt111_1 =>
 (app t13_2 [(t78_1,t111_1.1,t111_1.2.1,t111_1.2.2.1,t111_1.2.2.2)]).bind λzs114_1 =>
 some (.inl (mH (t78_1+1),zs114_1)))
 (some (.inl (mH (t78_1+1),t13_2))))
 (some (.inr t13_2))
def ap (p0:mL) (i1:Int) (a2:nM):Option (mL×List nC) :=
 (bO p0).bind λt16 =>
 (aA p0 i1).bind λt19 =>
 (cond (!t19)
 (some true)
 ((bW a2).bind λt23 =>
 some (!t23))).bind λt25 =>
 cond t25
 (some (t16,[]))
 ((bU p0.1 p0.2.2.1).bind λt31 =>
 (bp (p0.2.2.2.2.1,p0.2.2.2.2.2.1) i1 a2.2.2.1).bind λt38 =>
 (a9 t31 i1).bind λt43 =>
 (cond (!t43) (some true) (some (!t38.2))).bind λt48 =>
 cond t48
 ((au p0.2.2.2.2.2.2.2.2.2.1).bind λt51 =>
 some ((t16.1,t16.2.1,t16.2.2.1,t16.2.2.2.1,t16.2.2.2.2.1,t16.2.2.2.2.2.1,t16.2.2.2.2.2.2.1,t16.2.2.2.2.2.2.2.1,t16.2.2.2.2.2.2.2.2.1,t51,t16.2.2.2.2.2.2.2.2.2.2),[]))
 ((br p0.2.2.2.1 t38.1 a2.2.1 i1).bind λt60 =>
 (au p0.2.2.2.2.2.2.2.2.2.2).bind λt64 =>
 cond (a2.1 != 0)
 ((bt t60 t38.1 a2.1).bind λt74 =>
 (loop (λz=>aa p0 i1 a2 t31 t38 t74 z.1 z.2) (0,[])).bind λd =>
 some ((t16.1,t16.2.1,t16.2.2.1,t60,t16.2.2.2.2.1,t16.2.2.2.2.2.1,t16.2.2.2.2.2.2.1,t16.2.2.2.2.2.2.2.1,t16.2.2.2.2.2.2.2.2.1,t16.2.2.2.2.2.2.2.2.2.1,t64),d))
 ((loop (λz=>ac p0 i1 a2 t31 t38 z.1 z.2) (0,[])).bind λd_1 =>
 some ((t16.1,t16.2.1,t16.2.2.1,t60,t16.2.2.2.2.1,t16.2.2.2.2.2.1,t16.2.2.2.2.2.2.1,t16.2.2.2.2.2.2.2.1,t16.2.2.2.2.2.2.2.2.1,t16.2.2.2.2.2.2.2.2.2.1,t64),d_1))))
def iB:FL:=(159,⟨[.val true na false,.val false mM false,.val true o8 false],[.val true na (some true),.val false (.one (.sl sC)) (some true)],λa=>ap a.1 a.2.1 a.2.2⟩)::iA
theorem lP:Gd iB:=mV lO 159 Tryz.f159 [(0,⟨⟨(13,false,[.own 1000000000])::(78,false,[dI])::us 85 8 (us 95 7 []),[(1000000000,.root sC true)]⟩,
 ⟨[(13,false,[.own 1000000300])],[(1000000300,.root sC true)]⟩,none⟩)] Tryz.func159
def bu (n0:nh) (b1:Int) (p2:Int) (t14:Int):Option (Int⊕(Unit⊕(Int×Int×Bool))) :=
 cond (decide (t14<(n0.2.1.length:Int)))
 ((at? n0.2.1 t14).bind λx16 =>
 (cond (x16.1==b1) (some (x16.2.1==p2)) (some false)).bind λt27 =>
 cond t27
 (some (.inr (.inr (x16.2.2.1,x16.2.2.2,true))))
 ((cond (x16.2.2.1==b1) (some (x16.2.2.2==p2)) (some false)).bind λt41 =>
 cond t41
 (some (.inr (.inr (x16.1,x16.2.1,true))))
 (some (.inl (mH (t14+1))))))
 (some (.inr (.inl ())))
def aP (n0:nh) (b1:Int) (p2:Int):Option (Int×Int×Bool) :=
 (loop (λz=>bu n0 b1 p2 z) 0).bind (Sum.elim (λd =>
 some ((-1),(-1),false)) (λr=>some r))
def iC:FL:=(160,⟨[.val true oi false,.val false mM false,.val false mM false],[.val false mM (some true),.val false mM (some true),.val false nO (some true)],λa=>aP a.1 a.2.1 a.2.2⟩)::iB
theorem lQ:Gd iC:=mV lP 160 Tryz.f160 [(0,⟨⟨(14,false,[dI])::us 23 4 (us 37 4 []),[]⟩,
 ⟨[],[]⟩,some ⟨[(6,false,[dI]),(7,false,[dI]),(8,false,[dB])],[]⟩⟩)] Tryz.func160
def dc (p0:nh) (l:List mL) (x37:n9) (t66:mL×List nC) (j76:Nat) (t81:Int) (t11_1:List n9) (t13_1:List n9) (l_1:List (Bool×Int×Int×Int×Int×List Int)):Option ((Int×List n9×List n9×List (Bool×Int×Int×Int×Int×List Int))⊕(List n9×List n9×List (Bool×Int×Int×Int×Int×List Int))) :=
 cond (decide (t81<(t66.2.length:Int)))
 ((ix l_1.length t81).bind λj83 =>
 (uv l_1 j83).bind λx84 =>
 (aP (l.set j76 t66.1,p0.2.1,p0.2.2) x37.1 x84.1).bind λt93 =>
 cond (!t93.2.2)
 ((app t11_1 [(x37.1,x84.1,x84.2.1,x84.2.2.1,x84.2.2.2.1,x84.2.2.2.2)]).bind λzs108 =>
 some (.inl (mH (t81+1),zs108,t13_1,l_1.set j83 (false,x84))))
 ((ix (l.set j76 t66.1).length t93.1).bind λj114 =>
 ((l.set j76 t66.1)[j114]?).bind λx116 =>
 (at? x116.2.2.1 t93.2.1).bind λx118 =>
 cond x118.1
 ((app t13_1 [(t93.1,t93.2.1,x84.2.1,x84.2.2.1,x84.2.2.2.1,x84.2.2.2.2)]).bind λzs128 =>
 some (.inl (mH (t81+1),t11_1,zs128,l_1.set j83 (false,x84))))
 (some (.inl (mH (t81+1),t11_1,t13_1,l_1.set j83 (false,x84))))))
 (some (.inr (t11_1,t13_1,l_1)))
def de (p0:nh) (l:List mL) (x37:n9) (t66_1:mL×List nC) (j76_1:Nat) (t81_1:Int) (t11_3:List n9) (t13_3:List n9) (l_3:List (Bool×Int×Int×Int×Int×List Int)):Option ((Int×List n9×List n9×List (Bool×Int×Int×Int×Int×List Int))⊕(List n9×List n9×List (Bool×Int×Int×Int×Int×List Int))) :=
 cond (decide (t81_1<(t66_1.2.length:Int)))
 ((ix l_3.length t81_1).bind λj83_1 =>
 (uv l_3 j83_1).bind λx84_1 =>
 (aP (l.set j76_1 t66_1.1,p0.2.1,p0.2.2) x37.1 x84_1.1).bind λt93_1 =>
 cond (!t93_1.2.2)
 ((app t11_3 [(x37.1,x84_1.1,x84_1.2.1,x84_1.2.2.1,x84_1.2.2.2.1,x84_1.2.2.2.2)]).bind λzs108_1 =>
 some (.inl (mH (t81_1+1),zs108_1,t13_3,l_3.set j83_1 (false,x84_1))))
 ((ix (l.set j76_1 t66_1.1).length t93_1.1).bind λj114_1 =>
 ((l.set j76_1 t66_1.1)[j114_1]?).bind λx116_1 =>
 (at? x116_1.2.2.1 t93_1.2.1).bind λx118_1 =>
 cond x118_1.1
 ((app t13_3 [(t93_1.1,t93_1.2.1,x84_1.2.1,x84_1.2.2.1,x84_1.2.2.2.1,x84_1.2.2.2.2)]).bind λzs128_1 =>
 some (.inl (mH (t81_1+1),t11_3,zs128_1,l_3.set j83_1 (false,x84_1))))
 (some (.inl (mH (t81_1+1),t11_3,t13_3,l_3.set j83_1 (false,x84_1))))))
 (some (.inr (t11_3,t13_3,l_3)))
def aC (p0:nh) (t14:Int) (t11:List n9) (t12:List Int) (t13:List n9) (l:List mL):Option ((Int×List n9×List Int×List n9×List mL)⊕(Int×List n9×List Int×List mL)) :=
 (cond (decide ((t13.length:Int)>0)) (some (decide (t14<60))) (some false)).bind λt34 =>
 cond t34
 ((ix t13.length 0).bind λj36 =>
 (t13[j36]?).bind λx37 =>
 (vY t13.length 1 (t13.length:Int)).bind λp =>
 (bV (l,p0.2.1,p0.2.2) x37.1 x37.2.1).bind λt47 =>
 cond t47
 ((app t12 [x37.1]).bind λzs52 =>
 (ix l.length x37.1).bind λj60 =>
 (l[j60]?).bind λx61 =>
 (ap x61 x37.2.1 x37.2.2).bind λt66 =>
 (ix l.length x37.1).bind λj76 =>
 (l[j76]?).bind λx =>
 (loop (λz=>dc p0 l x37 t66 j76 z.1 z.2.1 z.2.2.1 z.2.2.2) (0,t11,(t13.take p.2).drop p.1,t66.2.map λx=>(true,x))).bind λd =>
 some (.inl (mH (t14+1),d.1,zs52,d.2.1,l.set j76 t66.1)))
 ((ix l.length x37.1).bind λj60_1 =>
 (l[j60_1]?).bind λx61_1 =>
 (ap x61_1 x37.2.1 x37.2.2).bind λt66_1 =>
 (ix l.length x37.1).bind λj76_1 =>
 (l[j76_1]?).bind λx_1 =>
 (loop (λz=>de p0 l x37 t66_1 j76_1 z.1 z.2.1 z.2.2.1 z.2.2.2) (0,t11,(t13.take p.2).drop p.1,t66_1.2.map λx=>(true,x))).bind λd_1 =>
 some (.inl (mH (t14+1),d_1.1,t12,d_1.2.1,l.set j76_1 t66_1.1))))
 (some (.inr (t14,t11,t12,l)))
def eR (p0:nh) (i1:Int) (a2:Int) (a3:nM):Option (nh×(List n9)×(List Int)×Int) :=
 (loop (λz=>aC p0 z.1 z.2.1 z.2.2.1 z.2.2.2.1 z.2.2.2.2) (0,[],[],[(i1,a2,a3.1,a3.2.1,a3.2.2.1,a3.2.2.2)],p0.1)).bind λd_2 =>
 some ((d_2.2.2.2,p0.2.1,p0.2.2),d_2.2.1,d_2.2.2.1,d_2.1)
def iD:FL:=(89,⟨[.ptr oi (some true),.val false mM false,.val false mM false,.val true o8 false],[.val false (.one (.sl ny)) (some true),.val false pa (some true),.val false mM (some true)],λa=>eR a.1 a.2.1 a.2.2.1 a.2.2.2⟩)::iC
theorem lR:Gd iD:=mV lQ 89 Tryz.f89 [(0,⟨⟨[(11,false,[.own 1000000000]),(12,false,[.own 1000000001]),(13,false,[.own 1000000002]),(14,false,[dI]),(32,false,[.undef]),(33,false,[.undef])],[(1000000000,.root ny true),(1000000001,.root mM true),(1000000002,.root ny false),(2,.keep na true)]⟩,
 ⟨[(11,false,[.own 1000000300]),(12,false,[.own 1000000301]),(14,false,[dI])],[(1000000300,.root ny true),(1000000301,.root mM true),(2,.keep na true)]⟩,none⟩),
 (2,⟨⟨[(11,false,[.own 1000002000]),(13,false,[.own 1000002001]),(81,false,[dI])],[(1000002000,.root ny true),(1000002001,.root ny false),(2634816,.pop sC)]⟩,
 ⟨[(11,false,[.own 1000002300]),(13,false,[.own 1000002301])],[(1000002300,.root ny true),(1000002301,.root ny false),(2634816,.pop sC)]⟩,none⟩),
 (1000002,⟨⟨[],[]⟩,⟨[],[(2634816,.pop sC)]⟩,none⟩)] Tryz.func89
def bX (n0:nh) (b1:Int) (p2:Int) (f3:nM):Option (nh×(List n9)×Int) :=
 (cY n0).bind λt16 =>
 (eQ n0 b1 p2).bind λt20 =>
 cond (!t20)
 (some (t16,[],0))
 ((eR t16 b1 p2 f3).bind λt27 =>
 some (t27.1,t27.2.1,t27.2.2.2))
def iE:FL:=(20,⟨[.val true oi false,.val false mM false,.val false mM false,.val true o8 false],[.val true oi (some true),.val false (.one (.sl ny)) (some true),.val false mM (some true)],λa=>bX a.1 a.2.1 a.2.2.1 a.2.2.2⟩)::iD
theorem lS:Gd iE:=mV lR 20 Tryz.f20 [] Tryz.func20
def bY (a0:rk) (b1:rk):Option Bool :=
 cond (a0.1 != b1.1)
 (some false)
 (cond (a0.2.1 != b1.2.1)
 (some false)
 (cond (a0.2.2.1 != b1.2.2.1)
 (some false)
 (cond (a0.2.2.2.1 != b1.2.2.2.1)
 (some false)
 (cond (a0.2.2.2.2 != b1.2.2.2.2) (some false) (some true)))))
def iF:FL:=(126,⟨[.val true qz false,.val true qz false],[.val false nO (some true)],λa=>bY a.1 a.2⟩)::iE
theorem lT:Gd iF:=mV lS 126 Tryz.f126 [] Tryz.func126
def bZ (a0:Pt) (b1:Pt):Option Bool :=
 cond (!(a0.1==b1.1))
 (some false)
 (cond (a0.2.1 != b1.2.1)
 (some false)
 (cond (!(a0.2.2.1==b1.2.2.1))
 (some false)
 ((bY a0.2.2.2 b1.2.2.2).bind λt24 =>
 cond (!t24) (some false) (some true))))
def iG:FL:=(284,⟨[.val true oK false,.val true oK false],[.val false nO (some true)],λa=>bZ a.1 a.2⟩)::iF
theorem lU:Gd iG:=mV lT 284 Tryz.f284 [] Tryz.func284
def lV (a0:List Pt) (b1:List Pt) (i5:Int):Option (Int⊕(Unit⊕Bool)) :=
 cond (decide (i5<(a0.length:Int)))
 ((at? a0 i5).bind λx19 =>
 (at? b1 i5).bind λx23 =>
 (bZ x19 x23).bind λt25 =>
 cond (!t25) (some (.inr (.inr false))) (some (.inl (mH (i5+1)))))
 (some (.inr (.inl ())))
def eS (a0:List Pt) (b1:List Pt):Option Bool :=
 cond ((a0.length:Int) != (b1.length:Int))
 (some false)
 ((loop (λz=>lV a0 b1 z) 0).bind (Sum.elim (λd =>
 some true) (λr=>some r)))
def iH:FL:=(188,⟨[.val false (.one (.sl oK)) false,.val false (.one (.sl oK)) false],[.val false nO (some true)],λa=>eS a.1 a.2⟩)::iG
theorem lW:Gd iH:=mV lU 188 Tryz.f188 [(0,⟨⟨[(5,false,[dI])],[]⟩,
 ⟨[],[]⟩,some ⟨[(4,false,[dB])],[]⟩⟩)] Tryz.func188
def ca (a0:mT) (b1:mT):Option Bool :=
 cond (a0.1 != b1.1)
 (some false)
 (cond (a0.2.1 != b1.2.1)
 (some false)
 (cond (a0.2.2.1 != b1.2.2.1)
 (some false)
 (cond (a0.2.2.2.1 != b1.2.2.2.1)
 (some false)
 (cond (!(a0.2.2.2.2==b1.2.2.2.2)) (some false) (some true)))))
def iI:FL:=(285,⟨[.val true ng false,.val true ng false],[.val false nO (some true)],λa=>ca a.1 a.2⟩)::iH
theorem lX:Gd iI:=mV lW 285 Tryz.f285 [] Tryz.func285
def lY (a0:List mT) (b1:List mT) (i5:Int):Option (Int⊕(Unit⊕Bool)) :=
 cond (decide (i5<(a0.length:Int)))
 ((at? a0 i5).bind λx19 =>
 (at? b1 i5).bind λx23 =>
 (ca x19 x23).bind λt25 =>
 cond (!t25) (some (.inr (.inr false))) (some (.inl (mH (i5+1)))))
 (some (.inr (.inl ())))
def eT (a0:List mT) (b1:List mT):Option Bool :=
 cond ((a0.length:Int) != (b1.length:Int))
 (some false)
 ((loop (λz=>lY a0 b1 z) 0).bind (Sum.elim (λd =>
 some true) (λr=>some r)))
def iJ:FL:=(189,⟨[.val false (.one (.sl ng)) false,.val false (.one (.sl ng)) false],[.val false nO (some true)],λa=>eT a.1 a.2⟩)::iI
theorem lZ:Gd iJ:=mV lX 189 Tryz.f189 [(0,⟨⟨[(5,false,[dI])],[]⟩,
 ⟨[],[]⟩,some ⟨[(4,false,[dB])],[]⟩⟩)] Tryz.func189
def cb (a0:oy) (b1:oy):Option Bool :=
 cond (a0.1 != b1.1)
 (some false)
 (cond (a0.2.1 != b1.2.1) (some false) (cond (a0.2.2 != b1.2.2) (some false) (some true)))
def iK:FL:=(342,⟨[.val true o7 false,.val true o7 false],[.val false nO (some true)],λa=>cb a.1 a.2⟩)::iJ
theorem m0:Gd iK:=mV lZ 342 Tryz.f342 [] Tryz.func342
def m3 (a0:List oy) (b1:List oy) (i5:Int):Option (Int⊕(Unit⊕Bool)) :=
 cond (decide (i5<(a0.length:Int)))
 ((at? a0 i5).bind λx19 =>
 (at? b1 i5).bind λx23 =>
 (cb x19 x23).bind λt25 =>
 cond (!t25) (some (.inr (.inr false))) (some (.inl (mH (i5+1)))))
 (some (.inr (.inl ())))
def eU (a0:List oy) (b1:List oy):Option Bool :=
 cond ((a0.length:Int) != (b1.length:Int))
 (some false)
 ((loop (λz=>m3 a0 b1 z) 0).bind (Sum.elim (λd =>
 some true) (λr=>some r)))
def iL:FL:=(286,⟨[.val false (.one (.sl o7)) false,.val false (.one (.sl o7)) false],[.val false nO (some true)],λa=>eU a.1 a.2⟩)::iK
theorem m4:Gd iL:=mV m0 286 Tryz.f286 [(0,⟨⟨[(5,false,[dI])],[]⟩,
 ⟨[],[]⟩,some ⟨[(4,false,[dB])],[]⟩⟩)] Tryz.func286
def m5 (a0:List Int) (b1:List Int) (i5:Int):Option (Int⊕(Unit⊕Bool)) :=
 cond (decide (i5<(a0.length:Int)))
 ((at? a0 i5).bind λx19 =>
 (at? b1 i5).bind λx23 =>
 cond (x19 != x23) (some (.inr (.inr false))) (some (.inl (mH (i5+1)))))
 (some (.inr (.inl ())))
def eV (a0:List Int) (b1:List Int):Option Bool :=
 cond ((a0.length:Int) != (b1.length:Int))
 (some false)
 ((loop (λz=>m5 a0 b1 z) 0).bind (Sum.elim (λd =>
 some true) (λr=>some r)))
def iM:FL:=(287,⟨[.val false pa false,.val false pa false],[.val false nO (some true)],λa=>eV a.1 a.2⟩)::iL
theorem m6:Gd iM:=mV m4 287 Tryz.f287 [(0,⟨⟨[(5,false,[dI])],[]⟩,
 ⟨[],[]⟩,some ⟨[(4,false,[dB])],[]⟩⟩)] Tryz.func287
def df (a0:nY) (b1:nY):Option Bool :=
 (eU a0.1 b1.1).bind λt9 =>
 cond (!t9)
 (some false)
 ((eV a0.2 b1.2).bind λt15 =>
 cond (!t15) (some false) (some true))
def iN:FL:=(190,⟨[.val true pn false,.val true pn false],[.val false nO (some true)],λa=>df a.1 a.2⟩)::iM
theorem m7:Gd iN:=mV m6 190 Tryz.f190 [] Tryz.func190
def cc (a0:mL) (b1:mL):Option Bool :=
 cond (a0.1 != b1.1)
 (some false)
 (cond (!(a0.2.1==b1.2.1))
 (some false)
 ((eS a0.2.2.1 b1.2.2.1).bind λt19 =>
 cond (!t19)
 (some false)
 ((eT a0.2.2.2.1 b1.2.2.2.1).bind λt25 =>
 cond (!t25)
 (some false)
 ((df (a0.2.2.2.2.1,a0.2.2.2.2.2.1) (b1.2.2.2.2.1,b1.2.2.2.2.2.1)).bind λt31 =>
 cond (!t31)
 (some false)
 (cond (a0.2.2.2.2.2.2.1 != b1.2.2.2.2.2.2.1)
 (some false)
 (cond (a0.2.2.2.2.2.2.2.1 != b1.2.2.2.2.2.2.2.1)
 (some false)
 (cond (a0.2.2.2.2.2.2.2.2.1 != b1.2.2.2.2.2.2.2.2.1)
 (some false)
 (cond (a0.2.2.2.2.2.2.2.2.2.1 != b1.2.2.2.2.2.2.2.2.2.1)
 (some false)
 (cond (a0.2.2.2.2.2.2.2.2.2.2 != b1.2.2.2.2.2.2.2.2.2.2) (some false) (some true))))))))))
def iO:FL:=(111,⟨[.val true na false,.val true na false],[.val false nO (some true)],λa=>cc a.1 a.2⟩)::iN
theorem m8:Gd iO:=mV m7 111 Tryz.f111 [] Tryz.func111
def m9 (a0:List mL) (b1:List mL) (i5:Int):Option (Int⊕(Unit⊕Bool)) :=
 cond (decide (i5<(a0.length:Int)))
 ((at? a0 i5).bind λx19 =>
 (at? b1 i5).bind λx23 =>
 (cc x19 x23).bind λt25 =>
 cond (!t25) (some (.inr (.inr false))) (some (.inl (mH (i5+1)))))
 (some (.inr (.inl ())))
def eW (a0:List mL) (b1:List mL):Option Bool :=
 cond ((a0.length:Int) != (b1.length:Int))
 (some false)
 ((loop (λz=>m9 a0 b1 z) 0).bind (Sum.elim (λd =>
 some true) (λr=>some r)))
def iP:FL:=(90,⟨[.val false (.one (.sl na)) false,.val false (.one (.sl na)) false],[.val false nO (some true)],λa=>eW a.1 a.2⟩)::iO
theorem ma:Gd iP:=mV m8 90 Tryz.f90 [(0,⟨⟨[(5,false,[dI])],[]⟩,
 ⟨[],[]⟩,some ⟨[(4,false,[dB])],[]⟩⟩)] Tryz.func90
def ce (a0:nD) (b1:nD):Option Bool :=
 cond (a0.1 != b1.1)
 (some false)
 (cond (a0.2.1 != b1.2.1)
 (some false)
 (cond (a0.2.2.1 != b1.2.2.1)
 (some false)
 (cond (a0.2.2.2 != b1.2.2.2) (some false) (some true))))
def iQ:FL:=(161,⟨[.val true oO false,.val true oO false],[.val false nO (some true)],λa=>ce a.1 a.2⟩)::iP
theorem mb:Gd iQ:=mV ma 161 Tryz.f161 [] Tryz.func161
def mc (a0:List nD) (b1:List nD) (i5:Int):Option (Int⊕(Unit⊕Bool)) :=
 cond (decide (i5<(a0.length:Int)))
 ((at? a0 i5).bind λx19 =>
 (at? b1 i5).bind λx23 =>
 (ce x19 x23).bind λt25 =>
 cond (!t25) (some (.inr (.inr false))) (some (.inl (mH (i5+1)))))
 (some (.inr (.inl ())))
def eX (a0:List nD) (b1:List nD):Option Bool :=
 cond ((a0.length:Int) != (b1.length:Int))
 (some false)
 ((loop (λz=>mc a0 b1 z) 0).bind (Sum.elim (λd =>
 some true) (λr=>some r)))
def iR:FL:=(91,⟨[.val false (.one (.sl oO)) false,.val false (.one (.sl oO)) false],[.val false nO (some true)],λa=>eX a.1 a.2⟩)::iQ
theorem md:Gd iR:=mV mb 91 Tryz.f91 [(0,⟨⟨[(5,false,[dI])],[]⟩,
 ⟨[],[]⟩,some ⟨[(4,false,[dB])],[]⟩⟩)] Tryz.func91
def cf (a0:oT) (b1:oT):Option Bool :=
 cond (a0.1 != b1.1)
 (some false)
 (cond (!(a0.2.1==b1.2.1))
 (some false)
 ((bY a0.2.2 b1.2.2).bind λt19 =>
 cond (!t19) (some false) (some true)))
def iS:FL:=(162,⟨[.val true pA false,.val true pA false],[.val false nO (some true)],λa=>cf a.1 a.2⟩)::iR
theorem me:Gd iS:=mV md 162 Tryz.f162 [] Tryz.func162
def mf (a0:List oT) (b1:List oT) (i5:Int):Option (Int⊕(Unit⊕Bool)) :=
 cond (decide (i5<(a0.length:Int)))
 ((at? a0 i5).bind λx19 =>
 (at? b1 i5).bind λx23 =>
 (cf x19 x23).bind λt25 =>
 cond (!t25) (some (.inr (.inr false))) (some (.inl (mH (i5+1)))))
 (some (.inr (.inl ())))
def eY (a0:List oT) (b1:List oT):Option Bool :=
 cond ((a0.length:Int) != (b1.length:Int))
 (some false)
 ((loop (λz=>mf a0 b1 z) 0).bind (Sum.elim (λd =>
 some true) (λr=>some r)))
def iT:FL:=(92,⟨[.val false (.one (.sl pA)) false,.val false (.one (.sl pA)) false],[.val false nO (some true)],λa=>eY a.1 a.2⟩)::iS
theorem mg:Gd iT:=mV me 92 Tryz.f92 [(0,⟨⟨[(5,false,[dI])],[]⟩,
 ⟨[],[]⟩,some ⟨[(4,false,[dB])],[]⟩⟩)] Tryz.func92
def aQ (a0:nh) (b1:nh):Option Bool :=
 (eW a0.1 b1.1).bind λt9 =>
 cond (!t9)
 (some false)
 ((eX a0.2.1 b1.2.1).bind λt15 =>
 cond (!t15)
 (some false)
 ((eY a0.2.2 b1.2.2).bind λt21 =>
 cond (!t21) (some false) (some true)))
def iU:FL:=(21,⟨[.val true oi false,.val true oi false],[.val false nO (some true)],λa=>aQ a.1 a.2⟩)::iT
theorem mh:Gd iU:=mV mg 21 Tryz.f21 [] Tryz.func21
def mi (a0:List Int) (b1:List Int) (i5:Int):Option (Int⊕(Unit⊕Bool)) :=
 cond (decide (i5<(a0.length:Int)))
 ((at? a0 i5).bind λx19 =>
 (at? b1 i5).bind λx23 =>
 cond (x19 != x23) (some (.inr (.inr false))) (some (.inl (mH (i5+1)))))
 (some (.inr (.inl ())))
def eZ (a0:List Int) (b1:List Int):Option Bool :=
 cond ((a0.length:Int) != (b1.length:Int))
 (some false)
 ((loop (λz=>mi a0 b1 z) 0).bind (Sum.elim (λd =>
 some true) (λr=>some r)))
def iV:FL:=(94,⟨[.val false uP false,.val false uP false],[.val false nO (some true)],λa=>eZ a.1 a.2⟩)::iU
theorem mj:Gd iV:=mV mh 94 Tryz.f94 [(0,⟨⟨[(5,false,[dI])],[]⟩,
 ⟨[],[]⟩,some ⟨[(4,false,[dB])],[]⟩⟩)] Tryz.func94
def cg (a0:nM) (b1:nM):Option Bool :=
 cond (a0.1 != b1.1)
 (some false)
 (cond (a0.2.1 != b1.2.1)
 (some false)
 (cond (a0.2.2.1 != b1.2.2.1)
 (some false)
 ((eZ a0.2.2.2 b1.2.2.2).bind λt24 =>
 cond (!t24) (some false) (some true))))
def iW:FL:=(23,⟨[.val true o8 false,.val true o8 false],[.val false nO (some true)],λa=>cg a.1 a.2⟩)::iV
theorem ml:Gd iW:=mV mj 23 Tryz.f23 [] Tryz.func23
def ch (a0:n9) (b1:n9):Option Bool :=
 cond (a0.1 != b1.1)
 (some false)
 (cond (a0.2.1 != b1.2.1)
 (some false)
 ((cg a0.2.2 b1.2.2).bind λt19 =>
 cond (!t19) (some false) (some true)))
def iX:FL:=(93,⟨[.val true ny false,.val true ny false],[.val false nO (some true)],λa=>ch a.1 a.2⟩)::iW
theorem mn:Gd iX:=mV ml 93 Tryz.f93 [] Tryz.func93
def mo (a0:List n9) (b1:List n9) (i5:Int):Option (Int⊕(Unit⊕Bool)) :=
 cond (decide (i5<(a0.length:Int)))
 ((at? a0 i5).bind λx19 =>
 (at? b1 i5).bind λx23 =>
 (ch x19 x23).bind λt25 =>
 cond (!t25) (some (.inr (.inr false))) (some (.inl (mH (i5+1)))))
 (some (.inr (.inl ())))
def ci (a0:List n9) (b1:List n9):Option Bool :=
 cond ((a0.length:Int) != (b1.length:Int))
 (some false)
 ((loop (λz=>mo a0 b1 z) 0).bind (Sum.elim (λd =>
 some true) (λr=>some r)))
def iY:FL:=(22,⟨[.val false (.one (.sl ny)) false,.val false (.one (.sl ny)) false],[.val false nO (some true)],λa=>ci a.1 a.2⟩)::iX
theorem mp:Gd iY:=mV mn 22 Tryz.f22 [(0,⟨⟨[(5,false,[dI])],[]⟩,
 ⟨[],[]⟩,some ⟨[(4,false,[dB])],[]⟩⟩)] Tryz.func22
def dg (k0_1:Int) (out3:List UInt8):Option ((Int×List UInt8)⊕(List UInt8)) :=
 cond (decide (k0_1>0))
 ((AT (qV [IntKind.u8.wrap (mH (48+(k0_1.tmod 10)))]) out3).bind λt15 =>
 some (.inl (mH (k0_1.tdiv 10),t15)))
 (some (.inr out3))
def cj (k0:Int):Option (List UInt8) :=
 cond (decide (k0<=0))
 (some [109,48])
 ((loop (λz=>dg z.1 z.2) (k0,[])).bind λd =>
 (AT [109] d).bind λt19 =>
 some t19)
def iZ:FL:=(163,⟨[.val false mM false],[.val false IV (some true)],λa=>cj a⟩)::iY
theorem mq:Gd iZ:=mV mp 163 Tryz.f163 [(0,⟨⟨[(0,false,[dI]),(3,false,[dS])],[]⟩,
 ⟨[(3,false,[dS])],[]⟩,none⟩)] Tryz.func163
def dh (p0:List Pt) (i1_1:Int) (t5:Int):Option ((Int×Int)⊕(Int⊕Int)) :=
 cond (decide (t5<(p0.length:Int)))
 ((at? p0 t5).bind λx14 =>
 cond (!(x14.1==((i1_1.tmod 3)==0)))
 (some (.inr (.inr (-1))))
 ((at? p0 t5).bind λx25 =>
 cond (x25.2.1 != (mH (i1_1+1)))
 (some (.inr (.inr (-1))))
 (let i1_2:=mH ((mH (i1_1+1))+1)
 (at? p0 t5).bind λx34 =>
 cond (!(x34.2.2.1==((i1_2.tmod 3)==0)))
 (some (.inr (.inr (-1))))
 ((at? p0 t5).bind λx45 =>
 cond (x45.2.2.2.1 != (mH (i1_2+1)))
 (some (.inr (.inr (-1))))
 (let i1_3:=mH ((mH (i1_2+1))+1)
 (at? p0 t5).bind λx55 =>
 cond (x55.2.2.2.2.1 != i1_3)
 (some (.inr (.inr (-1))))
 ((at? p0 t5).bind λx65 =>
 cond (x65.2.2.2.2.2.1 != (mH (i1_3+1)))
 (some (.inr (.inr (-1))))
 (let i1_4:=mH ((mH (i1_3+1))+1)
 (at? p0 t5).bind λx75 =>
 cond (x75.2.2.2.2.2.2.1 != i1_4)
 (some (.inr (.inr (-1))))
 ((at? p0 t5).bind λx85 =>
 cond (x85.2.2.2.2.2.2.2 != (mH (i1_4+1)))
 (some (.inr (.inr (-1))))
 (let i1_5:=mH ((mH (i1_4+1))+1)
 some (.inl (i1_5,mH (t5+1))))))))))))
 (some (.inr (.inl i1_1)))
def dj (p0:List Pt) (i1:Int):Option Int :=
 (loop (λz=>dh p0 z.1 z.2) (i1,0)).bind (Sum.elim (λd =>
 some d) (λr=>some r))
def j0:FL:=(168,⟨[.val false (.one (.sl oK)) false,.val false mM false],[.val false mM (some true)],λa=>dj a.1 a.2⟩)::iZ
theorem mr:Gd j0:=mV mq 168 Tryz.f168 [(0,⟨⟨[(1,false,[dI]),(5,false,[dI])],[]⟩,
 ⟨[(1,false,[dI])],[]⟩,some ⟨[(4,false,[dI])],[]⟩⟩)] Tryz.func168
def dk (a0:List mT) (k1_1:Int) (i5:Int):Option ((Int×Int)⊕(Int⊕Int)) :=
 cond (decide (i5<(a0.length:Int)))
 ((at? a0 i5).bind λx14 =>
 cond (x14.1 != k1_1)
 (some (.inr (.inr (-1))))
 ((at? a0 i5).bind λx23 =>
 cond (x23.2.1 != (mH (k1_1+1)))
 (some (.inr (.inr (-1))))
 (let k1_2:=mH ((mH (k1_1+1))+1)
 (at? a0 i5).bind λx32 =>
 cond (x32.2.2.1 != k1_2)
 (some (.inr (.inr (-1))))
 ((at? a0 i5).bind λx41 =>
 cond (x41.2.2.2.1 != (mH (k1_2+1)))
 (some (.inr (.inr (-1))))
 (let k1_3:=mH ((mH (k1_2+1))+1)
 (at? a0 i5).bind λx50 =>
 cond (!(x50.2.2.2.2==((k1_3.tmod 3)==0)))
 (some (.inr (.inr (-1))))
 (some (.inl (mH (k1_3+1),mH (i5+1)))))))))
 (some (.inr (.inl k1_1)))
def dl (a0:List mT) (k1:Int):Option Int :=
 (loop (λz=>dk a0 z.1 z.2) (k1,0)).bind (Sum.elim (λd =>
 some d) (λr=>some r))
def j6:FL:=(169,⟨[.val false (.one (.sl ng)) false,.val false mM false],[.val false mM (some true)],λa=>dl a.1 a.2⟩)::j0
theorem mt:Gd j6:=mV mr 169 Tryz.f169 [(0,⟨⟨[(1,false,[dI]),(5,false,[dI])],[]⟩,
 ⟨[(1,false,[dI])],[]⟩,some ⟨[(4,false,[dI])],[]⟩⟩)] Tryz.func169
def dn (a0:List oy) (k1_1:Int) (i5:Int):Option ((Int×Int)⊕(Int⊕Int)) :=
 cond (decide (i5<(a0.length:Int)))
 ((at? a0 i5).bind λx14 =>
 cond (x14.1 != k1_1)
 (some (.inr (.inr (-1))))
 ((at? a0 i5).bind λx23 =>
 cond (x23.2.1 != (mH (k1_1+1)))
 (some (.inr (.inr (-1))))
 (let k1_2:=mH ((mH (k1_1+1))+1)
 (at? a0 i5).bind λx32 =>
 cond (x32.2.2 != k1_2)
 (some (.inr (.inr (-1))))
 (some (.inl (mH (k1_2+1),mH (i5+1)))))))
 (some (.inr (.inl k1_1)))
def dp (a0:List oy) (k1:Int):Option Int :=
 (loop (λz=>dn a0 z.1 z.2) (k1,0)).bind (Sum.elim (λd =>
 some d) (λr=>some r))
def j7:FL:=(170,⟨[.val false (.one (.sl o7)) false,.val false mM false],[.val false mM (some true)],λa=>dp a.1 a.2⟩)::j6
theorem mu:Gd j7:=mV mt 170 Tryz.f170 [(0,⟨⟨[(1,false,[dI]),(5,false,[dI])],[]⟩,
 ⟨[(1,false,[dI])],[]⟩,some ⟨[(4,false,[dI])],[]⟩⟩)] Tryz.func170
def dq (a0:List Int) (k1_1:Int) (i5:Int):Option ((Int×Int)⊕(Int⊕Int)) :=
 cond (decide (i5<(a0.length:Int)))
 ((at? a0 i5).bind λx14 =>
 cond (x14 != k1_1)
 (some (.inr (.inr (-1))))
 (some (.inl (mH (k1_1+1),mH (i5+1)))))
 (some (.inr (.inl k1_1)))
def dt (a0:List Int) (k1:Int):Option Int :=
 (loop (λz=>dq a0 z.1 z.2) (k1,0)).bind (Sum.elim (λd =>
 some d) (λr=>some r))
def j8:FL:=(171,⟨[.val false pa false,.val false mM false],[.val false mM (some true)],λa=>dt a.1 a.2⟩)::j7
theorem mw:Gd j8:=mV mu 171 Tryz.f171 [(0,⟨⟨[(1,false,[dI]),(5,false,[dI])],[]⟩,
 ⟨[(1,false,[dI])],[]⟩,some ⟨[(4,false,[dI])],[]⟩⟩)] Tryz.func171
def du (p0:List mL) (i1_1:Int) (t5:Int):Option ((Int×Int)⊕(Int⊕Int)) :=
 cond (decide (t5<(p0.length:Int)))
 ((at? p0 t5).bind λx14 =>
 cond (x14.1 != i1_1)
 (some (.inr (.inr (-1))))
 ((at? p0 t5).bind λx23 =>
 (cj (mH (i1_1+1))).bind λt27 =>
 cond (!(x23.2.1==t27))
 (some (.inr (.inr (-1))))
 (let i1_2:=mH ((mH (i1_1+1))+1)
 (at? p0 t5).bind λx33 =>
 (dj x33.2.2.1 i1_2).bind λt37 =>
 cond (decide (t37<0))
 (some (.inr (.inr (-1))))
 ((at? p0 t5).bind λx42 =>
 (dl x42.2.2.2.1 t37).bind λt46 =>
 cond (decide (t46<0))
 (some (.inr (.inr (-1))))
 ((at? p0 t5).bind λx51 =>
 (dp x51.2.2.2.2.1 t46).bind λt56 =>
 cond (decide (t56<0))
 (some (.inr (.inr (-1))))
 ((at? p0 t5).bind λx61 =>
 (dt x61.2.2.2.2.2.1 t56).bind λt66 =>
 cond (decide (t66<0))
 (some (.inr (.inr (-1))))
 ((at? p0 t5).bind λx71 =>
 cond (x71.2.2.2.2.2.2.1 != t66)
 (some (.inr (.inr (-1))))
 ((at? p0 t5).bind λx80 =>
 cond (x80.2.2.2.2.2.2.2.1 != (mH (t66+1)))
 (some (.inr (.inr (-1))))
 (let i1_3:=mH ((mH (t66+1))+1)
 (at? p0 t5).bind λx89 =>
 cond (x89.2.2.2.2.2.2.2.2.1 != i1_3)
 (some (.inr (.inr (-1))))
 ((at? p0 t5).bind λx98 =>
 cond (x98.2.2.2.2.2.2.2.2.2.1 != (mH (i1_3+1)))
 (some (.inr (.inr (-1))))
 (let i1_4:=mH ((mH (i1_3+1))+1)
 (at? p0 t5).bind λx107 =>
 cond (x107.2.2.2.2.2.2.2.2.2.2 != i1_4)
 (some (.inr (.inr (-1))))
 (some (.inl (mH (i1_4+1),mH (t5+1)))))))))))))))
 (some (.inr (.inl i1_1)))
def dv (p0:List mL) (i1:Int):Option Int :=
 (loop (λz=>du p0 z.1 z.2) (i1,0)).bind (Sum.elim (λd =>
 some d) (λr=>some r))
def j9:FL:=(99,⟨[.val false (.one (.sl na)) false,.val false mM false],[.val false mM (some true)],λa=>dv a.1 a.2⟩)::j8
theorem my:Gd j9:=mV mw 99 Tryz.f99 [(0,⟨⟨[(1,false,[dI]),(5,false,[dI])],[]⟩,
 ⟨[(1,false,[dI])],[]⟩,some ⟨[(4,false,[dI])],[]⟩⟩)] Tryz.func99
def dw (a0:List nD) (k1_1:Int) (i5:Int):Option ((Int×Int)⊕(Int⊕Int)) :=
 cond (decide (i5<(a0.length:Int)))
 ((at? a0 i5).bind λx14 =>
 cond (x14.1 != k1_1)
 (some (.inr (.inr (-1))))
 ((at? a0 i5).bind λx23 =>
 cond (x23.2.1 != (mH (k1_1+1)))
 (some (.inr (.inr (-1))))
 (let k1_2:=mH ((mH (k1_1+1))+1)
 (at? a0 i5).bind λx32 =>
 cond (x32.2.2.1 != k1_2)
 (some (.inr (.inr (-1))))
 ((at? a0 i5).bind λx41 =>
 cond (x41.2.2.2 != (mH (k1_2+1)))
 (some (.inr (.inr (-1))))
 (let k1_3:=mH ((mH (k1_2+1))+1)
 some (.inl (k1_3,mH (i5+1))))))))
 (some (.inr (.inl k1_1)))
def dx (a0:List nD) (k1:Int):Option Int :=
 (loop (λz=>dw a0 z.1 z.2) (k1,0)).bind (Sum.elim (λd =>
 some d) (λr=>some r))
def ja:FL:=(100,⟨[.val false (.one (.sl oO)) false,.val false mM false],[.val false mM (some true)],λa=>dx a.1 a.2⟩)::j9
theorem mz:Gd ja:=mV my 100 Tryz.f100 [(0,⟨⟨[(1,false,[dI]),(5,false,[dI])],[]⟩,
 ⟨[(1,false,[dI])],[]⟩,some ⟨[(4,false,[dI])],[]⟩⟩)] Tryz.func100
def dy (p0:List oT) (i1_1:Int) (t5:Int):Option ((Int×Int)⊕(Int⊕Int)) :=
 cond (decide (t5<(p0.length:Int)))
 ((at? p0 t5).bind λx14 =>
 cond (x14.1 != i1_1)
 (some (.inr (.inr (-1))))
 ((at? p0 t5).bind λx23 =>
 cond (!(x23.2.1==(((mH (i1_1+1)).tmod 3)==0)))
 (some (.inr (.inr (-1))))
 (let i1_2:=mH ((mH (i1_1+1))+1)
 (at? p0 t5).bind λx34 =>
 cond (x34.2.2.1 != i1_2)
 (some (.inr (.inr (-1))))
 ((at? p0 t5).bind λx44 =>
 cond (x44.2.2.2.1 != (mH (i1_2+1)))
 (some (.inr (.inr (-1))))
 (let i1_3:=mH ((mH (i1_2+1))+1)
 (at? p0 t5).bind λx54 =>
 cond (x54.2.2.2.2.1 != i1_3)
 (some (.inr (.inr (-1))))
 ((at? p0 t5).bind λx64 =>
 cond (x64.2.2.2.2.2.1 != (mH (i1_3+1)))
 (some (.inr (.inr (-1))))
 (let i1_4:=mH ((mH (i1_3+1))+1)
 (at? p0 t5).bind λx74 =>
 cond (x74.2.2.2.2.2.2 != i1_4)
 (some (.inr (.inr (-1))))
 (some (.inl (mH (i1_4+1),mH (t5+1)))))))))))
 (some (.inr (.inl i1_1)))
def dz (p0:List oT) (i1:Int):Option Int :=
 (loop (λz=>dy p0 z.1 z.2) (i1,0)).bind (Sum.elim (λd =>
 some d) (λr=>some r))
def jb:FL:=(101,⟨[.val false (.one (.sl pA)) false,.val false mM false],[.val false mM (some true)],λa=>dz a.1 a.2⟩)::ja
theorem mC:Gd jb:=mV mz 101 Tryz.f101 [(0,⟨⟨[(1,false,[dI]),(5,false,[dI])],[]⟩,
 ⟨[(1,false,[dI])],[]⟩,some ⟨[(4,false,[dI])],[]⟩⟩)] Tryz.func101
def ck (a0:nh) (k1:Int):Option Int :=
 (dv a0.1 k1).bind λt8 =>
 cond (decide (t8<0))
 (some (-1))
 ((dx a0.2.1 t8).bind λt14 =>
 cond (decide (t14<0))
 (some (-1))
 ((dz a0.2.2 t14).bind λt20 =>
 cond (decide (t20<0)) (some (-1)) (some t20)))
def jc:FL:=(27,⟨[.val true oi false,.val false mM false],[.val false mM (some true)],λa=>ck a.1 a.2⟩)::jb
theorem mD:Gd jc:=mV mC 27 Tryz.f27 [] Tryz.func27
def dA (a0:List Int) (k1_1:Int) (i5:Int):Option ((Int×Int)⊕(Int⊕Int)) :=
 cond (decide (i5<(a0.length:Int)))
 ((at? a0 i5).bind λx14 =>
 cond (x14 != (IntKind.u8.wrap (k1_1)))
 (some (.inr (.inr (-1))))
 (some (.inl (mH (k1_1+1),mH (i5+1)))))
 (some (.inr (.inl k1_1)))
def dC (a0:List Int) (k1:Int):Option Int :=
 (loop (λz=>dA a0 z.1 z.2) (k1,0)).bind (Sum.elim (λd =>
 some d) (λr=>some r))
def jd:FL:=(102,⟨[.val false uP false,.val false mM false],[.val false mM (some true)],λa=>dC a.1 a.2⟩)::jc
theorem mE:Gd jd:=mV mD 102 Tryz.f102 [(0,⟨⟨[(1,false,[dI]),(5,false,[dI])],[]⟩,
 ⟨[(1,false,[dI])],[]⟩,some ⟨[(4,false,[dI])],[]⟩⟩)] Tryz.func102
def dD (p0:List n9) (i1_1:Int) (t5:Int):Option ((Int×Int)⊕(Int⊕Int)) :=
 cond (decide (t5<(p0.length:Int)))
 ((at? p0 t5).bind λx14 =>
 cond (x14.1 != i1_1)
 (some (.inr (.inr (-1))))
 ((at? p0 t5).bind λx23 =>
 cond (x23.2.1 != (mH (i1_1+1)))
 (some (.inr (.inr (-1))))
 (let i1_2:=mH ((mH (i1_1+1))+1)
 (at? p0 t5).bind λx32 =>
 cond (x32.2.2.1 != i1_2)
 (some (.inr (.inr (-1))))
 ((at? p0 t5).bind λx42 =>
 cond (x42.2.2.2.1 != (mH (i1_2+1)))
 (some (.inr (.inr (-1))))
 (let i1_3:=mH ((mH (i1_2+1))+1)
 (at? p0 t5).bind λx52 =>
 cond (x52.2.2.2.2.1 != i1_3)
 (some (.inr (.inr (-1))))
 ((at? p0 t5).bind λx62 =>
 (dC x62.2.2.2.2.2 (mH (i1_3+1))).bind λt67 =>
 cond (decide (t67<0)) (some (.inr (.inr (-1)))) (some (.inl (t67,mH (t5+1))))))))))
 (some (.inr (.inl i1_1)))
def cm (p0:List n9) (i1:Int):Option Int :=
 (loop (λz=>dD p0 z.1 z.2) (i1,0)).bind (Sum.elim (λd =>
 some d) (λr=>some r))
def a8:FL:=(28,⟨[.val false (.one (.sl ny)) false,.val false mM false],[.val false mM (some true)],λa=>cm a.1 a.2⟩)::jd
theorem ah:Gd a8:=mV mE 28 Tryz.f28 [(0,⟨⟨[(1,false,[dI]),(5,false,[dI])],[]⟩,
 ⟨[(1,false,[dI])],[]⟩,some ⟨[(4,false,[dI])],[]⟩⟩)] Tryz.func28
def dE (i1:Int) (t5:Int) (l:List Pt):Option ((Int×Int×List Pt)⊕(Int×List Pt)) :=
 cond (decide (t5<(l.length:Int)))
 ((ix l.length t5).bind λj17 =>
 (l[j17]?).bind λx =>
 let ls:List Pt:=l.set j17 ((i1.tmod 3)==0,x.2.1,x.2.2.1,x.2.2.2.1,x.2.2.2.2.1,x.2.2.2.2.2.1,x.2.2.2.2.2.2.1,x.2.2.2.2.2.2.2)
 (ix ls.length t5).bind λj24 =>
 (ls[j24]?).bind λx_1 =>
 let ls_1:List Pt:=ls.set j24 (x_1.1,mH (i1+1),x_1.2.2.1,x_1.2.2.2.1,x_1.2.2.2.2.1,x_1.2.2.2.2.2.1,x_1.2.2.2.2.2.2.1,x_1.2.2.2.2.2.2.2)
 (ix ls_1.length t5).bind λj33 =>
 (ls_1[j33]?).bind λx_2 =>
 let ls_2:List Pt:=ls_1.set j33 (x_2.1,x_2.2.1,((mH ((mH (i1+1))+1)).tmod 3)==0,x_2.2.2.2.1,x_2.2.2.2.2.1,x_2.2.2.2.2.2.1,x_2.2.2.2.2.2.2.1,x_2.2.2.2.2.2.2.2)
 let i1_1:=mH ((mH ((mH (i1+1))+1))+1)
 (ix ls_2.length t5).bind λj40 =>
 (ls_2[j40]?).bind λx_3 =>
 let ls_3:List Pt:=ls_2.set j40 (x_3.1,x_3.2.1,x_3.2.2.1,i1_1,x_3.2.2.2.2.1,x_3.2.2.2.2.2.1,x_3.2.2.2.2.2.2.1,x_3.2.2.2.2.2.2.2)
 (ix ls_3.length t5).bind λj48 =>
 (ls_3[j48]?).bind λx_4 =>
 let ls_4:List Pt:=ls_3.set j48 (x_4.1,x_4.2.1,x_4.2.2.1,x_4.2.2.2.1,mH (i1_1+1),x_4.2.2.2.2.2.1,x_4.2.2.2.2.2.2.1,x_4.2.2.2.2.2.2.2)
 let i1_2:=mH ((mH (i1_1+1))+1)
 (ix ls_4.length t5).bind λj56 =>
 (ls_4[j56]?).bind λx_5 =>
 let ls_5:List Pt:=ls_4.set j56 (x_5.1,x_5.2.1,x_5.2.2.1,x_5.2.2.2.1,x_5.2.2.2.2.1,i1_2,x_5.2.2.2.2.2.2.1,x_5.2.2.2.2.2.2.2)
 (ix ls_5.length t5).bind λj64 =>
 (ls_5[j64]?).bind λx_6 =>
 let ls_6:List Pt:=ls_5.set j64 (x_6.1,x_6.2.1,x_6.2.2.1,x_6.2.2.2.1,x_6.2.2.2.2.1,x_6.2.2.2.2.2.1,mH (i1_2+1),x_6.2.2.2.2.2.2.2)
 let i1_3:=mH ((mH (i1_2+1))+1)
 (ix ls_6.length t5).bind λj72 =>
 (ls_6[j72]?).bind λx_7 =>
 let ls_7:List Pt:=ls_6.set j72 (x_7.1,x_7.2.1,x_7.2.2.1,x_7.2.2.2.1,x_7.2.2.2.2.1,x_7.2.2.2.2.2.1,x_7.2.2.2.2.2.2.1,i1_3)
 some (.inl (mH (i1_3+1),mH (t5+1),ls_7)))
 (some (.inr (i1,l)))
def cn (a0:List Pt) (k1:Int):Option ((List Pt)×Int) :=
 (loop (λz=>dE z.1 z.2.1 z.2.2) (k1,0,a0)).bind λd =>
 some (d.2,d.1)
theorem IZ:p5 Tryz.prog ⟨tis,a8,[],true⟩:=ah.trees AA
def vS:q9:=⟨false,(.one (.sl oK)),λa k=>cn a k⟩
def vT:List (Nat×mO):=[(0,⟨⟨[(1,false,[dI]),(5,false,[dI])],[(1,.tree oK)]⟩,
 ⟨[(1,false,[dI])],[(1,.tree oK)]⟩,none⟩)]
theorem zZ:pM ⟨tis,a8,[],true⟩ vT Tryz.f164 (oj Tryz.f164) false (.one (.sl oK))=λa k=>cn a k:=by kernel_rfl
theorem A0:oC Tryz.prog 164 vS:=by
 have h:=qa (ann:=vT) (agg:=false) (cs:=(.one (.sl oK))) IZ rG Tryz.func164 (by kernel_rfl) (by kernel_rfl:Tryz.f164.body=some (oj Tryz.f164));rw[zZ]at h;exact h
def uQ:List (FuncId×q9):=(164,vS)::[]
theorem Ez:∀f M,mG uQ f=some M->oC Tryz.prog f M:=pj AA A0
theorem Hr:p5 Tryz.prog ⟨tis,a8,uQ,true⟩:=ah.trees Ez
def dG (k1_1:Int) (i5:Int) (l:List mT):Option ((Int×Int×List mT)⊕(Int×List mT)) :=
 cond (decide (i5<(l.length:Int)))
 ((ix l.length i5).bind λj15 =>
 (l[j15]?).bind λx =>
 let ls:List mT:=l.set j15 (k1_1,x.2.1,x.2.2.1,x.2.2.2.1,x.2.2.2.2)
 (ix ls.length i5).bind λj22 =>
 (ls[j22]?).bind λx_1 =>
 let ls_1:List mT:=ls.set j22 (x_1.1,mH (k1_1+1),x_1.2.2.1,x_1.2.2.2.1,x_1.2.2.2.2)
 let k1_2:=mH ((mH (k1_1+1))+1)
 (ix ls_1.length i5).bind λj29 =>
 (ls_1[j29]?).bind λx_2 =>
 let ls_2:List mT:=ls_1.set j29 (x_2.1,x_2.2.1,k1_2,x_2.2.2.2.1,x_2.2.2.2.2)
 (ix ls_2.length i5).bind λj36 =>
 (ls_2[j36]?).bind λx_3 =>
 let ls_3:List mT:=ls_2.set j36 (x_3.1,x_3.2.1,x_3.2.2.1,mH (k1_2+1),x_3.2.2.2.2)
 let k1_3:=mH ((mH (k1_2+1))+1)
 (ix ls_3.length i5).bind λj45 =>
 (ls_3[j45]?).bind λx_4 =>
 let ls_4:List mT:=ls_3.set j45 (x_4.1,x_4.2.1,x_4.2.2.1,x_4.2.2.2.1,(k1_3.tmod 3)==0)
 some (.inl (mH (k1_3+1),mH (i5+1),ls_4)))
 (some (.inr (k1_1,l)))
def co (a0:List mT) (k1:Int):Option ((List mT)×Int) :=
 (loop (λz=>dG z.1 z.2.1 z.2.2) (k1,0,a0)).bind λd =>
 some (d.2,d.1)
def uj:q9:=⟨false,(.one (.sl ng)),λa k=>co a k⟩
def uk:List (Nat×mO):=[(0,⟨⟨[(1,false,[dI]),(5,false,[dI])],[(1,.tree ng)]⟩,
 ⟨[(1,false,[dI])],[(1,.tree ng)]⟩,none⟩)]
theorem yt:pM ⟨tis,a8,uQ,true⟩ uk Tryz.f165 (oj Tryz.f165) false (.one (.sl ng))=λa k=>co a k:=by kernel_rfl
theorem yu:oC Tryz.prog 165 uj:=by
 have h:=qa (ann:=uk) (agg:=false) (cs:=(.one (.sl ng))) Hr rG Tryz.func165 (by kernel_rfl) (by kernel_rfl:Tryz.f165.body=some (oj Tryz.f165));rw[yt]at h;exact h
def uR:List (FuncId×q9):=(165,uj)::uQ
theorem EA:∀f M,mG uR f=some M->oC Tryz.prog f M:=pj Ez yu
theorem Hs:p5 Tryz.prog ⟨tis,a8,uR,true⟩:=ah.trees EA
def dH (k1_1:Int) (i5:Int) (l:List oy):Option ((Int×Int×List oy)⊕(Int×List oy)) :=
 cond (decide (i5<(l.length:Int)))
 ((ix l.length i5).bind λj15 =>
 (l[j15]?).bind λx =>
 let ls:List oy:=l.set j15 (k1_1,x.2.1,x.2.2)
 (ix ls.length i5).bind λj22 =>
 (ls[j22]?).bind λx_1 =>
 let ls_1:List oy:=ls.set j22 (x_1.1,mH (k1_1+1),x_1.2.2)
 let k1_2:=mH ((mH (k1_1+1))+1)
 (ix ls_1.length i5).bind λj29 =>
 (ls_1[j29]?).bind λx_2 =>
 let ls_2:List oy:=ls_1.set j29 (x_2.1,x_2.2.1,k1_2)
 some (.inl (mH (k1_2+1),mH (i5+1),ls_2)))
 (some (.inr (k1_1,l)))
def cp (a0:List oy) (k1:Int):Option ((List oy)×Int) :=
 (loop (λz=>dH z.1 z.2.1 z.2.2) (k1,0,a0)).bind λd =>
 some (d.2,d.1)
def ul:q9:=⟨false,(.one (.sl o7)),λa k=>cp a k⟩
def um:List (Nat×mO):=[(0,⟨⟨[(1,false,[dI]),(5,false,[dI])],[(1,.tree o7)]⟩,
 ⟨[(1,false,[dI])],[(1,.tree o7)]⟩,none⟩)]
theorem yv:pM ⟨tis,a8,uR,true⟩ um Tryz.f166 (oj Tryz.f166) false (.one (.sl o7))=λa k=>cp a k:=by kernel_rfl
theorem yw:oC Tryz.prog 166 ul:=by
 have h:=qa (ann:=um) (agg:=false) (cs:=(.one (.sl o7))) Hs rG Tryz.func166 (by kernel_rfl) (by kernel_rfl:Tryz.f166.body=some (oj Tryz.f166));rw[yv]at h;exact h
def uS:List (FuncId×q9):=(166,ul)::uR
theorem EB:∀f M,mG uS f=some M->oC Tryz.prog f M:=pj EA yw
theorem Ht:p5 Tryz.prog ⟨tis,a8,uS,true⟩:=ah.trees EB
def dJ (k1_1:Int) (i5:Int) (l:List Int):Option ((Int×Int×List Int)⊕(Int×List Int)) :=
 cond (decide (i5<(l.length:Int)))
 ((ix l.length i5).bind λj15 =>
 (l[j15]?).bind λx =>
 let ls:List Int:=l.set j15 k1_1
 some (.inl (mH (k1_1+1),mH (i5+1),ls)))
 (some (.inr (k1_1,l)))
def cq (a0:List Int) (k1:Int):Option ((List Int)×Int) :=
 (loop (λz=>dJ z.1 z.2.1 z.2.2) (k1,0,a0)).bind λd =>
 some (d.2,d.1)
def uT:q9:=⟨false,pa,λa k=>cq a k⟩
def uU:List (Nat×mO):=[(0,⟨⟨[(1,false,[dI]),(5,false,[dI])],[(1,.tree mM)]⟩,
 ⟨[(1,false,[dI])],[(1,.tree mM)]⟩,none⟩)]
theorem zq:pM ⟨tis,a8,uS,true⟩ uU Tryz.f167 (oj Tryz.f167) false pa=λa k=>cq a k:=by kernel_rfl
theorem zr:oC Tryz.prog 167 uT:=by
 have h:=qa (ann:=uU) (agg:=false) (cs:=pa) Ht rG Tryz.func167 (by kernel_rfl) (by kernel_rfl:Tryz.f167.body=some (oj Tryz.f167));rw[zq]at h;exact h
def uV:List (FuncId×q9):=(167,uT)::uS
theorem EC:∀f M,mG uV f=some M->oC Tryz.prog f M:=pj EB zr
theorem Hu:p5 Tryz.prog ⟨tis,a8,uV,true⟩:=ah.trees EC
def dK (i1:Int) (t5:Int) (l:List mL):Option ((Int×Int×List mL)⊕(Int×List mL)) :=
 cond (decide (t5<(l.length:Int)))
 ((ix l.length t5).bind λj15 =>
 (l[j15]?).bind λx =>
 let ls:List mL:=l.set j15 (i1,x.2.1,x.2.2.1,x.2.2.2.1,x.2.2.2.2.1,x.2.2.2.2.2.1,x.2.2.2.2.2.2.1,x.2.2.2.2.2.2.2.1,x.2.2.2.2.2.2.2.2.1,x.2.2.2.2.2.2.2.2.2.1,x.2.2.2.2.2.2.2.2.2.2)
 (cj (mH (i1+1))).bind λt22 =>
 (ix ls.length t5).bind λj23 =>
 (ls[j23]?).bind λx_1 =>
 let ls_1:List mL:=ls.set j23 (x_1.1,t22,x_1.2.2.1,x_1.2.2.2.1,x_1.2.2.2.2.1,x_1.2.2.2.2.2.1,x_1.2.2.2.2.2.2.1,x_1.2.2.2.2.2.2.2.1,x_1.2.2.2.2.2.2.2.2.1,x_1.2.2.2.2.2.2.2.2.2.1,x_1.2.2.2.2.2.2.2.2.2.2)
 (ix ls_1.length t5).bind λj29 =>
 (ls_1[j29]?).bind λx31 =>
 (ls_1[j29]?).bind λx_2 =>
 (cn x_2.2.2.1 (mH ((mH (i1+1))+1))).bind λz =>
 let ls_2:List mL:=ls_1.set j29 (x_2.1,x_2.2.1,z.1,x_2.2.2.2.1,x_2.2.2.2.2.1,x_2.2.2.2.2.2.1,x_2.2.2.2.2.2.2.1,x_2.2.2.2.2.2.2.2.1,x_2.2.2.2.2.2.2.2.2.1,x_2.2.2.2.2.2.2.2.2.2.1,x_2.2.2.2.2.2.2.2.2.2.2)
 (ix ls_2.length t5).bind λj36 =>
 (ls_2[j36]?).bind λx38 =>
 (ls_2[j36]?).bind λx_3 =>
 (co x_3.2.2.2.1 z.2).bind λz_1 =>
 let ls_3:List mL:=ls_2.set j36 (x_3.1,x_3.2.1,x_3.2.2.1,z_1.1,x_3.2.2.2.2.1,x_3.2.2.2.2.2.1,x_3.2.2.2.2.2.2.1,x_3.2.2.2.2.2.2.2.1,x_3.2.2.2.2.2.2.2.2.1,x_3.2.2.2.2.2.2.2.2.2.1,x_3.2.2.2.2.2.2.2.2.2.2)
 (ix ls_3.length t5).bind λj43 =>
 (ls_3[j43]?).bind λx46 =>
 (ls_3[j43]?).bind λx_4 =>
 (cp x_4.2.2.2.2.1 z_1.2).bind λz_2 =>
 let ls_4:List mL:=ls_3.set j43 (x_4.1,x_4.2.1,x_4.2.2.1,x_4.2.2.2.1,z_2.1,x_4.2.2.2.2.2.1,x_4.2.2.2.2.2.2.1,x_4.2.2.2.2.2.2.2.1,x_4.2.2.2.2.2.2.2.2.1,x_4.2.2.2.2.2.2.2.2.2.1,x_4.2.2.2.2.2.2.2.2.2.2)
 (ix ls_4.length t5).bind λj51 =>
 (ls_4[j51]?).bind λx54 =>
 (ls_4[j51]?).bind λx_5 =>
 (cq x_5.2.2.2.2.2.1 z_2.2).bind λz_3 =>
 let ls_5:List mL:=ls_4.set j51 (x_5.1,x_5.2.1,x_5.2.2.1,x_5.2.2.2.1,x_5.2.2.2.2.1,z_3.1,x_5.2.2.2.2.2.2.1,x_5.2.2.2.2.2.2.2.1,x_5.2.2.2.2.2.2.2.2.1,x_5.2.2.2.2.2.2.2.2.2.1,x_5.2.2.2.2.2.2.2.2.2.2)
 (ix ls_5.length t5).bind λj60 =>
 (ls_5[j60]?).bind λx_6 =>
 let ls_6:List mL:=ls_5.set j60 (x_6.1,x_6.2.1,x_6.2.2.1,x_6.2.2.2.1,x_6.2.2.2.2.1,x_6.2.2.2.2.2.1,z_3.2,x_6.2.2.2.2.2.2.2.1,x_6.2.2.2.2.2.2.2.2.1,x_6.2.2.2.2.2.2.2.2.2.1,x_6.2.2.2.2.2.2.2.2.2.2)
 (ix ls_6.length t5).bind λj67 =>
 (ls_6[j67]?).bind λx_7 =>
 let ls_7:List mL:=ls_6.set j67 (x_7.1,x_7.2.1,x_7.2.2.1,x_7.2.2.2.1,x_7.2.2.2.2.1,x_7.2.2.2.2.2.1,x_7.2.2.2.2.2.2.1,mH (z_3.2+1),x_7.2.2.2.2.2.2.2.2.1,x_7.2.2.2.2.2.2.2.2.2.1,x_7.2.2.2.2.2.2.2.2.2.2)
 let i1_1:=mH ((mH (z_3.2+1))+1)
 (ix ls_7.length t5).bind λj74 =>
 (ls_7[j74]?).bind λx_8 =>
 let ls_8:List mL:=ls_7.set j74 (x_8.1,x_8.2.1,x_8.2.2.1,x_8.2.2.2.1,x_8.2.2.2.2.1,x_8.2.2.2.2.2.1,x_8.2.2.2.2.2.2.1,x_8.2.2.2.2.2.2.2.1,i1_1,x_8.2.2.2.2.2.2.2.2.2.1,x_8.2.2.2.2.2.2.2.2.2.2)
 (ix ls_8.length t5).bind λj81 =>
 (ls_8[j81]?).bind λx_9 =>
 let ls_9:List mL:=ls_8.set j81 (x_9.1,x_9.2.1,x_9.2.2.1,x_9.2.2.2.1,x_9.2.2.2.2.1,x_9.2.2.2.2.2.1,x_9.2.2.2.2.2.2.1,x_9.2.2.2.2.2.2.2.1,x_9.2.2.2.2.2.2.2.2.1,mH (i1_1+1),x_9.2.2.2.2.2.2.2.2.2.2)
 let i1_2:=mH ((mH (i1_1+1))+1)
 (ix ls_9.length t5).bind λj88 =>
 (ls_9[j88]?).bind λx_10 =>
 let ls_10:List mL:=ls_9.set j88 (x_10.1,x_10.2.1,x_10.2.2.1,x_10.2.2.2.1,x_10.2.2.2.2.1,x_10.2.2.2.2.2.1,x_10.2.2.2.2.2.2.1,x_10.2.2.2.2.2.2.2.1,x_10.2.2.2.2.2.2.2.2.1,x_10.2.2.2.2.2.2.2.2.2.1,i1_2)
 some (.inl (mH (i1_2+1),mH (t5+1),ls_10)))
 (some (.inr (i1,l)))
def ct (a0:List mL) (k1:Int):Option ((List mL)×Int) :=
 (loop (λz=>dK z.1 z.2.1 z.2.2) (k1,0,a0)).bind λd =>
 some (d.2,d.1)
def tj:q9:=⟨false,(.one (.sl na)),λa k=>ct a k⟩
def tk:List (Nat×mO):=[(0,⟨⟨[(1,false,[dI]),(5,false,[dI])],[(1,.tree na)]⟩,
 ⟨[(1,false,[dI])],[(1,.tree na)]⟩,none⟩)]
theorem xq:pM ⟨tis,a8,uV,true⟩ tk Tryz.f95 (oj Tryz.f95) false (.one (.sl na))=λa k=>ct a k:=by kernel_rfl
theorem xr:oC Tryz.prog 95 tj:=by
 have h:=qa (ann:=tk) (agg:=false) (cs:=(.one (.sl na))) Hu rG Tryz.func95 (by kernel_rfl) (by kernel_rfl:Tryz.f95.body=some (oj Tryz.f95));rw[xq]at h;exact h
def wu:List (FuncId×q9):=(95,tj)::uV
theorem FS:∀f M,mG wu f=some M->oC Tryz.prog f M:=pj EC xr
theorem Ig:p5 Tryz.prog ⟨tis,a8,wu,true⟩:=ah.trees FS
def dL (k1_1:Int) (i5:Int) (l:List nD):Option ((Int×Int×List nD)⊕(Int×List nD)) :=
 cond (decide (i5<(l.length:Int)))
 ((ix l.length i5).bind λj15 =>
 (l[j15]?).bind λx =>
 let ls:List nD:=l.set j15 (k1_1,x.2.1,x.2.2.1,x.2.2.2)
 (ix ls.length i5).bind λj22 =>
 (ls[j22]?).bind λx_1 =>
 let ls_1:List nD:=ls.set j22 (x_1.1,mH (k1_1+1),x_1.2.2.1,x_1.2.2.2)
 let k1_2:=mH ((mH (k1_1+1))+1)
 (ix ls_1.length i5).bind λj29 =>
 (ls_1[j29]?).bind λx_2 =>
 let ls_2:List nD:=ls_1.set j29 (x_2.1,x_2.2.1,k1_2,x_2.2.2.2)
 (ix ls_2.length i5).bind λj36 =>
 (ls_2[j36]?).bind λx_3 =>
 let ls_3:List nD:=ls_2.set j36 (x_3.1,x_3.2.1,x_3.2.2.1,mH (k1_2+1))
 let k1_3:=mH ((mH (k1_2+1))+1)
 some (.inl (k1_3,mH (i5+1),ls_3)))
 (some (.inr (k1_1,l)))
def cu (a0:List nD) (k1:Int):Option ((List nD)×Int) :=
 (loop (λz=>dL z.1 z.2.1 z.2.2) (k1,0,a0)).bind λd =>
 some (d.2,d.1)
def un:q9:=⟨false,(.one (.sl oO)),λa k=>cu a k⟩
def uo:List (Nat×mO):=[(0,⟨⟨[(1,false,[dI]),(5,false,[dI])],[(1,.tree oO)]⟩,
 ⟨[(1,false,[dI])],[(1,.tree oO)]⟩,none⟩)]
theorem yy:pM ⟨tis,a8,wu,true⟩ uo Tryz.f96 (oj Tryz.f96) false (.one (.sl oO))=λa k=>cu a k:=by kernel_rfl
theorem yz:oC Tryz.prog 96 un:=by
 have h:=qa (ann:=uo) (agg:=false) (cs:=(.one (.sl oO))) Ig rG Tryz.func96 (by kernel_rfl) (by kernel_rfl:Tryz.f96.body=some (oj Tryz.f96));rw[yy]at h;exact h
def wv:List (FuncId×q9):=(96,un)::wu
theorem FT:∀f M,mG wv f=some M->oC Tryz.prog f M:=pj FS yz
theorem Ih:p5 Tryz.prog ⟨tis,a8,wv,true⟩:=ah.trees FT
def dM (i1:Int) (t5:Int) (l:List oT):Option ((Int×Int×List oT)⊕(Int×List oT)) :=
 cond (decide (t5<(l.length:Int)))
 ((ix l.length t5).bind λj15 =>
 (l[j15]?).bind λx =>
 let ls:List oT:=l.set j15 (i1,x.2.1,x.2.2.1,x.2.2.2.1,x.2.2.2.2.1,x.2.2.2.2.2.1,x.2.2.2.2.2.2)
 (ix ls.length t5).bind λj24 =>
 (ls[j24]?).bind λx_1 =>
 let ls_1:List oT:=ls.set j24 (x_1.1,((mH (i1+1)).tmod 3)==0,x_1.2.2.1,x_1.2.2.2.1,x_1.2.2.2.2.1,x_1.2.2.2.2.2.1,x_1.2.2.2.2.2.2)
 (ix ls_1.length t5).bind λj31 =>
 (ls_1[j31]?).bind λx_2 =>
 let ls_2:List oT:=ls_1.set j31 (x_2.1,x_2.2.1,mH ((mH (i1+1))+1),x_2.2.2.2.1,x_2.2.2.2.2.1,x_2.2.2.2.2.2.1,x_2.2.2.2.2.2.2)
 let i1_1:=mH ((mH ((mH (i1+1))+1))+1)
 (ix ls_2.length t5).bind λj39 =>
 (ls_2[j39]?).bind λx_3 =>
 let ls_3:List oT:=ls_2.set j39 (x_3.1,x_3.2.1,x_3.2.2.1,i1_1,x_3.2.2.2.2.1,x_3.2.2.2.2.2.1,x_3.2.2.2.2.2.2)
 (ix ls_3.length t5).bind λj47 =>
 (ls_3[j47]?).bind λx_4 =>
 let ls_4:List oT:=ls_3.set j47 (x_4.1,x_4.2.1,x_4.2.2.1,x_4.2.2.2.1,mH (i1_1+1),x_4.2.2.2.2.2.1,x_4.2.2.2.2.2.2)
 let i1_2:=mH ((mH (i1_1+1))+1)
 (ix ls_4.length t5).bind λj55 =>
 (ls_4[j55]?).bind λx_5 =>
 let ls_5:List oT:=ls_4.set j55 (x_5.1,x_5.2.1,x_5.2.2.1,x_5.2.2.2.1,x_5.2.2.2.2.1,i1_2,x_5.2.2.2.2.2.2)
 (ix ls_5.length t5).bind λj63 =>
 (ls_5[j63]?).bind λx_6 =>
 let ls_6:List oT:=ls_5.set j63 (x_6.1,x_6.2.1,x_6.2.2.1,x_6.2.2.2.1,x_6.2.2.2.2.1,x_6.2.2.2.2.2.1,mH (i1_2+1))
 let i1_3:=mH ((mH (i1_2+1))+1)
 some (.inl (i1_3,mH (t5+1),ls_6)))
 (some (.inr (i1,l)))
def cw (a0:List oT) (k1:Int):Option ((List oT)×Int) :=
 (loop (λz=>dM z.1 z.2.1 z.2.2) (k1,0,a0)).bind λd =>
 some (d.2,d.1)
def uW:q9:=⟨false,(.one (.sl pA)),λa k=>cw a k⟩
def uX:List (Nat×mO):=[(0,⟨⟨[(1,false,[dI]),(5,false,[dI])],[(1,.tree pA)]⟩,
 ⟨[(1,false,[dI])],[(1,.tree pA)]⟩,none⟩)]
theorem zt:pM ⟨tis,a8,wv,true⟩ uX Tryz.f97 (oj Tryz.f97) false (.one (.sl pA))=λa k=>cw a k:=by kernel_rfl
theorem zu:oC Tryz.prog 97 uW:=by
 have h:=qa (ann:=uX) (agg:=false) (cs:=(.one (.sl pA))) Ih rG Tryz.func97 (by kernel_rfl) (by kernel_rfl:Tryz.f97.body=some (oj Tryz.f97));rw[zt]at h;exact h
def wx:List (FuncId×q9):=(97,uW)::wv
theorem FU:∀f M,mG wx f=some M->oC Tryz.prog f M:=pj FT zu
theorem Ii:p5 Tryz.prog ⟨tis,a8,wx,true⟩:=ah.trees FU
def aR (a0:nh) (k1:Int):Option (nh×Int) :=
 (ct a0.1 k1).bind λz =>
 (cu a0.2.1 z.2).bind λz_1 =>
 (cw a0.2.2 z_1.2).bind λz_2 =>
 some ((z.1,z_1.1,z_2.1),z_2.2)
def vU:q9:=⟨true,oi,λa k=>aR a k⟩
theorem A1:pM ⟨tis,a8,wx,true⟩ [] Tryz.f24 (oj Tryz.f24) true oi=λa k=>aR a k:=by kernel_rfl
theorem A2:oC Tryz.prog 24 vU:=by
 have h:=qa (ann:=[]) (agg:=true) (cs:=oi) Ii rG Tryz.func24 (by kernel_rfl) (by kernel_rfl:Tryz.f24.body=some (oj Tryz.f24));rw[A1]at h;exact h
def wz:List (FuncId×q9):=(24,vU)::wx
theorem FV:∀f M,mG wz f=some M->oC Tryz.prog f M:=pj FU A2
theorem Ij:p5 Tryz.prog ⟨tis,a8,wz,true⟩:=ah.trees FV
def dN (k1_1:Int) (i5:Int) (l:List Int):Option ((Int×Int×List Int)⊕(Int×List Int)) :=
 cond (decide (i5<(l.length:Int)))
 ((ix l.length i5).bind λj16 =>
 (l[j16]?).bind λx =>
 let ls:List Int:=l.set j16 (IntKind.u8.wrap (k1_1))
 some (.inl (mH (k1_1+1),mH (i5+1),ls)))
 (some (.inr (k1_1,l)))
def bv (a0:List Int) (k1:Int):Option ((List Int)×Int) :=
 (loop (λz=>dN z.1 z.2.1 z.2.2) (k1,0,a0)).bind λd =>
 some (d.2,d.1)
def uq:q9:=⟨false,uP,λa k=>bv a k⟩
def ur:List (Nat×mO):=[(0,⟨⟨[(1,false,[dI]),(5,false,[dI])],[(1,.tree (.one (.int .u8)))]⟩,
 ⟨[(1,false,[dI])],[(1,.tree (.one (.int .u8)))]⟩,none⟩)]
theorem yA:pM ⟨tis,a8,wz,true⟩ ur Tryz.f98 (oj Tryz.f98) false uP=λa k=>bv a k:=by kernel_rfl
theorem yB:oC Tryz.prog 98 uq:=by
 have h:=qa (ann:=ur) (agg:=false) (cs:=uP) Ij rG Tryz.func98 (by kernel_rfl) (by kernel_rfl:Tryz.f98.body=some (oj Tryz.f98));rw[yA]at h;exact h
def wA:List (FuncId×q9):=(98,uq)::wz
theorem FW:∀f M,mG wA f=some M->oC Tryz.prog f M:=pj FV yB
theorem Ik:p5 Tryz.prog ⟨tis,a8,wA,true⟩:=ah.trees FW
def cz (a0:nM) (k1:Int):Option (nM×Int) :=
 (bv a0.2.2.2 k1).bind λz =>
 some ((a0.1,a0.2.1,a0.2.2.1,z.1),z.2)
def ut:q9:=⟨true,o8,λa k=>cz a k⟩
theorem yC:pM ⟨tis,a8,wA,true⟩ [] Tryz.f25 (oj Tryz.f25) true o8=λa k=>cz a k:=by kernel_rfl
theorem yD:oC Tryz.prog 25 ut:=by
 have h:=qa (ann:=[]) (agg:=true) (cs:=o8) Ik rG Tryz.func25 (by kernel_rfl) (by kernel_rfl:Tryz.f25.body=some (oj Tryz.f25));rw[yC]at h;exact h
def wB:List (FuncId×q9):=(25,ut)::wA
theorem FX:∀f M,mG wB f=some M->oC Tryz.prog f M:=pj FW yD
theorem Il:p5 Tryz.prog ⟨tis,a8,wB,true⟩:=ah.trees FX
def dO (k1_1:Int) (i5:Int) (l:List n9):Option ((Int×Int×List n9)⊕(Int×List n9)) :=
 cond (decide (i5<(l.length:Int)))
 ((ix l.length i5).bind λj15 =>
 (l[j15]?).bind λx =>
 let ls:List n9:=l.set j15 (k1_1,x.2.1,x.2.2.1,x.2.2.2.1,x.2.2.2.2.1,x.2.2.2.2.2)
 (ix ls.length i5).bind λj22 =>
 (ls[j22]?).bind λx_1 =>
 let ls_1:List n9:=ls.set j22 (x_1.1,mH (k1_1+1),x_1.2.2.1,x_1.2.2.2.1,x_1.2.2.2.2.1,x_1.2.2.2.2.2)
 let k1_2:=mH ((mH (k1_1+1))+1)
 (ix ls_1.length i5).bind λj29 =>
 (ls_1[j29]?).bind λx_2 =>
 let ls_2:List n9:=ls_1.set j29 (x_2.1,x_2.2.1,k1_2,x_2.2.2.2.1,x_2.2.2.2.2.1,x_2.2.2.2.2.2)
 (ix ls_2.length i5).bind λj37 =>
 (ls_2[j37]?).bind λx_3 =>
 let ls_3:List n9:=ls_2.set j37 (x_3.1,x_3.2.1,x_3.2.2.1,mH (k1_2+1),x_3.2.2.2.2.1,x_3.2.2.2.2.2)
 let k1_3:=mH ((mH (k1_2+1))+1)
 (ix ls_3.length i5).bind λj45 =>
 (ls_3[j45]?).bind λx_4 =>
 let ls_4:List n9:=ls_3.set j45 (x_4.1,x_4.2.1,x_4.2.2.1,x_4.2.2.2.1,k1_3,x_4.2.2.2.2.2)
 (ix ls_4.length i5).bind λj52 =>
 (ls_4[j52]?).bind λx55 =>
 (ls_4[j52]?).bind λx_5 =>
 (bv x_5.2.2.2.2.2 (mH (k1_3+1))).bind λz =>
 let ls_5:List n9:=ls_4.set j52 (x_5.1,x_5.2.1,x_5.2.2.1,x_5.2.2.2.1,x_5.2.2.2.2.1,z.1)
 some (.inl (z.2,mH (i5+1),ls_5)))
 (some (.inr (k1_1,l)))
def cA (a0:List n9) (k1:Int):Option ((List n9)×Int) :=
 (loop (λz=>dO z.1 z.2.1 z.2.2) (k1,0,a0)).bind λd =>
 some (d.2,d.1)
def uY:q9:=⟨false,(.one (.sl ny)),λa k=>cA a k⟩
def uZ:List (Nat×mO):=[(0,⟨⟨[(1,false,[dI]),(5,false,[dI])],[(1,.tree ny)]⟩,
 ⟨[(1,false,[dI])],[(1,.tree ny)]⟩,none⟩)]
theorem zv:pM ⟨tis,a8,wB,true⟩ uZ Tryz.f26 (oj Tryz.f26) false (.one (.sl ny))=λa k=>cA a k:=by kernel_rfl
theorem zw:oC Tryz.prog 26 uY:=by
 have h:=qa (ann:=uZ) (agg:=false) (cs:=(.one (.sl ny))) Il rG Tryz.func26 (by kernel_rfl) (by kernel_rfl:Tryz.f26.body=some (oj Tryz.f26));rw[zv]at h;exact h
def yE:List (FuncId×q9):=(26,uY)::wB
theorem Im:∀f M,mG yE f=some M->oC Tryz.prog f M:=pj FX zw
theorem Io:p5 Tryz.prog ⟨tis,a8,yE,true⟩:=ah.trees Im
def qS (p0:nh) (i1:Int) (a2:Int) (a3:nM):Option Bool :=
 (dZ p0 1048576).bind λt26 =>
 cond (decide (t26<0))
 (some true)
 ((ed a3 t26).bind λt31 =>
 cond (decide (t31<0))
 (some true)
 ((aJ p0).bind λt36 =>
 (aK a3).bind λt40 =>
 (cU t36 i1 a2 t40).bind λt41 =>
 (aJ p0).bind λt46 =>
 (aK a3).bind λt48 =>
 (bX t46 i1 a2 t48).bind λt54 =>
 (aQ t54.1 t41.1).bind λt60 =>
 (cond (!t60)
 (some true)
 ((ci t54.2.1 t41.2.1).bind λt65 =>
 some (!t65))).bind λt67 =>
 (cond t67 (some true) (some (t54.2.2 != t41.2.2))).bind λt72 =>
 cond t72
 (some false)
 ((aJ p0).bind λt75 =>
 (aQ t46 t75).bind λt76 =>
 cond (!t76)
 (some false)
 ((aK a3).bind λt80 =>
 (cg t48 t80).bind λt81 =>
 cond (!t81)
 (some false)
 ((aR t46 1).bind λz =>
 (cz t48 z.2).bind λz_1 =>
 (cond (decide (z_1.2<0))
 (some true)
 ((aQ t54.1 t41.1).bind λt94 =>
 some (!t94))).bind λt96 =>
 (cond t96
 (some true)
 ((ci t54.2.1 t41.2.1).bind λt100 =>
 some (!t100))).bind λt102 =>
 (cond t102 (some true) (some (t54.2.2 != t41.2.2))).bind λt107 =>
 cond t107
 (some false)
 ((aR t54.1 1).bind λz_2 =>
 (cA t54.2.1 z_2.2).bind λz_3 =>
 (ck z_2.1 1).bind λt116 =>
 cond (decide (t116<0))
 (some false)
 ((cm z_3.1 t116).bind λt121 =>
 cond (decide (t121<0))
 (some false)
 (cond (t121 != z_3.2)
 (some false)
 ((aJ p0).bind λt129 =>
 (aK a3).bind λt133 =>
 (bX t129 i1 a2 t133).bind λt134 =>
 (aQ t134.1 t41.1).bind λt140 =>
 (cond (!t140)
 (some true)
 ((ci t134.2.1 t41.2.1).bind λt145 =>
 some (!t145))).bind λt147 =>
 (cond t147 (some true) (some (t134.2.2 != t41.2.2))).bind λt152 =>
 cond t152
 (some false)
 ((ck z_2.1 1).bind λt155 =>
 cond (decide (t155<0))
 (some false)
 ((cm z_3.1 t155).bind λt160 =>
 cond (decide (t160<0)) (some false) (cond (t160 != z_3.2) (some false) (some true)))))))))))))
def xt:Fn:=⟨[.val true oi false,.val false mM false,.val false mM false,.val true o8 false],[.val false nO (some true)],λa=>qS a.1 a.2.1 a.2.2.1 a.2.2.2⟩
theorem xu:xI ⟨tis,a8,yE,true⟩ [] Tryz.f4 (oj Tryz.f4) [.val true oi false,.val false mM false,.val false mM false,.val true o8 false] [.val false nO (some true)]=λa=>qS a.1 a.2.1 a.2.2.1 a.2.2.2:=by kernel_rfl
theorem m_laws_FnExactFlow:tK Tryz.prog 4 xt:=by
 have h:=BB (ann:=[]) (ps:=[.val true oi false,.val false mM false,.val false mM false,.val true o8 false]) (rs:=[.val false nO (some true)]) Io rG Tryz.func4 (by kernel_rfl) (by kernel_rfl:Tryz.f4.body=some (oj Tryz.f4));rw[xu]at h;exact h
end
end Go.V.W

