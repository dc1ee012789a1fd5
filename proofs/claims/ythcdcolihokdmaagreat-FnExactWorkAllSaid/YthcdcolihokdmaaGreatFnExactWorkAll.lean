/- The law FnExactWorkAll: part of the proof that for every input it returns true. No condition. -/
import Derived.Test.YthcdcolihokdmaaGreatFnExactWorkAllP1
set_option linter.unusedVariables false
set_option linter.unusedSimpArgs false
namespace Go.V.W
open Go.Proofs
noncomputable section
def iT:List (FuncId×Fn):=(111,AN)::iU
theorem og:wK Tryz.prog ⟨tis,iT,[],false⟩:=iV.cons HJ
def oh (a0:List Int) (b1:List Int) (i5:Int):Option (Int⊕(Unit⊕Bool)) :=
 cond (decide (i5<(a0.length:Int)))
 ((at? a0 i5).bind λx19 =>
 (at? b1 i5).bind λx23 =>
 cond (x19 != x23) (some (.inr (.inr false))) (some (.inl (tR (i5+1)))))
 (some (.inr (.inl ())))
def gM (a0:List Int) (b1:List Int):Option Bool :=
 cond ((a0.length:Int) != (b1.length:Int))
 (some false)
 ((loop (λz=>oh a0 b1 z) 0).bind (Sum.elim (λd =>
 some true) (λr=>some r)))
def iW:FL:=(94,⟨[.val false vh false,.val false vh false],[.val false uF (some true)],λa=>gM a.1 a.2⟩)::iT
theorem oi:Gd iW:=tZ og 94 Tryz.f94 [(0,⟨⟨[(5,false,[dI])],[]⟩,
 ⟨[],[]⟩,some ⟨[(4,false,[dB])],[]⟩⟩)] Tryz.func94
def eW (a0:wN) (b1:wN):Option Bool :=
 cond (a0.1 != b1.1)
 (some false)
 (cond (a0.2.1 != b1.2.1)
 (some false)
 (cond (!(a0.2.2.1==b1.2.2.1))
 (some false)
 ((dp a0.2.2.2 b1.2.2.2).bind λt24 =>
 cond (!t24) (some false) (some true))))
def iX:FL:=(370,⟨[.val true xU false,.val true xU false],[.val false uF (some true)],λa=>eW a.1 a.2⟩)::iW
theorem oj:Gd iX:=tZ oi 370 Tryz.f370 [] Tryz.func370
def dq (a0:tS) (b1:tS):Option Bool :=
 (dp a0.1 b1.1).bind λt9 =>
 cond (!t9)
 (some false)
 ((eW a0.2 b1.2).bind λt15 =>
 cond (!t15) (some false) (some true))
def iY:FL:=(343,⟨[.val true u9 false,.val true u9 false],[.val false uF (some true)],λa=>dq a.1 a.2⟩)::iX
theorem om:Gd iY:=tZ oj 343 Tryz.f343 [] Tryz.func343
def oo (a0:List tS) (b1:List tS) (i5:Int):Option (Int⊕(Unit⊕Bool)) :=
 cond (decide (i5<(a0.length:Int)))
 ((at? a0 i5).bind λx19 =>
 (at? b1 i5).bind λx23 =>
 (dq x19 x23).bind λt25 =>
 cond (!t25) (some (.inr (.inr false))) (some (.inl (tR (i5+1)))))
 (some (.inr (.inl ())))
def gN (a0:List tS) (b1:List tS):Option Bool :=
 cond ((a0.length:Int) != (b1.length:Int))
 (some false)
 ((loop (λz=>oo a0 b1 z) 0).bind (Sum.elim (λd =>
 some true) (λr=>some r)))
def iZ:FL:=(288,⟨[.val false (.one (.sl u9)) false,.val false (.one (.sl u9)) false],[.val false uF (some true)],λa=>gN a.1 a.2⟩)::iY
theorem oq:Gd iZ:=tZ om 288 Tryz.f288 [(0,⟨⟨[(5,false,[dI])],[]⟩,
 ⟨[],[]⟩,some ⟨[(4,false,[dB])],[]⟩⟩)] Tryz.func288
def dt (a0:uq) (b1:uq):Option Bool :=
 cond (a0.1 != b1.1)
 (some false)
 (cond (a0.2.1 != b1.2.1)
 (some false)
 (cond (a0.2.2.1 != b1.2.2.1)
 (some false)
 (cond (a0.2.2.2.1 != b1.2.2.2.1)
 (some false)
 ((gN a0.2.2.2.2 b1.2.2.2.2).bind λt29 =>
 cond (!t29) (some false) (some true)))))
def ja:FL:=(192,⟨[.val true vY false,.val true vY false],[.val false uF (some true)],λa=>dt a.1 a.2⟩)::iZ
theorem ot:Gd ja:=tZ oq 192 Tryz.f192 [] Tryz.func192
def du (a0:ut) (b1:ut):Option Bool :=
 cond (a0.1 != b1.1)
 (some false)
 ((gM a0.2.1 b1.2.1).bind λt14 =>
 cond (!t14)
 (some false)
 (cond (a0.2.2.1 != b1.2.2.1)
 (some false)
 ((dt (a0.2.2.2.1,a0.2.2.2.2.1,a0.2.2.2.2.2.1,a0.2.2.2.2.2.2.1,a0.2.2.2.2.2.2.2.1) (b1.2.2.2.1,b1.2.2.2.2.1,b1.2.2.2.2.2.1,b1.2.2.2.2.2.2.1,b1.2.2.2.2.2.2.2.1)).bind λt25 =>
 cond (!t25)
 (some false)
 ((dv (a0.2.2.2.2.2.2.2.2.1,a0.2.2.2.2.2.2.2.2.2.1,a0.2.2.2.2.2.2.2.2.2.2.1,a0.2.2.2.2.2.2.2.2.2.2.2.1,a0.2.2.2.2.2.2.2.2.2.2.2.2.1,a0.2.2.2.2.2.2.2.2.2.2.2.2.2.1,a0.2.2.2.2.2.2.2.2.2.2.2.2.2.2.1,a0.2.2.2.2.2.2.2.2.2.2.2.2.2.2.2.1,a0.2.2.2.2.2.2.2.2.2.2.2.2.2.2.2.2.1,a0.2.2.2.2.2.2.2.2.2.2.2.2.2.2.2.2.2.1,a0.2.2.2.2.2.2.2.2.2.2.2.2.2.2.2.2.2.2.1) (b1.2.2.2.2.2.2.2.2.1,b1.2.2.2.2.2.2.2.2.2.1,b1.2.2.2.2.2.2.2.2.2.2.1,b1.2.2.2.2.2.2.2.2.2.2.2.1,b1.2.2.2.2.2.2.2.2.2.2.2.2.1,b1.2.2.2.2.2.2.2.2.2.2.2.2.2.1,b1.2.2.2.2.2.2.2.2.2.2.2.2.2.2.1,b1.2.2.2.2.2.2.2.2.2.2.2.2.2.2.2.1,b1.2.2.2.2.2.2.2.2.2.2.2.2.2.2.2.2.1,b1.2.2.2.2.2.2.2.2.2.2.2.2.2.2.2.2.2.1,b1.2.2.2.2.2.2.2.2.2.2.2.2.2.2.2.2.2.2.1)).bind λt31 =>
 cond (!t31)
 (some false)
 (cond (a0.2.2.2.2.2.2.2.2.2.2.2.2.2.2.2.2.2.2.2.1 != b1.2.2.2.2.2.2.2.2.2.2.2.2.2.2.2.2.2.2.2.1)
 (some false)
 (cond (a0.2.2.2.2.2.2.2.2.2.2.2.2.2.2.2.2.2.2.2.2 != b1.2.2.2.2.2.2.2.2.2.2.2.2.2.2.2.2.2.2.2.2) (some false) (some true)))))))
def jb:FL:=(191,⟨[.val true vJ false,.val true vJ false],[.val false uF (some true)],λa=>du a.1 a.2⟩)::ja
theorem ou:Gd jb:=tZ ot 191 Tryz.f191 [] Tryz.func191
def ov (a0:List ut) (b1:List ut) (i5:Int):Option (Int⊕(Unit⊕Bool)) :=
 cond (decide (i5<(a0.length:Int)))
 ((at? a0 i5).bind λx19 =>
 (at? b1 i5).bind λx23 =>
 (du x19 x23).bind λt25 =>
 cond (!t25) (some (.inr (.inr false))) (some (.inl (tR (i5+1)))))
 (some (.inr (.inl ())))
def gO (a0:List ut) (b1:List ut):Option Bool :=
 cond ((a0.length:Int) != (b1.length:Int))
 (some false)
 ((loop (λz=>ov a0 b1 z) 0).bind (Sum.elim (λd =>
 some true) (λr=>some r)))
def jc:FL:=(112,⟨[.val false (.one (.sl vJ)) false,.val false (.one (.sl vJ)) false],[.val false uF (some true)],λa=>gO a.1 a.2⟩)::jb
theorem ow:Gd jc:=tZ ou 112 Tryz.f112 [(0,⟨⟨[(5,false,[dI])],[]⟩,
 ⟨[],[]⟩,some ⟨[(4,false,[dB])],[]⟩⟩)] Tryz.func112
def bK (a0:ue) (b1:ue):Option Bool :=
 (dv (a0.1,a0.2.1,a0.2.2.1,a0.2.2.2.1,a0.2.2.2.2.1,a0.2.2.2.2.2.1,a0.2.2.2.2.2.2.1,a0.2.2.2.2.2.2.2.1,a0.2.2.2.2.2.2.2.2.1,a0.2.2.2.2.2.2.2.2.2.1,a0.2.2.2.2.2.2.2.2.2.2.1) (b1.1,b1.2.1,b1.2.2.1,b1.2.2.2.1,b1.2.2.2.2.1,b1.2.2.2.2.2.1,b1.2.2.2.2.2.2.1,b1.2.2.2.2.2.2.2.1,b1.2.2.2.2.2.2.2.2.1,b1.2.2.2.2.2.2.2.2.2.1,b1.2.2.2.2.2.2.2.2.2.2.1)).bind λt9 =>
 cond (!t9)
 (some false)
 (cond (!(a0.2.2.2.2.2.2.2.2.2.2.2.1==b1.2.2.2.2.2.2.2.2.2.2.2.1))
 (some false)
 ((gO a0.2.2.2.2.2.2.2.2.2.2.2.2.1 b1.2.2.2.2.2.2.2.2.2.2.2.2.1).bind λt20 =>
 cond (!t20)
 (some false)
 (cond (a0.2.2.2.2.2.2.2.2.2.2.2.2.2.1 != b1.2.2.2.2.2.2.2.2.2.2.2.2.2.1)
 (some false)
 (cond (a0.2.2.2.2.2.2.2.2.2.2.2.2.2.2 != b1.2.2.2.2.2.2.2.2.2.2.2.2.2.2) (some false) (some true)))))
def jd:FL:=(33,⟨[.val true uP false,.val true uP false],[.val false uF (some true)],λa=>bK a.1 a.2⟩)::jc
theorem ox:Gd jd:=tZ ow 33 Tryz.f33 [] Tryz.func33
def dw (a0:uY) (b1:uY):Option Bool :=
 cond (a0.1 != b1.1)
 (some false)
 ((dt a0.2 b1.2).bind λt14 =>
 cond (!t14) (some false) (some true))
def je:FL:=(113,⟨[.val true wU false,.val true wU false],[.val false uF (some true)],λa=>dw a.1 a.2⟩)::jd
theorem oy:Gd je:=tZ ox 113 Tryz.f113 [] Tryz.func113
def oz (a0:List uY) (b1:List uY) (i5:Int):Option (Int⊕(Unit⊕Bool)) :=
 cond (decide (i5<(a0.length:Int)))
 ((at? a0 i5).bind λx19 =>
 (at? b1 i5).bind λx23 =>
 (dw x19 x23).bind λt25 =>
 cond (!t25) (some (.inr (.inr false))) (some (.inl (tR (i5+1)))))
 (some (.inr (.inl ())))
def dx (a0:List uY) (b1:List uY):Option Bool :=
 cond ((a0.length:Int) != (b1.length:Int))
 (some false)
 ((loop (λz=>oz a0 b1 z) 0).bind (Sum.elim (λd =>
 some true) (λr=>some r)))
def jf:FL:=(34,⟨[.val false (.one (.sl wU)) false,.val false (.one (.sl wU)) false],[.val false uF (some true)],λa=>dx a.1 a.2⟩)::je
theorem oA:Gd jf:=tZ oy 34 Tryz.f34 [(0,⟨⟨[(5,false,[dI])],[]⟩,
 ⟨[],[]⟩,some ⟨[(4,false,[dB])],[]⟩⟩)] Tryz.func34
def eX (k0_1:Int) (out3:List UInt8):Option ((Int×List UInt8)⊕(List UInt8)) :=
 cond (decide (k0_1>0))
 ((Jk (uX [IntKind.u8.wrap (tR (48+(k0_1.tmod 10)))]) out3).bind λt15 =>
 some (.inl (tR (k0_1.tdiv 10),t15)))
 (some (.inr out3))
def bL (k0:Int):Option (List UInt8) :=
 cond (decide (k0<=0))
 (some [109,48])
 ((loop (λz=>eX z.1 z.2) (k0,[])).bind λd =>
 (Jk [109] d).bind λt19 =>
 some t19)
def jg:FL:=(163,⟨[.val false tW false],[.val false Pr (some true)],λa=>bL a⟩)::jf
theorem oB:Gd jg:=tZ oA 163 Tryz.f163 [(0,⟨⟨[(0,false,[dI]),(3,false,[dS])],[]⟩,
 ⟨[(3,false,[dS])],[]⟩,none⟩)] Tryz.func163
def eY (p0:List Pt) (i1_1:Int) (t5:Int):Option ((Int×Int)⊕(Int⊕Int)) :=
 cond (decide (t5<(p0.length:Int)))
 ((at? p0 t5).bind λx14 =>
 cond (!(x14.1==((i1_1.tmod 3)==0)))
 (some (.inr (.inr (-1))))
 ((at? p0 t5).bind λx25 =>
 cond (x25.2.1 != (tR (i1_1+1)))
 (some (.inr (.inr (-1))))
 (let i1_2:=tR ((tR (i1_1+1))+1)
 (at? p0 t5).bind λx34 =>
 cond (!(x34.2.2.1==((i1_2.tmod 3)==0)))
 (some (.inr (.inr (-1))))
 ((at? p0 t5).bind λx45 =>
 cond (x45.2.2.2.1 != (tR (i1_2+1)))
 (some (.inr (.inr (-1))))
 (let i1_3:=tR ((tR (i1_2+1))+1)
 (at? p0 t5).bind λx55 =>
 cond (x55.2.2.2.2.1 != i1_3)
 (some (.inr (.inr (-1))))
 ((at? p0 t5).bind λx65 =>
 cond (x65.2.2.2.2.2.1 != (tR (i1_3+1)))
 (some (.inr (.inr (-1))))
 (let i1_4:=tR ((tR (i1_3+1))+1)
 (at? p0 t5).bind λx75 =>
 cond (x75.2.2.2.2.2.2.1 != i1_4)
 (some (.inr (.inr (-1))))
 ((at? p0 t5).bind λx85 =>
 cond (x85.2.2.2.2.2.2.2 != (tR (i1_4+1)))
 (some (.inr (.inr (-1))))
 (let i1_5:=tR ((tR (i1_4+1))+1)
 some (.inl (i1_5,tR (t5+1))))))))))))
 (some (.inr (.inl i1_1)))
def dy (p0:List Pt) (i1:Int):Option Int :=
 (loop (λz=>eY p0 z.1 z.2) (i1,0)).bind (Sum.elim (λd =>
 some d) (λr=>some r))
def jh:FL:=(168,⟨[.val false (.one (.sl vP)) false,.val false tW false],[.val false tW (some true)],λa=>dy a.1 a.2⟩)::jg
theorem oC:Gd jh:=tZ oB 168 Tryz.f168 [(0,⟨⟨[(1,false,[dI]),(5,false,[dI])],[]⟩,
 ⟨[(1,false,[dI])],[]⟩,some ⟨[(4,false,[dI])],[]⟩⟩)] Tryz.func168
def eZ (a0:List u0) (k1_1:Int) (i5:Int):Option ((Int×Int)⊕(Int⊕Int)) :=
 cond (decide (i5<(a0.length:Int)))
 ((at? a0 i5).bind λx14 =>
 cond (x14.1 != k1_1)
 (some (.inr (.inr (-1))))
 ((at? a0 i5).bind λx23 =>
 cond (x23.2.1 != (tR (k1_1+1)))
 (some (.inr (.inr (-1))))
 (let k1_2:=tR ((tR (k1_1+1))+1)
 (at? a0 i5).bind λx32 =>
 cond (x32.2.2.1 != k1_2)
 (some (.inr (.inr (-1))))
 ((at? a0 i5).bind λx41 =>
 cond (x41.2.2.2.1 != (tR (k1_2+1)))
 (some (.inr (.inr (-1))))
 (let k1_3:=tR ((tR (k1_2+1))+1)
 (at? a0 i5).bind λx50 =>
 cond (!(x50.2.2.2.2==((k1_3.tmod 3)==0)))
 (some (.inr (.inr (-1))))
 (some (.inl (tR (k1_3+1),tR (i5+1)))))))))
 (some (.inr (.inl k1_1)))
def dz (a0:List u0) (k1:Int):Option Int :=
 (loop (λz=>eZ a0 z.1 z.2) (k1,0)).bind (Sum.elim (λd =>
 some d) (λr=>some r))
def ji:FL:=(169,⟨[.val false (.one (.sl ur)) false,.val false tW false],[.val false tW (some true)],λa=>dz a.1 a.2⟩)::jh
theorem oD:Gd ji:=tZ oC 169 Tryz.f169 [(0,⟨⟨[(1,false,[dI]),(5,false,[dI])],[]⟩,
 ⟨[(1,false,[dI])],[]⟩,some ⟨[(4,false,[dI])],[]⟩⟩)] Tryz.func169
def f0 (a0:List ub) (k1_1:Int) (i5:Int):Option ((Int×Int)⊕(Int⊕Int)) :=
 cond (decide (i5<(a0.length:Int)))
 ((at? a0 i5).bind λx14 =>
 cond (x14.1 != k1_1)
 (some (.inr (.inr (-1))))
 ((at? a0 i5).bind λx23 =>
 cond (x23.2.1 != (tR (k1_1+1)))
 (some (.inr (.inr (-1))))
 (let k1_2:=tR ((tR (k1_1+1))+1)
 (at? a0 i5).bind λx32 =>
 cond (x32.2.2 != k1_2)
 (some (.inr (.inr (-1))))
 (some (.inl (tR (k1_2+1),tR (i5+1)))))))
 (some (.inr (.inl k1_1)))
def dA (a0:List ub) (k1:Int):Option Int :=
 (loop (λz=>f0 a0 z.1 z.2) (k1,0)).bind (Sum.elim (λd =>
 some d) (λr=>some r))
def jj:FL:=(170,⟨[.val false (.one (.sl uQ)) false,.val false tW false],[.val false tW (some true)],λa=>dA a.1 a.2⟩)::ji
theorem oE:Gd jj:=tZ oD 170 Tryz.f170 [(0,⟨⟨[(1,false,[dI]),(5,false,[dI])],[]⟩,
 ⟨[(1,false,[dI])],[]⟩,some ⟨[(4,false,[dI])],[]⟩⟩)] Tryz.func170
def f8 (a0:List Int) (k1_1:Int) (i5:Int):Option ((Int×Int)⊕(Int⊕Int)) :=
 cond (decide (i5<(a0.length:Int)))
 ((at? a0 i5).bind λx14 =>
 cond (x14 != k1_1)
 (some (.inr (.inr (-1))))
 (some (.inl (tR (k1_1+1),tR (i5+1)))))
 (some (.inr (.inl k1_1)))
def bM (a0:List Int) (k1:Int):Option Int :=
 (loop (λz=>f8 a0 z.1 z.2) (k1,0)).bind (Sum.elim (λd =>
 some d) (λr=>some r))
def jk:FL:=(171,⟨[.val false vW false,.val false tW false],[.val false tW (some true)],λa=>bM a.1 a.2⟩)::jj
theorem oF:Gd jk:=tZ oE 171 Tryz.f171 [(0,⟨⟨[(1,false,[dI]),(5,false,[dI])],[]⟩,
 ⟨[(1,false,[dI])],[]⟩,some ⟨[(4,false,[dI])],[]⟩⟩)] Tryz.func171
def gP (a0:vi) (k1:Int):Option Int :=
 (dA a0.1 k1).bind λt8 =>
 cond (decide (t8<0))
 (some (-1))
 ((bM a0.2 t8).bind λt14 =>
 cond (decide (t14<0)) (some (-1)) (some t14))
def jl:FL:=(194,⟨[.val true wB false,.val false tW false],[.val false tW (some true)],λa=>gP a.1 a.2⟩)::jk
theorem oG:Gd jl:=tZ oF 194 Tryz.f194 [] Tryz.func194
def gQ (a0:tQ) (k1:Int):Option Int :=
 (dy a0.2.2.1 k1).bind λt8 =>
 cond (decide (t8<0))
 (some (-1))
 ((dz a0.2.2.2.1 t8).bind λt14 =>
 cond (decide (t14<0))
 (some (-1))
 ((gP (a0.2.2.2.2.1,a0.2.2.2.2.2.1) t14).bind λt20 =>
 cond (decide (t20<0)) (some (-1)) (some t20)))
def jm:FL:=(117,⟨[.val true uf false,.val false tW false],[.val false tW (some true)],λa=>gQ a.1 a.2⟩)::jl
theorem oH:Gd jm:=tZ oG 117 Tryz.f117 [] Tryz.func117
def f9 (a0:List Int) (k1_1:Int) (i5:Int):Option ((Int×Int)⊕(Int⊕Int)) :=
 cond (decide (i5<(a0.length:Int)))
 ((at? a0 i5).bind λx14 =>
 cond (x14 != (IntKind.u8.wrap (k1_1)))
 (some (.inr (.inr (-1))))
 (some (.inl (tR (k1_1+1),tR (i5+1)))))
 (some (.inr (.inl k1_1)))
def fa (a0:List Int) (k1:Int):Option Int :=
 (loop (λz=>f9 a0 z.1 z.2) (k1,0)).bind (Sum.elim (λd =>
 some d) (λr=>some r))
def jn:FL:=(102,⟨[.val false vh false,.val false tW false],[.val false tW (some true)],λa=>fa a.1 a.2⟩)::jm
theorem oI:Gd jn:=tZ oH 102 Tryz.f102 [(0,⟨⟨[(1,false,[dI]),(5,false,[dI])],[]⟩,
 ⟨[(1,false,[dI])],[]⟩,some ⟨[(4,false,[dI])],[]⟩⟩)] Tryz.func102
def fb (a0:List tS) (k1_1:Int) (i5:Int):Option ((Int×Int)⊕(Int⊕Int)) :=
 cond (decide (i5<(a0.length:Int)))
 ((at? a0 i5).bind λx14 =>
 (bM x14.1 k1_1).bind λt18 =>
 cond (decide (t18<0))
 (some (.inr (.inr (-1))))
 ((at? a0 i5).bind λx23 =>
 cond (x23.2.1 != t18)
 (some (.inr (.inr (-1))))
 ((at? a0 i5).bind λx33 =>
 cond (x33.2.2.1 != (tR (t18+1)))
 (some (.inr (.inr (-1))))
 (let k1_2:=tR ((tR (t18+1))+1)
 (at? a0 i5).bind λx43 =>
 (bL k1_2).bind λt48 =>
 cond (!(x43.2.2.2.1==t48))
 (some (.inr (.inr (-1))))
 ((at? a0 i5).bind λx54 =>
 (bM x54.2.2.2.2 (tR (k1_2+1))).bind λt59 =>
 cond (decide (t59<0)) (some (.inr (.inr (-1)))) (some (.inl (t59,tR (i5+1)))))))))
 (some (.inr (.inl k1_1)))
def dC (a0:List tS) (k1:Int):Option Int :=
 (loop (λz=>fb a0 z.1 z.2) (k1,0)).bind (Sum.elim (λd =>
 some d) (λr=>some r))
def jo:FL:=(119,⟨[.val false (.one (.sl u9)) false,.val false tW false],[.val false tW (some true)],λa=>dC a.1 a.2⟩)::jn
theorem oJ:Gd jo:=tZ oI 119 Tryz.f119 [(0,⟨⟨[(1,false,[dI]),(5,false,[dI])],[]⟩,
 ⟨[(1,false,[dI])],[]⟩,some ⟨[(4,false,[dI])],[]⟩⟩)] Tryz.func119
def fe (p0:List ut) (i1_1:Int) (t5:Int):Option ((Int×Int)⊕(Int⊕Int)) :=
 cond (decide (t5<(p0.length:Int)))
 ((at? p0 t5).bind λx14 =>
 cond (x14.1 != i1_1)
 (some (.inr (.inr (-1))))
 ((at? p0 t5).bind λx23 =>
 (fa x23.2.1 (tR (i1_1+1))).bind λt27 =>
 cond (decide (t27<0))
 (some (.inr (.inr (-1))))
 ((at? p0 t5).bind λx32 =>
 cond (x32.2.2.1 != t27)
 (some (.inr (.inr (-1))))
 ((at? p0 t5).bind λx41 =>
 cond (x41.2.2.2.1 != (tR (t27+1)))
 (some (.inr (.inr (-1))))
 (let i1_2:=tR ((tR (t27+1))+1)
 (at? p0 t5).bind λx51 =>
 cond (x51.2.2.2.2.1 != i1_2)
 (some (.inr (.inr (-1))))
 ((at? p0 t5).bind λx61 =>
 cond (x61.2.2.2.2.2.1 != (tR (i1_2+1)))
 (some (.inr (.inr (-1))))
 (let i1_3:=tR ((tR (i1_2+1))+1)
 (at? p0 t5).bind λx71 =>
 cond (x71.2.2.2.2.2.2.1 != i1_3)
 (some (.inr (.inr (-1))))
 ((at? p0 t5).bind λx81 =>
 (dC x81.2.2.2.2.2.2.2.1 (tR (i1_3+1))).bind λt86 =>
 cond (decide (t86<0))
 (some (.inr (.inr (-1))))
 ((at? p0 t5).bind λx91 =>
 cond (x91.2.2.2.2.2.2.2.2.1 != t86)
 (some (.inr (.inr (-1))))
 ((at? p0 t5).bind λx101 =>
 (bL (tR (t86+1))).bind λt106 =>
 cond (!(x101.2.2.2.2.2.2.2.2.2.1==t106))
 (some (.inr (.inr (-1))))
 (let i1_4:=tR ((tR (t86+1))+1)
 (at? p0 t5).bind λx112 =>
 (dy x112.2.2.2.2.2.2.2.2.2.2.1 i1_4).bind λt117 =>
 cond (decide (t117<0))
 (some (.inr (.inr (-1))))
 ((at? p0 t5).bind λx122 =>
 (dz x122.2.2.2.2.2.2.2.2.2.2.2.1 t117).bind λt127 =>
 cond (decide (t127<0))
 (some (.inr (.inr (-1))))
 ((at? p0 t5).bind λx132 =>
 (dA x132.2.2.2.2.2.2.2.2.2.2.2.2.1 t127).bind λt138 =>
 cond (decide (t138<0))
 (some (.inr (.inr (-1))))
 ((at? p0 t5).bind λx143 =>
 (bM x143.2.2.2.2.2.2.2.2.2.2.2.2.2.1 t138).bind λt149 =>
 cond (decide (t149<0))
 (some (.inr (.inr (-1))))
 ((at? p0 t5).bind λx154 =>
 cond (x154.2.2.2.2.2.2.2.2.2.2.2.2.2.2.1 != t149)
 (some (.inr (.inr (-1))))
 ((at? p0 t5).bind λx164 =>
 cond (x164.2.2.2.2.2.2.2.2.2.2.2.2.2.2.2.1 != (tR (t149+1)))
 (some (.inr (.inr (-1))))
 (let i1_5:=tR ((tR (t149+1))+1)
 (at? p0 t5).bind λx174 =>
 cond (x174.2.2.2.2.2.2.2.2.2.2.2.2.2.2.2.2.1 != i1_5)
 (some (.inr (.inr (-1))))
 ((at? p0 t5).bind λx184 =>
 cond (x184.2.2.2.2.2.2.2.2.2.2.2.2.2.2.2.2.2.1 != (tR (i1_5+1)))
 (some (.inr (.inr (-1))))
 (let i1_6:=tR ((tR (i1_5+1))+1)
 (at? p0 t5).bind λx194 =>
 cond (x194.2.2.2.2.2.2.2.2.2.2.2.2.2.2.2.2.2.2.1 != i1_6)
 (some (.inr (.inr (-1))))
 ((at? p0 t5).bind λx204 =>
 cond (x204.2.2.2.2.2.2.2.2.2.2.2.2.2.2.2.2.2.2.2.1 != (tR (i1_6+1)))
 (some (.inr (.inr (-1))))
 (let i1_7:=tR ((tR (i1_6+1))+1)
 (at? p0 t5).bind λx213 =>
 cond (x213.2.2.2.2.2.2.2.2.2.2.2.2.2.2.2.2.2.2.2.2 != i1_7)
 (some (.inr (.inr (-1))))
 (some (.inl (tR (i1_7+1),tR (t5+1)))))))))))))))))))))))))
 (some (.inr (.inl i1_1)))
def ff (p0:List ut) (i1:Int):Option Int :=
 (loop (λz=>fe p0 z.1 z.2) (i1,0)).bind (Sum.elim (λd =>
 some d) (λr=>some r))
def jp:FL:=(118,⟨[.val false (.one (.sl vJ)) false,.val false tW false],[.val false tW (some true)],λa=>ff a.1 a.2⟩)::jo
theorem oK:Gd jp:=tZ oJ 118 Tryz.f118 [(0,⟨⟨[(1,false,[dI]),(5,false,[dI])],[]⟩,
 ⟨[(1,false,[dI])],[]⟩,some ⟨[(4,false,[dI])],[]⟩⟩)] Tryz.func118
def dD (a0:ue) (k1:Int):Option Int :=
 (gQ (a0.1,a0.2.1,a0.2.2.1,a0.2.2.2.1,a0.2.2.2.2.1,a0.2.2.2.2.2.1,a0.2.2.2.2.2.2.1,a0.2.2.2.2.2.2.2.1,a0.2.2.2.2.2.2.2.2.1,a0.2.2.2.2.2.2.2.2.2.1,a0.2.2.2.2.2.2.2.2.2.2.1) k1).bind λt8 =>
 cond (decide (t8<0))
 (some (-1))
 ((ff a0.2.2.2.2.2.2.2.2.2.2.2.2.1 t8).bind λt14 =>
 cond (decide (t14<0)) (some (-1)) (some t14))
def jq:FL:=(37,⟨[.val true uP false,.val false tW false],[.val false tW (some true)],λa=>dD a.1 a.2⟩)::jp
theorem oL:Gd jq:=tZ oK 37 Tryz.f37 [] Tryz.func37
def fg (p0:List uY) (i1_1:Int) (t5:Int):Option ((Int×Int)⊕(Int⊕Int)) :=
 cond (decide (t5<(p0.length:Int)))
 ((at? p0 t5).bind λx14 =>
 cond (x14.1 != i1_1)
 (some (.inr (.inr (-1))))
 ((at? p0 t5).bind λx23 =>
 cond (x23.2.1 != (tR (i1_1+1)))
 (some (.inr (.inr (-1))))
 (let i1_2:=tR ((tR (i1_1+1))+1)
 (at? p0 t5).bind λx33 =>
 cond (x33.2.2.1 != i1_2)
 (some (.inr (.inr (-1))))
 ((at? p0 t5).bind λx43 =>
 cond (x43.2.2.2.1 != (tR (i1_2+1)))
 (some (.inr (.inr (-1))))
 (let i1_3:=tR ((tR (i1_2+1))+1)
 (at? p0 t5).bind λx53 =>
 cond (x53.2.2.2.2.1 != i1_3)
 (some (.inr (.inr (-1))))
 ((at? p0 t5).bind λx63 =>
 (dC x63.2.2.2.2.2 (tR (i1_3+1))).bind λt68 =>
 cond (decide (t68<0)) (some (.inr (.inr (-1)))) (some (.inl (t68,tR (t5+1))))))))))
 (some (.inr (.inl i1_1)))
def dE (p0:List uY) (i1:Int):Option Int :=
 (loop (λz=>fg p0 z.1 z.2) (i1,0)).bind (Sum.elim (λd =>
 some d) (λr=>some r))
def jr:FL:=(38,⟨[.val false (.one (.sl wU)) false,.val false tW false],[.val false tW (some true)],λa=>dE a.1 a.2⟩)::jq
theorem oM:Gd jr:=tZ oL 38 Tryz.f38 [(0,⟨⟨[(1,false,[dI]),(5,false,[dI])],[]⟩,
 ⟨[(1,false,[dI])],[]⟩,some ⟨[(4,false,[dI])],[]⟩⟩)] Tryz.func38
def fh (l0:List u0):Option (List u0) :=
 (uv ([]:List u0) l0).bind λzs5 =>
 some zs5
def js:FL:=(264,⟨[.val false (.one (.sl ur)) false],[.val false (.one (.sl ur)) (some true)],λa=>fh a⟩)::jr
theorem oN:Gd js:=tZ oM 264 Tryz.f264 [] Tryz.func264
def fi (v0:vi):Option vi :=
 (uv ([]:List ub) v0.1).bind λzs6 =>
 (uv ([]:List Int) v0.2).bind λzs10 =>
 some (zs6,zs10)
def jt:FL:=(265,⟨[.val true wB false],[.val true wB (some true)],λa=>fi a⟩)::js
theorem oO:Gd jt:=tZ oN 265 Tryz.f265 [] Tryz.func265
def ak (b0:tQ):Option tQ :=
 (uv ([]:List Pt) b0.2.2.1).bind λzs8 =>
 (fh b0.2.2.2.1).bind λt12 =>
 (fi (b0.2.2.2.2.1,b0.2.2.2.2.2.1)).bind λt16 =>
 some (b0.1,b0.2.1,zs8,t12,t16.1,t16.2,b0.2.2.2.2.2.2.1,b0.2.2.2.2.2.2.2.1,b0.2.2.2.2.2.2.2.2.1,b0.2.2.2.2.2.2.2.2.2.1,b0.2.2.2.2.2.2.2.2.2.2)
def ju:FL:=(176,⟨[.val true uf false],[.val true uf (some true)],λa=>ak a⟩)::jt
theorem oP:Gd ju:=tZ oO 176 Tryz.f176 [] Tryz.func176
def cq (l0:List tS) (i4:Int) (out3:List tS):Option ((Int×List tS)⊕(List tS)) :=
 cond (decide (i4<(l0.length:Int)))
 ((at? l0 i4).bind λx15 =>
 (uv ([]:List Int) x15.2.2.2.2).bind λzs21 =>
 (at? l0 i4).bind λx27 =>
 (uv ([]:List Int) x27.1).bind λzs30 =>
 (uv out3 [(zs30,x15.2.1,x15.2.2.1,x15.2.2.2.1,zs21)]).bind λzs34 =>
 some (.inl (tR (i4+1),zs34)))
 (some (.inr out3))
def bN (l0:List tS):Option (List tS) :=
 (loop (λz=>cq l0 z.1 z.2) (0,([]:List tS))).bind λd =>
 some d
def jv:FL:=(266,⟨[.val false (.one (.sl u9)) false],[.val false (.one (.sl u9)) (some true)],λa=>bN a⟩)::ju
theorem oQ:Gd jv:=tZ oP 266 Tryz.f266 [(0,⟨⟨[(3,false,[.own 1000000000]),(4,false,[dI])],[(1000000000,.root u9 true)]⟩,
 ⟨[(3,false,[.own 1000000300])],[(1000000300,.root u9 true)]⟩,none⟩)] Tryz.func266
def dG (p0:uq):Option uq :=
 (bN p0.2.2.2.2).bind λt7 =>
 some (p0.1,p0.2.1,p0.2.2.1,p0.2.2.2.1,t7)
def jw:FL:=(177,⟨[.val true vY false],[.val true vY (some true)],λa=>dG a⟩)::jv
theorem oR:Gd jw:=tZ oQ 177 Tryz.f177 [] Tryz.func177
def dH (a0:ue) (i4:Int) (b0:Int) (b1:List UInt8) (b6:Int) (b7:Int) (b8:Int) (b9:Int) (b10:Int) (b11:List UInt8) (b13:Int) (b14:Int) (b12:List ut):Option ((Int×Int×List UInt8×Int×Int×Int×Int×Int×List UInt8×Int×Int×List ut)⊕(Int×List UInt8×Int×Int×Int×Int×Int×List UInt8×Int×Int×List ut)) :=
 cond (decide (i4<(a0.2.2.2.2.2.2.2.2.2.2.2.2.1.length:Int)))
 ((at? a0.2.2.2.2.2.2.2.2.2.2.2.2.1 i4).bind λx26 =>
 (uv ([]:List Int) x26.2.1).bind λzs31 =>
 (dG (x26.2.2.2.1,x26.2.2.2.2.1,x26.2.2.2.2.2.1,x26.2.2.2.2.2.2.1,x26.2.2.2.2.2.2.2.1)).bind λt35 =>
 (ak (x26.2.2.2.2.2.2.2.2.1,x26.2.2.2.2.2.2.2.2.2.1,x26.2.2.2.2.2.2.2.2.2.2.1,x26.2.2.2.2.2.2.2.2.2.2.2.1,x26.2.2.2.2.2.2.2.2.2.2.2.2.1,x26.2.2.2.2.2.2.2.2.2.2.2.2.2.1,x26.2.2.2.2.2.2.2.2.2.2.2.2.2.2.1,x26.2.2.2.2.2.2.2.2.2.2.2.2.2.2.2.1,x26.2.2.2.2.2.2.2.2.2.2.2.2.2.2.2.2.1,x26.2.2.2.2.2.2.2.2.2.2.2.2.2.2.2.2.2.1,x26.2.2.2.2.2.2.2.2.2.2.2.2.2.2.2.2.2.2.1)).bind λt39 =>
 (uv b12 [(x26.1,zs31,x26.2.2.1,t35.1,t35.2.1,t35.2.2.1,t35.2.2.2.1,t35.2.2.2.2,t39.1,t39.2.1,t39.2.2.1,t39.2.2.2.1,t39.2.2.2.2.1,t39.2.2.2.2.2.1,t39.2.2.2.2.2.2.1,t39.2.2.2.2.2.2.2.1,t39.2.2.2.2.2.2.2.2.1,t39.2.2.2.2.2.2.2.2.2.1,t39.2.2.2.2.2.2.2.2.2.2,x26.2.2.2.2.2.2.2.2.2.2.2.2.2.2.2.2.2.2.2.1,x26.2.2.2.2.2.2.2.2.2.2.2.2.2.2.2.2.2.2.2.2)]).bind λzs45 =>
 some (.inl (tR (i4+1),b0,b1,b6,b7,b8,b9,b10,b11,b13,b14,zs45)))
 (some (.inr (b0,b1,b6,b7,b8,b9,b10,b11,b13,b14,b12)))
def fj (a0:ue):Option ue :=
 (ak (a0.1,a0.2.1,a0.2.2.1,a0.2.2.2.1,a0.2.2.2.2.1,a0.2.2.2.2.2.1,a0.2.2.2.2.2.2.1,a0.2.2.2.2.2.2.2.1,a0.2.2.2.2.2.2.2.2.1,a0.2.2.2.2.2.2.2.2.2.1,a0.2.2.2.2.2.2.2.2.2.2.1)).bind λt8 =>
 (loop (λz=>dH a0 z.1 z.2.1 z.2.2.1 z.2.2.2.1 z.2.2.2.2.1 z.2.2.2.2.2.1 z.2.2.2.2.2.2.1 z.2.2.2.2.2.2.2.1 z.2.2.2.2.2.2.2.2.1 z.2.2.2.2.2.2.2.2.2.1 z.2.2.2.2.2.2.2.2.2.2.1 z.2.2.2.2.2.2.2.2.2.2.2) (0,t8.1,t8.2.1,t8.2.2.2.2.2.2.1,t8.2.2.2.2.2.2.2.1,t8.2.2.2.2.2.2.2.2.1,t8.2.2.2.2.2.2.2.2.2.1,t8.2.2.2.2.2.2.2.2.2.2,a0.2.2.2.2.2.2.2.2.2.2.2.1,a0.2.2.2.2.2.2.2.2.2.2.2.2.2.1,a0.2.2.2.2.2.2.2.2.2.2.2.2.2.2,[])).bind λd =>
 some (d.1,d.2.1,t8.2.2.1,t8.2.2.2.1,t8.2.2.2.2.1,t8.2.2.2.2.2.1,d.2.2.1,d.2.2.2.1,d.2.2.2.2.1,d.2.2.2.2.2.1,d.2.2.2.2.2.2.1,d.2.2.2.2.2.2.2.1,d.2.2.2.2.2.2.2.2.2.2,d.2.2.2.2.2.2.2.2.1,d.2.2.2.2.2.2.2.2.2.1)
def jx:FL:=(105,⟨[.val true uP false],[.val true uP (some true)],λa=>fj a⟩)::jw
theorem oS:Gd jx:=tZ oR 105 Tryz.f105 [(0,⟨⟨[(4,false,[dI])],[(273408,.box [dI,dS,.same 265218,.same 265219,.same 265220,.same 265221,dI,dI,dI,dI,dI,dS,.own 1000000000,dI,dI]),(1000000000,.root vJ true)]⟩,
 ⟨[],[(273408,.box [dI,dS,.same 265218,.same 265219,.same 265220,.same 265221,dI,dI,dI,dI,dI,dS,.own 1000000300,dI,dI]),(1000000300,.root vJ true)]⟩,none⟩)] Tryz.func105
def ac (x0:Int) (least1:Int) (most2:Int):Option Bool :=
 (cond (decide (x0>=least1)) (some (decide (x0<=most2))) (some false)).bind λt14 =>
 some t14
def jy:FL:=(107,⟨[.val false tW false,.val false tW false,.val false tW false],[.val false uF (some true)],λa=>ac a.1 a.2.1 a.2.2⟩)::jx
theorem oT:Gd jy:=tZ oS 107 Tryz.f107 [] Tryz.func107
def dJ (v0:zz):Option Bool :=
 (ac v0.1 1 99).bind λt5 =>
 (cond t5
 ((ac v0.2.1 0 100000).bind λt9 =>
 some t9)
 (some false)).bind λt10 =>
 (cond t10
 ((ac v0.2.2.1 0 10).bind λt14 =>
 some t14)
 (some false)).bind λt15 =>
 (cond t15
 ((ac v0.2.2.2.1 1 99).bind λt19 =>
 some t19)
 (some false)).bind λt20 =>
 (cond t20
 ((ac v0.2.2.2.2 0 7).bind λt24 =>
 some t24)
 (some false)).bind λt25 =>
 some t25
def jz:FL:=(245,⟨[.val true yF false],[.val false uF (some true)],λa=>dJ a⟩)::jy
theorem oU:Gd jz:=tZ oT 245 Tryz.f245 [] Tryz.func245
def dK (p0:Pt):Option Bool :=
 (ac p0.2.1 1 1000).bind λt5 =>
 (cond (!t5)
 (some true)
 ((cond (!p0.1) (some p0.2.2.1) (some false)).bind λt14 =>
 some t14)).bind λt15 =>
 cond t15
 (some false)
 (cond (!p0.2.2.1)
 (let t2:=p0.2.2.2.1==0&&(p0.2.2.2.2.1==0&&(p0.2.2.2.2.2.1==0&&(p0.2.2.2.2.2.2.1==0&&(p0.2.2.2.2.2.2.2==0))))
 some t2)
 ((dJ p0.2.2.2).bind λt25 =>
 some t25))
def jA:FL:=(268,⟨[.val true vP false],[.val false uF (some true)],λa=>dK a⟩)::jz
theorem oV:Gd jA:=tZ oU 268 Tryz.f268 [] Tryz.func268
def fk (e0:u0):Option Bool :=
 (ac e0.1 1 99).bind λt5 =>
 (cond t5
 ((ac e0.2.1 1 9999).bind λt9 =>
 some t9)
 (some false)).bind λt10 =>
 (cond t10
 ((ac e0.2.2.1 0 7).bind λt14 =>
 some t14)
 (some false)).bind λt15 =>
 (cond t15
 ((ac e0.2.2.2.1 0 4).bind λt19 =>
 some t19)
 (some false)).bind λt20 =>
 (cond t20
 ((cond (!e0.2.2.2.2) (some true) (some (e0.2.2.2.1==0))).bind λt29 =>
 some t29)
 (some false)).bind λt30 =>
 some t30
def jC:FL:=(292,⟨[.val true ur false],[.val false uF (some true)],λa=>fk a⟩)::jA
theorem oW:Gd jC:=tZ oV 292 Tryz.f292 [] Tryz.func292
def dL (e0:u0) (tag1:Int) (mac2:Int):Option Bool :=
 cond (e0.1 != tag1) (some (decide (e0.1<tag1))) (some (decide (e0.2.1<mac2)))
def jD:FL:=(329,⟨[.val true ur false,.val false tW false,.val false tW false],[.val false uF (some true)],λa=>dL a.1 a.2.1 a.2.2⟩)::jC
theorem oX:Gd jD:=tZ oW 329 Tryz.f329 [] Tryz.func329
def gR (l0:List u0) (i3:Int):Option (Int⊕(Unit⊕Bool)) :=
 cond (decide (i3<(l0.length:Int)))
 ((at? l0 i3).bind λx12 =>
 (fk x12).bind λt14 =>
 (cond (!t14)
 (some true)
 ((cond (decide (i3>0))
 ((at? l0 (tR (i3-1))).bind λx23 =>
 (at? l0 i3).bind λx27 =>
 (at? l0 i3).bind λx32 =>
 (dL x23 x27.1 x32.2.1).bind λt35 =>
 some (!t35))
 (some false)).bind λt37 =>
 some t37)).bind λt38 =>
 cond t38 (some (.inr (.inr false))) (some (.inl (tR (i3+1)))))
 (some (.inr (.inl ())))
def fm (l0:List u0):Option Bool :=
 (loop (λz=>gR l0 z) 0).bind (Sum.elim (λd =>
 let t2:=decide ((l0.length:Int)<=12)
 some t2) (λr=>some r))
def jE:FL:=(269,⟨[.val false (.one (.sl ur)) false],[.val false uF (some true)],λa=>fm a⟩)::jD
theorem oY:Gd jE:=tZ oX 269 Tryz.f269 [(0,⟨⟨(3,false,[dI])::us 17 21 [],[]⟩,
 ⟨[],[]⟩,some ⟨[(2,false,[dB])],[]⟩⟩)] Tryz.func269
def oZ (v0:vi) (id1:Int) (i5:Int):Option (Int⊕(Unit⊕Int)) :=
 cond (decide (i5<(v0.1.length:Int)))
 ((at? v0.1 i5).bind λx16 =>
 cond (x16.1==id1) (some (.inr (.inr i5))) (some (.inl (tR (i5+1)))))
 (some (.inr (.inl ())))
def bO (v0:vi) (id1:Int):Option Int :=
 (loop (λz=>oZ v0 id1 z) 0).bind (Sum.elim (λd =>
 some (-1)) (λr=>some r))
def jF:FL:=(290,⟨[.val true wB false,.val false tW false],[.val false tW (some true)],λa=>bO a.1 a.2⟩)::jE
theorem p5:Gd jF:=tZ oY 290 Tryz.f290 [(0,⟨⟨[(5,false,[dI])],[]⟩,
 ⟨[],[]⟩,some ⟨[(4,false,[dI])],[]⟩⟩)] Tryz.func290
def gS (p0:vi) (t27:Int) (t6:Int):Option (Int⊕(Unit⊕Bool)) :=
 cond (decide (t6<(p0.1.length:Int)))
 ((at? p0.1 t6).bind λx39 =>
 (ac x39.1 1 99).bind λt43 =>
 (cond (!t43)
 (some true)
 ((ac x39.2.1 0 (tR (t27-1))).bind λt49 =>
 some (!t49))).bind λt51 =>
 (cond t51
 (some true)
 ((ac x39.2.2 0 (tR (t27-1))).bind λt56 =>
 some (!t56))).bind λt58 =>
 (cond t58 (some true) (some ((yK .i64 x39.2.2 x39.2.1) != x39.2.2))).bind λt68 =>
 (cond t68
 (some true)
 ((cond (decide (t6>0))
 ((at? p0.1 (tR (t6-1))).bind λx77 =>
 some (decide (x77.1>=x39.1)))
 (some false)).bind λt83 =>
 some t83)).bind λt84 =>
 cond t84 (some (.inr (.inr false))) (some (.inl (tR (t6+1)))))
 (some (.inr (.inl ())))
def jG (p0:vi) (t8:Int):Option (Int⊕(Unit⊕Bool)) :=
 cond (decide (t8<(p0.2.length:Int)))
 ((at? p0.2 t8).bind λx96 =>
 (bO p0 x96).bind λt98 =>
 cond (decide (t98<0)) (some (.inr (.inr false))) (some (.inl (tR (t8+1)))))
 (some (.inr (.inl ())))
def cr (p0:vi) (i1:Int):Option Bool :=
 (ac i1 1 6).bind λt10 =>
 (cond (!t10) (some true) (some ((p0.2.length:Int) != i1))).bind λt18 =>
 (cond t18 (some true) (some (decide ((p0.1.length:Int)>6)))).bind λt24 =>
 cond t24
 (some false)
 ((shl .i64 1 (IntKind.u64.wrap (i1))).bind λt27 =>
 (loop (λz=>gS p0 t27 z) 0).bind (Sum.elim (λd =>
 (loop (λz=>jG p0 z) 0).bind (Sum.elim (λd_1 =>
 some true) (λr=>some r))) (λr_1=>some r_1)))
def jH:FL:=(270,⟨[.val true wB false,.val false tW false],[.val false uF (some true)],λa=>cr a.1 a.2⟩)::jF
theorem p6:Gd jH:=tZ p5 270 Tryz.f270 [(0,⟨⟨(6,false,[dI])::us 46 5 (us 53 5 (us 60 8 (us 70 14 []))),[]⟩,
 ⟨[],[]⟩,some ⟨[(4,false,[dB])],[]⟩⟩),
 (2,⟨⟨[(8,false,[dI])],[]⟩,
 ⟨[],[]⟩,some ⟨[(4,false,[dB])],[]⟩⟩)] Tryz.func270
def fo (b0:tQ):Option Bool :=
 (ac b0.2.2.2.2.2.2.1 0 1000000).bind λt5 =>
 (cond t5
 ((ac b0.2.2.2.2.2.2.2.1 0 1000000).bind λt9 =>
 some t9)
 (some false)).bind λt10 =>
 (cond t10
 ((ac b0.2.2.2.2.2.2.2.2.1 0 1000000).bind λt14 =>
 some t14)
 (some false)).bind λt15 =>
 (cond t15
 ((ac b0.2.2.2.2.2.2.2.2.2.1 0 1000000).bind λt19 =>
 some t19)
 (some false)).bind λt20 =>
 (cond t20
 ((ac b0.2.2.2.2.2.2.2.2.2.2 0 1000000).bind λt24 =>
 some t24)
 (some false)).bind λt25 =>
 some t25
def jI:FL:=(271,⟨[.val true uf false],[.val false uF (some true)],λa=>fo a⟩)::jH
theorem p7:Gd jI:=tZ p6 271 Tryz.f271 [] Tryz.func271
def gT (b0:tQ) (i3:Int):Option (Int⊕(Unit⊕Bool)) :=
 cond (decide (i3<(b0.2.2.1.length:Int)))
 ((at? b0.2.2.1 i3).bind λx14 =>
 (dK x14).bind λt16 =>
 cond (!t16) (some (.inr (.inr false))) (some (.inl (tR (i3+1)))))
 (some (.inr (.inl ())))
def aZ (b0:tQ):Option Bool :=
 (loop (λz=>gT b0 z) 0).bind (Sum.elim (λd =>
 (ac b0.1 1 99).bind λt20 =>
 (cond t20 (some (decide ((b0.2.1.length:Int)<=10))) (some false)).bind λt26 =>
 (cond t26
 ((ac (b0.2.2.1.length:Int) 1 6).bind λt31 =>
 some t31)
 (some false)).bind λt32 =>
 (cond t32
 ((fm b0.2.2.2.1).bind λt36 =>
 some t36)
 (some false)).bind λt37 =>
 (cond t37
 ((cr (b0.2.2.2.2.1,b0.2.2.2.2.2.1) (b0.2.2.1.length:Int)).bind λt44 =>
 some t44)
 (some false)).bind λt45 =>
 (cond t45
 ((fo b0).bind λt48 =>
 some t48)
 (some false)).bind λt49 =>
 some t49) (λr=>some r))
def jJ:FL:=(179,⟨[.val true uf false],[.val false uF (some true)],λa=>aZ a⟩)::jI
theorem p8:Gd jJ:=tZ p7 179 Tryz.f179 [(0,⟨⟨[(3,false,[dI])],[]⟩,
 ⟨[],[]⟩,some ⟨[(2,false,[dB])],[]⟩⟩)] Tryz.func179
def aM (n0:Int):Option Int :=
 cond (decide (n0>2147483647))
 (some 2147483647)
 (cond (decide (n0<(-2147483648))) (some (-2147483648)) (some n0))
def jK:FL:=(132,⟨[.val false tW false],[.val false tW (some true)],λa=>aM a⟩)::jJ
theorem p9:Gd jK:=tZ p8 132 Tryz.f132 [] Tryz.func132
def pa (o0:List Int) (i3:Int):Option (Int⊕(Unit⊕Bool)) :=
 cond (decide (i3<(o0.length:Int)))
 ((at? o0 i3).bind λx12 =>
 (ac x12 0 100000).bind λt14 =>
 cond (!t14) (some (.inr (.inr false))) (some (.inl (tR (i3+1)))))
 (some (.inr (.inl ())))
def ba (o0:List Int):Option Bool :=
 (loop (λz=>pa o0 z) 0).bind (Sum.elim (λd =>
 (ac (o0.length:Int) 1 10).bind λt18 =>
 some t18) (λr=>some r))
def jL:FL:=(220,⟨[.val false vW false],[.val false uF (some true)],λa=>ba a⟩)::jK
theorem pb:Gd jL:=tZ p9 220 Tryz.f220 [(0,⟨⟨[(3,false,[dI])],[]⟩,
 ⟨[],[]⟩,some ⟨[(2,false,[dB])],[]⟩⟩)] Tryz.func220
def aN (p0:wN):Option Bool :=
 cond (p0.1==5)
 (cond (p0.1==5)
 ((cond (p0.2.1==0) (some (p0.2.2.1==[])) (some false)).bind λt16 =>
 (cond t16 (some ((p0.2.2.2.length:Int)==0)) (some false)).bind λt22 =>
 some t22)
 (cond (p0.1==2)
 ((aM p0.2.1).bind λt27 =>
 (cond (t27==p0.2.1) (some (p0.2.2.1==[])) (some false)).bind λt35 =>
 (cond t35 (some ((p0.2.2.2.length:Int)==0)) (some false)).bind λt41 =>
 some t41)
 (cond (p0.1==4)
 ((cond (decide ((p0.2.2.1.length:Int)<=20)) (some (p0.2.1==0)) (some false)).bind λt52 =>
 (cond t52 (some ((p0.2.2.2.length:Int)==0)) (some false)).bind λt58 =>
 some t58)
 (cond (p0.1==6)
 ((ba p0.2.2.2).bind λt63 =>
 (cond t63 (some (p0.2.1==0)) (some false)).bind λt68 =>
 (cond t68 (some (p0.2.2.1==[])) (some false)).bind λt73 =>
 some t73)
 (some false)))))
 (cond (p0.1==128)
 (cond (p0.1==128)
 ((cond (p0.2.1==0) (some (p0.2.2.1==[])) (some false)).bind λt16_1 =>
 (cond t16_1 (some ((p0.2.2.2.length:Int)==0)) (some false)).bind λt22_1 =>
 some t22_1)
 (cond (p0.1==2)
 ((aM p0.2.1).bind λt27_1 =>
 (cond (t27_1==p0.2.1) (some (p0.2.2.1==[])) (some false)).bind λt35_1 =>
 (cond t35_1 (some ((p0.2.2.2.length:Int)==0)) (some false)).bind λt41_1 =>
 some t41_1)
 (cond (p0.1==4)
 ((cond (decide ((p0.2.2.1.length:Int)<=20)) (some (p0.2.1==0)) (some false)).bind λt52_1 =>
 (cond t52_1 (some ((p0.2.2.2.length:Int)==0)) (some false)).bind λt58_1 =>
 some t58_1)
 (cond (p0.1==6)
 ((ba p0.2.2.2).bind λt63_1 =>
 (cond t63_1 (some (p0.2.1==0)) (some false)).bind λt68_1 =>
 (cond t68_1 (some (p0.2.2.1==[])) (some false)).bind λt73_1 =>
 some t73_1)
 (some false)))))
 (cond (p0.1==130)
 ((cond (p0.2.1==0) (some (p0.2.2.1==[])) (some false)).bind λt16_2 =>
 (cond t16_2 (some ((p0.2.2.2.length:Int)==0)) (some false)).bind λt22_2 =>
 some t22_2)
 (cond (p0.1==2)
 ((aM p0.2.1).bind λt27_2 =>
 (cond (t27_2==p0.2.1) (some (p0.2.2.1==[])) (some false)).bind λt35_2 =>
 (cond t35_2 (some ((p0.2.2.2.length:Int)==0)) (some false)).bind λt41_2 =>
 some t41_2)
 (cond (p0.1==4)
 ((cond (decide ((p0.2.2.1.length:Int)<=20)) (some (p0.2.1==0)) (some false)).bind λt52_2 =>
 (cond t52_2 (some ((p0.2.2.2.length:Int)==0)) (some false)).bind λt58_2 =>
 some t58_2)
 (cond (p0.1==6)
 ((ba p0.2.2.2).bind λt63_2 =>
 (cond t63_2 (some (p0.2.1==0)) (some false)).bind λt68_2 =>
 (cond t68_2 (some (p0.2.2.1==[])) (some false)).bind λt73_2 =>
 some t73_2)
 (some false))))))
def jM:FL:=(221,⟨[.val true xU false],[.val false uF (some true)],λa=>aN a⟩)::jL
theorem pc:Gd jM:=tZ pb 221 Tryz.f221 [] Tryz.func221
def gU (k0:Int):Option Bool :=
 (cond (k0==160) (some true) (some (k0==161))).bind λt8 =>
 (cond t8 (some true) (some (k0==162))).bind λt12 =>
 (cond t12 (some true) (some (k0==163))).bind λt16 =>
 (cond t16 (some true) (some (k0==165))).bind λt20 =>
 some t20
def jN:FL:=(222,⟨[.val false tW false],[.val false uF (some true)],λa=>gU a⟩)::jM
theorem pf:Gd jN:=tZ pc 222 Tryz.f222 [] Tryz.func222
def fp (p0:uq) (t3:Int):Option (Int⊕(Unit⊕Bool)) :=
 cond (decide (t3<(p0.2.2.2.2.length:Int)))
 ((at? p0.2.2.2.2 t3).bind λx14 =>
 (ba x14.1).bind λt17 =>
 (cond (!t17)
 (some true)
 ((at? p0.2.2.2.2 t3).bind λx23 =>
 (aN x23.2).bind λt26 =>
 some (!t26))).bind λt28 =>
 cond t28 (some (.inr (.inr false))) (some (.inl (tR (t3+1)))))
 (some (.inr (.inl ())))
def bb (p0:uq):Option Bool :=
 (loop (λz=>fp p0 z) 0).bind (Sum.elim (λd =>
 (cond (p0.1 != 162) (some (p0.1 != 165)) (some false)).bind λt36 =>
 (cond t36
 ((cond (p0.2.2.1 != 0) (some true) (some (p0.2.2.2.1 != 0))).bind λt45 =>
 some t45)
 (some false)).bind λt46 =>
 cond t46
 (some false)
 ((gU p0.1).bind λt49 =>
 (cond t49
 ((aM p0.2.1).bind λt53 =>
 some (t53==p0.2.1))
 (some false)).bind λt57 =>
 (cond t57
 ((ac p0.2.2.1 0 1000).bind λt61 =>
 some t61)
 (some false)).bind λt62 =>
 (cond t62
 ((ac p0.2.2.2.1 0 1000).bind λt66 =>
 some t66)
 (some false)).bind λt67 =>
 (cond t67 (some (decide ((p0.2.2.2.2.length:Int)<=10))) (some false)).bind λt73 =>
 some t73)) (λr=>some r))
def jO:FL:=(137,⟨[.val true vY false],[.val false uF (some true)],λa=>bb a⟩)::jN
theorem pj:Gd jO:=tZ pf 137 Tryz.f137 [(0,⟨⟨(3,false,[dI])::us 20 8 [],[]⟩,
 ⟨[],[]⟩,some ⟨[(2,false,[dB])],[]⟩⟩)] Tryz.func137
def gV (p0:uq):Option Bool :=
 (bb p0).bind λt4 =>
 (cond t4 (some (p0.1 != 162)) (some false)).bind λt9 =>
 some t9
def jQ:FL:=(267,⟨[.val true vY false],[.val false uF (some true)],λa=>gV a⟩)::jO
theorem pk:Gd jQ:=tZ pj 267 Tryz.f267 [] Tryz.func267
def dM (j0:ut) (last1:Int):Option Bool :=
 (ac j0.1 1 last1).bind λt8 =>
 (cond (!t8)
 (some true)
 ((ac j0.2.2.1 0 2).bind λt13 =>
 some (!t13))).bind λt15 =>
 (cond t15
 (some true)
 ((ac j0.2.2.2.2.2.2.2.2.2.2.2.2.2.2.2.2.2.2.2.2 0 3).bind λt19 =>
 some (!t19))).bind λt21 =>
 (cond t21
 (some true)
 ((ac j0.2.2.2.2.2.2.2.2.2.2.2.2.2.2.2.2.2.2.2.1 0 (j0.2.2.2.2.2.2.2.1.length:Int)).bind λt29 =>
 some (!t29))).bind λt31 =>
 cond t31
 (some false)
 ((cond (j0.2.2.1==0)
 (some true)
 ((gV (j0.2.2.2.1,j0.2.2.2.2.1,j0.2.2.2.2.2.1,j0.2.2.2.2.2.2.1,j0.2.2.2.2.2.2.2.1)).bind λt38 =>
 (cond t38
 ((aZ (j0.2.2.2.2.2.2.2.2.1,j0.2.2.2.2.2.2.2.2.2.1,j0.2.2.2.2.2.2.2.2.2.2.1,j0.2.2.2.2.2.2.2.2.2.2.2.1,j0.2.2.2.2.2.2.2.2.2.2.2.2.1,j0.2.2.2.2.2.2.2.2.2.2.2.2.2.1,j0.2.2.2.2.2.2.2.2.2.2.2.2.2.2.1,j0.2.2.2.2.2.2.2.2.2.2.2.2.2.2.2.1,j0.2.2.2.2.2.2.2.2.2.2.2.2.2.2.2.2.1,j0.2.2.2.2.2.2.2.2.2.2.2.2.2.2.2.2.2.1,j0.2.2.2.2.2.2.2.2.2.2.2.2.2.2.2.2.2.2.1)).bind λt42 =>
 some t42)
 (some false)).bind λt43 =>
 some t43)).bind λt44 =>
 some t44)
def jR:FL:=(178,⟨[.val true vJ false,.val false tW false],[.val false uF (some true)],λa=>dM a.1 a.2⟩)::jQ
theorem pm:Gd jR:=tZ pk 178 Tryz.f178 [] Tryz.func178
def gW (p0:ue) (t3:Int):Option (Int⊕(Unit⊕Bool)) :=
 cond (decide (t3<(p0.2.2.2.2.2.2.2.2.2.2.2.2.1.length:Int)))
 ((at? p0.2.2.2.2.2.2.2.2.2.2.2.2.1 t3).bind λx14 =>
 (dM x14 p0.2.2.2.2.2.2.2.2.2.2.2.2.2.2).bind λt18 =>
 (cond (!t18)
 (some true)
 ((cond (decide (t3>0))
 ((at? p0.2.2.2.2.2.2.2.2.2.2.2.2.1 (tR (t3-1))).bind λx28 =>
 (at? p0.2.2.2.2.2.2.2.2.2.2.2.2.1 t3).bind λx34 =>
 some (decide (x28.1>=x34.1)))
 (some false)).bind λt38 =>
 some t38)).bind λt39 =>
 cond t39 (some (.inr (.inr false))) (some (.inl (tR (t3+1)))))
 (some (.inr (.inl ())))
def fq (p0:ue):Option Bool :=
 (loop (λz=>gW p0 z) 0).bind (Sum.elim (λd =>
 (aZ (p0.1,p0.2.1,p0.2.2.1,p0.2.2.2.1,p0.2.2.2.2.1,p0.2.2.2.2.2.1,p0.2.2.2.2.2.2.1,p0.2.2.2.2.2.2.2.1,p0.2.2.2.2.2.2.2.2.1,p0.2.2.2.2.2.2.2.2.2.1,p0.2.2.2.2.2.2.2.2.2.2.1)).bind λt42 =>
 (cond t42
 (some (decide ((p0.2.2.2.2.2.2.2.2.2.2.2.1.length:Int)<=20)))
 (some false)).bind λt48 =>
 (cond t48
 (some (decide ((p0.2.2.2.2.2.2.2.2.2.2.2.2.1.length:Int)<=6)))
 (some false)).bind λt54 =>
 (cond t54
 ((ac p0.2.2.2.2.2.2.2.2.2.2.2.2.2.1 0 1000000).bind λt58 =>
 some t58)
 (some false)).bind λt59 =>
 (cond t59
 ((ac p0.2.2.2.2.2.2.2.2.2.2.2.2.2.2 0 1000000).bind λt63 =>
 some t63)
 (some false)).bind λt64 =>
 some t64) (λr=>some r))
def jS:FL:=(106,⟨[.val true uP false],[.val false uF (some true)],λa=>fq a⟩)::jR
theorem po:Gd jS:=tZ pm 106 Tryz.f106 [(0,⟨⟨(3,false,[dI])::us 21 18 [],[]⟩,
 ⟨[],[]⟩,some ⟨[(2,false,[dB])],[]⟩⟩)] Tryz.func106
def bP (n0:Int):Option Int :=
 cond (decide (n0>=1000000)) (some n0) (some (tR (n0+1)))
def jT:FL:=(195,⟨[.val false tW false],[.val false tW (some true)],λa=>bP a⟩)::jS
theorem pp:Gd jT:=tZ po 195 Tryz.f195 [] Tryz.func195
def bQ (p0:List Int) (i1:Int):Option (Int×(List Int)×Int×Bool) :=
 (cond (decide (i1<0)) (some true) (some (decide (i1>=(p0.length:Int))))).bind λt17 =>
 (cond t17 (some true) (some (decide ((tR (i1+1))>=(p0.length:Int))))).bind λt24 =>
 cond t24
 (some (0,([]:List Int),0,false))
 ((at? p0 (tR (i1+1))).bind λx29 =>
 cond (decide ((tR (x29))>127))
 ((cond ((tR (x29)) != 129) (some true) (some (decide ((tR (i1+2))>=(p0.length:Int))))).bind λt43 =>
 (cond t43
 (some true)
 ((at? p0 (tR (i1+2))).bind λx47 =>
 some (decide (x47<128)))).bind λt50 =>
 cond t50
 (some (0,([]:List Int),0,false))
 ((at? p0 (tR (i1+2))).bind λx54 =>
 (cond (decide ((tR (x54))>250))
 (some true)
 (some (decide ((tR (x54))>(tR ((p0.length:Int)-(tR ((tR (i1+2))+1)))))))).bind λt68 =>
 cond t68
 (some (0,([]:List Int),0,false))
 ((at? p0 i1).bind λx72 =>
 (cut p0 (tR ((tR (i1+2))+1)) (tR ((tR ((tR (i1+2))+1))+(tR (x54))))).bind λt81 =>
 (uv ([]:List Int) t81).bind λzs82 =>
 let t6:=tR ((tR ((tR (i1+2))+1))+(tR (x54)))
 some (tR (x72),zs82,t6,true))))
 ((cond (decide ((tR (x29))>250))
 (some true)
 (some (decide ((tR (x29))>(tR ((p0.length:Int)-(tR (i1+2)))))))).bind λt68_1 =>
 cond t68_1
 (some (0,([]:List Int),0,false))
 ((at? p0 i1).bind λx72_1 =>
 (cut p0 (tR (i1+2)) (tR ((tR (i1+2))+(tR (x29))))).bind λt81_1 =>
 (uv ([]:List Int) t81_1).bind λzs82_1 =>
 let t6_1:=tR ((tR (i1+2))+(tR (x29)))
 some (tR (x72_1),zs82_1,t6_1,true))))
def jU:FL:=(330,⟨[.val false vh false,.val false tW false],[.val false tW (some true),.val false vh (some true),.val false tW (some true),.val false uF (some true)],λa=>bQ a.1 a.2⟩)::jT
theorem pq:Gd jU:=tZ pp 330 Tryz.f330 [] Tryz.func330
def bc (r0:AM) (tag1:Int):Option (AM×List Int) :=
 (bQ r0.1 r0.2.1).bind λt18 =>
 (cond r0.2.2 (some true) (some (!t18.2.2.2))).bind λt30 =>
 (cond t30 (some true) (some (t18.1 != tag1))).bind λt35 =>
 cond t35
 (some ((r0.1,r0.2.1,true),([]:List Int)))
 (some ((r0.1,t18.2.2.1,r0.2.2),t18.2.1))
def jV:FL:=(332,⟨[.ptr AL none,.val false tW false],[.val false vh (some true)],λa=>bc a.1 a.2⟩)::jU
theorem pr:Gd jV:=tZ pq 332 Tryz.f332 [] Tryz.func332
def bq (n0_1:Int) (out3:List Int):Option ((Int×List Int)⊕(List Int)) :=
 (cond (decide (n0_1<(-128))) (some true) (some (decide (n0_1>127)))).bind λt14 =>
 cond t14
 ((uv [IntKind.u8.wrap (n0_1.fdiv (2^8))] out3).bind λzs21 =>
 some (.inl (n0_1.fdiv (2^8),zs21)))
 (some (.inr out3))
def aO (n0:Int):Option (List Int) :=
 (aM n0).bind λt5 =>
 (loop (λz=>bq z.1 z.2) (t5,[IntKind.u8.wrap (t5)])).bind λd =>
 some d
def jW:FL:=(63,⟨[.val false tW false],[.val false vh (some true)],λa=>aO a⟩)::jV
theorem pu:Gd jW:=tZ pr 63 Tryz.f63 [(0,⟨⟨[(0,false,[dI]),(3,false,[.own 1000000000]),(12,false,[.undef]),(13,false,[.undef])],[(1000000000,.root (.one (.int .u8)) true)]⟩,
 ⟨[(3,false,[.own 1000000300])],[(1000000300,.root (.one (.int .u8)) true)]⟩,none⟩)] Tryz.func63
def ct (b0:List Int) (n4:Int) (i5:Int):Option ((Int×Int)⊕Int) :=
 cond (decide (i5<(b0.length:Int)))
 ((at? b0 i5).bind λx28 =>
 let n4_1:=Bf .i64 (tR (n4*2^8)) (tR (x28))
 some (.inl (n4_1,tR (i5+1))))
 (some (.inr n4))
def cu (b0:List Int) (n4_3:Int) (i5_1:Int):Option ((Int×Int)⊕Int) :=
 cond (decide (i5_1<(b0.length:Int)))
 ((at? b0 i5_1).bind λx28_1 =>
 let n4_4:=Bf .i64 (tR (n4_3*2^8)) (tR (x28_1))
 some (.inl (n4_4,tR (i5_1+1))))
 (some (.inr n4_3))
def dN (b0:List Int):Option (Int×Bool) :=
 (ac (b0.length:Int) 1 4).bind λt8 =>
 cond (!t8)
 (some (0,false))
 ((at? b0 0).bind λx11 =>
 cond (decide ((tR (x11))>127))
 ((loop (λz=>ct b0 z.1 z.2) (tR ((tR (x11))-256),1)).bind λd =>
 (aO d).bind λt33 =>
 cond ((t33.length:Int) != (b0.length:Int)) (some (0,false)) (some (d,true)))
 ((loop (λz=>cu b0 z.1 z.2) (tR (x11),1)).bind λd_1 =>
 (aO d_1).bind λt33_1 =>
 cond ((t33_1.length:Int) != (b0.length:Int)) (some (0,false)) (some (d_1,true))))
def jX:FL:=(364,⟨[.val false vh false],[.val false tW (some true),.val false uF (some true)],λa=>dN a⟩)::jW
theorem pv:Gd jX:=tZ pu 364 Tryz.f364 [(0,⟨⟨[(4,false,[dI]),(5,false,[dI])],[]⟩,
 ⟨[(4,false,[dI])],[]⟩,none⟩)] Tryz.func364
def bR (r0:AM):Option (AM×Int) :=
 (bc r0 2).bind λt7 =>
 (dN t7.2).bind λt8 =>
 (cond t7.1.2.2 (some true) (some (!t8.2))).bind λt19 =>
 some ((t7.1.1,t7.1.2.1,t19),t8.1)
def jY:FL:=(331,⟨[.ptr AL none],[.val false tW (some true)],λa=>bR a⟩)::jX
theorem pw:Gd jY:=tZ pv 331 Tryz.f331 [] Tryz.func331
def br (n0_1:Int) (out3:List Int):Option ((Int×List Int)⊕(List Int)) :=
 cond (decide (n0_1>127))
 ((uv [IntKind.u8.wrap (Bf .i64 (yK .i64 (n0_1.fdiv (2^7)) 127) 128)] out3).bind λzs18 =>
 some (.inl (n0_1.fdiv (2^7),zs18)))
 (some (.inr out3))
def cw (n0:Int):Option (List Int) :=
 (loop (λz=>br z.1 z.2) (n0,[IntKind.u8.wrap (yK .i64 n0 127)])).bind λd =>
 some d
def jZ:FL:=(354,⟨[.val false tW false],[.val false vh (some true)],λa=>cw a⟩)::jY
theorem pz:Gd jZ:=tZ pw 354 Tryz.f354 [(0,⟨⟨[(0,false,[dI]),(3,false,[.own 1000000000])],[(1000000000,.root (.one (.int .u8)) true)]⟩,
 ⟨[(3,false,[.own 1000000300])],[(1000000300,.root (.one (.int .u8)) true)]⟩,none⟩)] Tryz.func354
def ay (p0:List Int) (t5_1:Int) (t6:Int) (t7:Int) (t8:Bool):Option ((Int×Int×Int×Bool)⊕(Int×Int×Int×Bool)) :=
 (cond t8 (some (decide (t5_1<(p0.length:Int)))) (some false)).bind λt25 =>
 (cond t25 (some (decide (t7<4))) (some false)).bind λt29 =>
 cond t29
 ((at? p0 t5_1).bind λx34 =>
 let t6_1:=Bf .i64 (tR (t6*2^7)) (tR (yK .u8 x34 127))
 (at? p0 t5_1).bind λx41 =>
 some (.inl (tR (t5_1+1),t6_1,tR (t7+1),decide (x41>127))))
 (some (.inr (t5_1,t6,t7,t8)))
def ao (p0:List Int) (t5:Int) (t4:List Int):Option ((Int×List Int)⊕((Int×List Int)⊕(Bool×List Int))) :=
 (cond (decide (t5<(p0.length:Int))) (some (decide ((t4.length:Int)<=10))) (some false)).bind λt18 =>
 cond t18
 ((loop (λz=>ay p0 z.1 z.2.1 z.2.2.1 z.2.2.2) (t5,0,0,true)).bind λd =>
 (cond d.2.2.2
 (some true)
 ((cw d.2.1).bind λt51 =>
 some ((t51.length:Int) != d.2.2.1))).bind λt55 =>
 cond t55
 (some (.inr (.inr (false,([]:List Int)))))
 ((uv t4 [d.2.1]).bind λzs60 =>
 some (.inl (d.1,zs60))))
 (some (.inr (.inl (t5,t4))))
def bt (p0:List Int):Option ((List Int)×Bool) :=
 (loop (λz=>ao p0 z.1 z.2) (0,([]:List Int))).bind (Sum.elim (λd_1 =>
 (cond (d_1.1 != (p0.length:Int))
 (some true)
 ((ba d_1.2).bind λt67 =>
 some (!t67))).bind λt69 =>
 cond t69 (some (([]:List Int),false)) (some (d_1.2,true))) (λr=>some (r.2,r.1)))
def kc:FL:=(380,⟨[.val false vh false],[.val false vW (some true),.val false uF (some true)],λa=>bt a⟩)::jZ
theorem pA:Gd kc:=tZ pz 380 Tryz.f380 [(0,⟨⟨(4,false,[.own 1000000000])::(5,false,[dI])::us 15 3 (us 21 4 (us 27 2 (us 50 5 []))),[(1000000000,.root tW true)]⟩,
 ⟨[(4,false,[.own 1000000300]),(5,false,[dI])],[(1000000300,.root tW true)]⟩,some ⟨[(2,false,[.own 1000000600]),(3,false,[dB])],[(1000000600,.root tW true)]⟩⟩),
 (2,⟨⟨(5,false,[dI])::(6,false,[dI])::(7,false,[dI])::(8,false,[dB])::us 21 4 (us 27 2 []),[]⟩,
 ⟨(5,false,[dI])::(6,false,[dI])::(7,false,[dI])::(8,false,[dB])::us 21 4 (us 27 2 []),[]⟩,none⟩)] Tryz.func380
def fr (b0:List Int) (at1:Int):Option (wN×Int×Bool) :=
 (bQ b0 at1).bind λt16 =>
 cond (t16.1==2)
 ((dN t16.2.1).bind λt31 =>
 (cond (!t16.2.2.2) (some true) (some (!t31.2))).bind λt53 =>
 (cond t53
 (some true)
 ((aN (t16.1,t31.1,[],[])).bind λt56 =>
 some (!t56))).bind λt58 =>
 cond t58
 (some ((0,0,[],[]),0,false))
 (some ((t16.1,t31.1,[],[]),t16.2.2.1,true)))
 (cond (t16.1==4)
 ((cond (!t16.2.2.2) (some true) (some (!true))).bind λt53_1 =>
 (cond t53_1
 (some true)
 ((aN (t16.1,0,uX t16.2.1,[])).bind λt56_1 =>
 some (!t56_1))).bind λt58_1 =>
 cond t58_1
 (some ((0,0,[],[]),0,false))
 (some ((t16.1,0,uX t16.2.1,[]),t16.2.2.1,true)))
 (cond (t16.1==6)
 ((bt t16.2.1).bind λt44 =>
 (cond (!t16.2.2.2) (some true) (some (!t44.2))).bind λt53_2 =>
 (cond t53_2
 (some true)
 ((aN (t16.1,0,[],t44.1)).bind λt56_2 =>
 some (!t56_2))).bind λt58_2 =>
 cond t58_2
 (some ((0,0,[],[]),0,false))
 (some ((t16.1,0,[],t44.1),t16.2.2.1,true)))
 (let is12:=(t16.2.1.length:Int)==0
 (cond (!t16.2.2.2) (some true) (some (!is12))).bind λt53_3 =>
 (cond t53_3
 (some true)
 ((aN (t16.1,0,[],[])).bind λt56_3 =>
 some (!t56_3))).bind λt58_3 =>
 cond t58_3
 (some ((0,0,[],[]),0,false))
 (some ((t16.1,0,[],[]),t16.2.2.1,true)))))
def ke:FL:=(381,⟨[.val false vh false,.val false tW false],[.val true xU (some true),.val false tW (some true),.val false uF (some true)],λa=>fr a.1 a.2⟩)::kc
theorem pB:Gd ke:=tZ pA 381 Tryz.f381 [] Tryz.func381
def ft (b0:List Int):Option (tS×Bool) :=
 (bc (b0,0,false) 6).bind λt15 =>
 (bt t15.2).bind λt16 =>
 (fr b0 t15.1.2.1).bind λt25 =>
 (cond t15.1.2.2 (some true) (some (!t16.2))).bind λt36 =>
 (cond t36 (some true) (some (!t25.2.2))).bind λt40 =>
 (cond t40 (some true) (some (t25.2.1 != (b0.length:Int)))).bind λt46 =>
 cond t46
 (some (([],0,0,[],[]),false))
 (some ((t16.1,t25.1.1,t25.1.2.1,t25.1.2.2.1,t25.1.2.2.2),true))
def kf:FL:=(365,⟨[.val false vh false],[.val true u9 (some true),.val false uF (some true)],λa=>ft a⟩)::ke
theorem pC:Gd kf:=tZ pB 365 Tryz.f365 [] Tryz.func365
def ap (b0:List Int) (b1:Int) (b2:Bool) (b0_1:Int) (b1_1:Int) (b2_1:Int) (b3:Int) (b0_2:List Int) (b1_2:Int) (b2_2:Bool) (b4:List tS):Option ((List Int×Int×Bool×Int×Int×Int×Int×List Int×Int×Bool×List tS)⊕(List Int×Int×Bool×Int×Int×Int×Int×List Int×Int×Bool×List tS)) :=
 (cond (!b2) (some (decide (b1_2<(b0_2.length:Int)))) (some false)).bind λt54 =>
 (cond t54 (some (decide ((b4.length:Int)<=10))) (some false)).bind λt60 =>
 cond t60
 ((bc (b0_2,b1_2,b2_2) 48).bind λt63 =>
 (ft t63.2).bind λt64 =>
 (cond t63.1.2.2 (some true) (some (!t64.2))).bind λt75 =>
 (uv b4 [t64.1]).bind λzs82 =>
 some (.inl (b0,b1,t75,b0_1,b1_1,b2_1,b3,t63.1.1,t63.1.2.1,t63.1.2.2,zs82)))
 (some (.inr (b0,b1,b2,b0_1,b1_1,b2_1,b3,b0_2,b1_2,b2_2,b4)))
def fu (p0:List Int):Option (uq×Bool) :=
 (bQ p0 0).bind λt15 =>
 (bR (t15.2.1,0,false)).bind λt26 =>
 (bR t26.1).bind λt29 =>
 (bR t29.1).bind λt32 =>
 (bc t32.1 48).bind λt35 =>
 (loop (λz=>ap z.1 z.2.1 z.2.2.1 z.2.2.2.1 z.2.2.2.2.1 z.2.2.2.2.2.1 z.2.2.2.2.2.2.1 z.2.2.2.2.2.2.2.1 z.2.2.2.2.2.2.2.2.1 z.2.2.2.2.2.2.2.2.2.1 z.2.2.2.2.2.2.2.2.2.2) (t35.1.1,t35.1.2.1,t35.1.2.2,t15.1,t26.2,t29.2,t32.2,t35.2,0,false,[])).bind λd =>
 (cond (!t15.2.2.2) (some true) (some (t15.2.2.1 != (p0.length:Int)))).bind λt91 =>
 (cond t91 (some true) (some d.2.2.1)).bind λt97 =>
 (cond t97 (some true) (some (d.2.1 != (t15.2.1.length:Int)))).bind λt106 =>
 (cond t106
 (some true)
 (some (d.2.2.2.2.2.2.2.2.1 != (d.2.2.2.2.2.2.2.1.length:Int)))).bind λt118 =>
 (cond t118
 (some true)
 ((bb (d.2.2.2.1,d.2.2.2.2.1,d.2.2.2.2.2.1,d.2.2.2.2.2.2.1,d.2.2.2.2.2.2.2.2.2.2)).bind λt121 =>
 some (!t121))).bind λt123 =>
 cond t123
 (some ((0,0,0,0,[]),false))
 (some ((d.2.2.2.1,d.2.2.2.2.1,d.2.2.2.2.2.1,d.2.2.2.2.2.2.1,d.2.2.2.2.2.2.2.2.2.2),true))
def kg:FL:=(333,⟨[.val false vh false],[.val true vY (some true),.val false uF (some true)],λa=>fu a⟩)::kf
theorem pD:Gd kg:=tZ pC 333 Tryz.f333 [(0,⟨⟨us 44 10 (us 56 4 (us 73 2 [])),[(527360,.box [.dat (.sl (.one (.int .u8))),dI,dB]),(789504,.box [dI,dI,dI,dI,.own 1000000000]),(1839104,.box [.dat (.sl (.one (.int .u8))),dI,dB]),(1000000000,.root u9 true)]⟩,
 ⟨[],[(527360,.box [.dat (.sl (.one (.int .u8))),dI,dB]),(789504,.box [dI,dI,dI,dI,.own 1000000300]),(1839104,.box [.dat (.sl (.one (.int .u8))),dI,dB]),(1000000300,.root u9 true)]⟩,none⟩)] Tryz.func333
def dO (p0:List UInt8) (i1:List Int):Option (uq×Int) :=
 (bQ i1 0).bind λt17 =>
 (bR (t17.2.1,0,false)).bind λt26 =>
 (bc t26.1 4).bind λt28 =>
 (cond (!t17.2.2.2) (some true) (some (t17.1 != 48))).bind λt34 =>
 (cond t34 (some true) (some (t17.2.2.1 != (i1.length:Int)))).bind λt40 =>
 (cond t40 (some true) (some t28.1.2.2)).bind λt46 =>
 cond t46
 (some ((0,0,0,0,[]),1))
 (cond (t26.2 != 1)
 (some ((0,0,0,0,[]),2))
 (cond (!((uX t28.2)==p0))
 (some ((0,0,0,0,[]),3))
 ((cut t17.2.1 t28.1.2.1 (t17.2.1.length:Int)).bind λt62 =>
 (fu t62).bind λt63 =>
 cond (!t63.2) (some ((0,0,0,0,[]),1)) (some (t63.1,0)))))
def kh:FL:=(272,⟨[.val false Pr false,.val false vh false],[.val true vY (some true),.val false tW (some true)],λa=>dO a.1 a.2⟩)::kg
theorem pE:Gd kh:=tZ pD 272 Tryz.f272 [] Tryz.func272
def dP (a0:ue) (k1:Int):Option ue :=
 (ix a0.2.2.2.2.2.2.2.2.2.2.2.2.1.length k1).bind λj9 =>
 (a0.2.2.2.2.2.2.2.2.2.2.2.2.1[j9]?).bind λx =>
 (ak (a0.1,a0.2.1,a0.2.2.1,a0.2.2.2.1,a0.2.2.2.2.1,a0.2.2.2.2.2.1,a0.2.2.2.2.2.2.1,a0.2.2.2.2.2.2.2.1,a0.2.2.2.2.2.2.2.2.1,a0.2.2.2.2.2.2.2.2.2.1,a0.2.2.2.2.2.2.2.2.2.2.1)).bind λt20 =>
 (ix (a0.2.2.2.2.2.2.2.2.2.2.2.2.1.set j9 (x.1,x.2.1,1,x.2.2.2.1,x.2.2.2.2.1,x.2.2.2.2.2.1,x.2.2.2.2.2.2.1,x.2.2.2.2.2.2.2.1,x.2.2.2.2.2.2.2.2.1,x.2.2.2.2.2.2.2.2.2.1,x.2.2.2.2.2.2.2.2.2.2.1,x.2.2.2.2.2.2.2.2.2.2.2.1,x.2.2.2.2.2.2.2.2.2.2.2.2.1,x.2.2.2.2.2.2.2.2.2.2.2.2.2.1,x.2.2.2.2.2.2.2.2.2.2.2.2.2.2.1,x.2.2.2.2.2.2.2.2.2.2.2.2.2.2.2.1,x.2.2.2.2.2.2.2.2.2.2.2.2.2.2.2.2.1,x.2.2.2.2.2.2.2.2.2.2.2.2.2.2.2.2.2.1,x.2.2.2.2.2.2.2.2.2.2.2.2.2.2.2.2.2.2.1,x.2.2.2.2.2.2.2.2.2.2.2.2.2.2.2.2.2.2.2.1,x.2.2.2.2.2.2.2.2.2.2.2.2.2.2.2.2.2.2.2.2)).length k1).bind λj21 =>
 ((a0.2.2.2.2.2.2.2.2.2.2.2.2.1.set j9 (x.1,x.2.1,1,x.2.2.2.1,x.2.2.2.2.1,x.2.2.2.2.2.1,x.2.2.2.2.2.2.1,x.2.2.2.2.2.2.2.1,x.2.2.2.2.2.2.2.2.1,x.2.2.2.2.2.2.2.2.2.1,x.2.2.2.2.2.2.2.2.2.2.1,x.2.2.2.2.2.2.2.2.2.2.2.1,x.2.2.2.2.2.2.2.2.2.2.2.2.1,x.2.2.2.2.2.2.2.2.2.2.2.2.2.1,x.2.2.2.2.2.2.2.2.2.2.2.2.2.2.1,x.2.2.2.2.2.2.2.2.2.2.2.2.2.2.2.1,x.2.2.2.2.2.2.2.2.2.2.2.2.2.2.2.2.1,x.2.2.2.2.2.2.2.2.2.2.2.2.2.2.2.2.2.1,x.2.2.2.2.2.2.2.2.2.2.2.2.2.2.2.2.2.2.1,x.2.2.2.2.2.2.2.2.2.2.2.2.2.2.2.2.2.2.2.1,x.2.2.2.2.2.2.2.2.2.2.2.2.2.2.2.2.2.2.2.2))[j21]?).bind λx_1 =>
 (ix ((a0.2.2.2.2.2.2.2.2.2.2.2.2.1.set j9 (x.1,x.2.1,1,x.2.2.2.1,x.2.2.2.2.1,x.2.2.2.2.2.1,x.2.2.2.2.2.2.1,x.2.2.2.2.2.2.2.1,x.2.2.2.2.2.2.2.2.1,x.2.2.2.2.2.2.2.2.2.1,x.2.2.2.2.2.2.2.2.2.2.1,x.2.2.2.2.2.2.2.2.2.2.2.1,x.2.2.2.2.2.2.2.2.2.2.2.2.1,x.2.2.2.2.2.2.2.2.2.2.2.2.2.1,x.2.2.2.2.2.2.2.2.2.2.2.2.2.2.1,x.2.2.2.2.2.2.2.2.2.2.2.2.2.2.2.1,x.2.2.2.2.2.2.2.2.2.2.2.2.2.2.2.2.1,x.2.2.2.2.2.2.2.2.2.2.2.2.2.2.2.2.2.1,x.2.2.2.2.2.2.2.2.2.2.2.2.2.2.2.2.2.2.1,x.2.2.2.2.2.2.2.2.2.2.2.2.2.2.2.2.2.2.2.1,x.2.2.2.2.2.2.2.2.2.2.2.2.2.2.2.2.2.2.2.2)).set j21 (x_1.1,x_1.2.1,x_1.2.2.1,x_1.2.2.2.1,x_1.2.2.2.2.1,x_1.2.2.2.2.2.1,x_1.2.2.2.2.2.2.1,x_1.2.2.2.2.2.2.2.1,t20.1,t20.2.1,t20.2.2.1,t20.2.2.2.1,t20.2.2.2.2.1,t20.2.2.2.2.2.1,t20.2.2.2.2.2.2.1,t20.2.2.2.2.2.2.2.1,t20.2.2.2.2.2.2.2.2.1,t20.2.2.2.2.2.2.2.2.2.1,t20.2.2.2.2.2.2.2.2.2.2,x_1.2.2.2.2.2.2.2.2.2.2.2.2.2.2.2.2.2.2.2.1,x_1.2.2.2.2.2.2.2.2.2.2.2.2.2.2.2.2.2.2.2.2)).length k1).bind λj28 =>
 (((a0.2.2.2.2.2.2.2.2.2.2.2.2.1.set j9 (x.1,x.2.1,1,x.2.2.2.1,x.2.2.2.2.1,x.2.2.2.2.2.1,x.2.2.2.2.2.2.1,x.2.2.2.2.2.2.2.1,x.2.2.2.2.2.2.2.2.1,x.2.2.2.2.2.2.2.2.2.1,x.2.2.2.2.2.2.2.2.2.2.1,x.2.2.2.2.2.2.2.2.2.2.2.1,x.2.2.2.2.2.2.2.2.2.2.2.2.1,x.2.2.2.2.2.2.2.2.2.2.2.2.2.1,x.2.2.2.2.2.2.2.2.2.2.2.2.2.2.1,x.2.2.2.2.2.2.2.2.2.2.2.2.2.2.2.1,x.2.2.2.2.2.2.2.2.2.2.2.2.2.2.2.2.1,x.2.2.2.2.2.2.2.2.2.2.2.2.2.2.2.2.2.1,x.2.2.2.2.2.2.2.2.2.2.2.2.2.2.2.2.2.2.1,x.2.2.2.2.2.2.2.2.2.2.2.2.2.2.2.2.2.2.2.1,x.2.2.2.2.2.2.2.2.2.2.2.2.2.2.2.2.2.2.2.2)).set j21 (x_1.1,x_1.2.1,x_1.2.2.1,x_1.2.2.2.1,x_1.2.2.2.2.1,x_1.2.2.2.2.2.1,x_1.2.2.2.2.2.2.1,x_1.2.2.2.2.2.2.2.1,t20.1,t20.2.1,t20.2.2.1,t20.2.2.2.1,t20.2.2.2.2.1,t20.2.2.2.2.2.1,t20.2.2.2.2.2.2.1,t20.2.2.2.2.2.2.2.1,t20.2.2.2.2.2.2.2.2.1,t20.2.2.2.2.2.2.2.2.2.1,t20.2.2.2.2.2.2.2.2.2.2,x_1.2.2.2.2.2.2.2.2.2.2.2.2.2.2.2.2.2.2.2.1,x_1.2.2.2.2.2.2.2.2.2.2.2.2.2.2.2.2.2.2.2.2))[j28]?).bind λx_2 =>
 some (a0.1,a0.2.1,a0.2.2.1,a0.2.2.2.1,a0.2.2.2.2.1,a0.2.2.2.2.2.1,a0.2.2.2.2.2.2.1,a0.2.2.2.2.2.2.2.1,a0.2.2.2.2.2.2.2.2.1,a0.2.2.2.2.2.2.2.2.2.1,a0.2.2.2.2.2.2.2.2.2.2.1,a0.2.2.2.2.2.2.2.2.2.2.2.1,((a0.2.2.2.2.2.2.2.2.2.2.2.2.1.set j9 (x.1,x.2.1,1,x.2.2.2.1,x.2.2.2.2.1,x.2.2.2.2.2.1,x.2.2.2.2.2.2.1,x.2.2.2.2.2.2.2.1,x.2.2.2.2.2.2.2.2.1,x.2.2.2.2.2.2.2.2.2.1,x.2.2.2.2.2.2.2.2.2.2.1,x.2.2.2.2.2.2.2.2.2.2.2.1,x.2.2.2.2.2.2.2.2.2.2.2.2.1,x.2.2.2.2.2.2.2.2.2.2.2.2.2.1,x.2.2.2.2.2.2.2.2.2.2.2.2.2.2.1,x.2.2.2.2.2.2.2.2.2.2.2.2.2.2.2.1,x.2.2.2.2.2.2.2.2.2.2.2.2.2.2.2.2.1,x.2.2.2.2.2.2.2.2.2.2.2.2.2.2.2.2.2.1,x.2.2.2.2.2.2.2.2.2.2.2.2.2.2.2.2.2.2.1,x.2.2.2.2.2.2.2.2.2.2.2.2.2.2.2.2.2.2.2.1,x.2.2.2.2.2.2.2.2.2.2.2.2.2.2.2.2.2.2.2.2)).set j21 (x_1.1,x_1.2.1,x_1.2.2.1,x_1.2.2.2.1,x_1.2.2.2.2.1,x_1.2.2.2.2.2.1,x_1.2.2.2.2.2.2.1,x_1.2.2.2.2.2.2.2.1,t20.1,t20.2.1,t20.2.2.1,t20.2.2.2.1,t20.2.2.2.2.1,t20.2.2.2.2.2.1,t20.2.2.2.2.2.2.1,t20.2.2.2.2.2.2.2.1,t20.2.2.2.2.2.2.2.2.1,t20.2.2.2.2.2.2.2.2.2.1,t20.2.2.2.2.2.2.2.2.2.2,x_1.2.2.2.2.2.2.2.2.2.2.2.2.2.2.2.2.2.2.2.1,x_1.2.2.2.2.2.2.2.2.2.2.2.2.2.2.2.2.2.2.2.2)).set j28 (x_2.1,x_2.2.1,x_2.2.2.1,x_2.2.2.2.1,x_2.2.2.2.2.1,x_2.2.2.2.2.2.1,x_2.2.2.2.2.2.2.1,x_2.2.2.2.2.2.2.2.1,x_2.2.2.2.2.2.2.2.2.1,x_2.2.2.2.2.2.2.2.2.2.1,x_2.2.2.2.2.2.2.2.2.2.2.1,x_2.2.2.2.2.2.2.2.2.2.2.2.1,x_2.2.2.2.2.2.2.2.2.2.2.2.2.1,x_2.2.2.2.2.2.2.2.2.2.2.2.2.2.1,x_2.2.2.2.2.2.2.2.2.2.2.2.2.2.2.1,x_2.2.2.2.2.2.2.2.2.2.2.2.2.2.2.2.1,x_2.2.2.2.2.2.2.2.2.2.2.2.2.2.2.2.2.1,x_2.2.2.2.2.2.2.2.2.2.2.2.2.2.2.2.2.2.1,x_2.2.2.2.2.2.2.2.2.2.2.2.2.2.2.2.2.2.2.1,0,x_2.2.2.2.2.2.2.2.2.2.2.2.2.2.2.2.2.2.2.2.2),a0.2.2.2.2.2.2.2.2.2.2.2.2.2.1,a0.2.2.2.2.2.2.2.2.2.2.2.2.2.2)
def ki:FL:=(273,⟨[.ptr uP (some false),.val false tW false],[],λa=>dP a.1 a.2⟩)::kh
theorem pF:Gd ki:=tZ pE 273 Tryz.f273 [] Tryz.func273
def cz (a0:ue) (k1:Int):Option ue :=
 (vE a0.2.2.2.2.2.2.2.2.2.2.2.2.1.length 0 k1).bind λp =>
 (uv ([]:List ut) ((a0.2.2.2.2.2.2.2.2.2.2.2.2.1.take p.2).drop p.1)).bind λzs12 =>
 (vE a0.2.2.2.2.2.2.2.2.2.2.2.2.1.length (tR (k1+1)) (a0.2.2.2.2.2.2.2.2.2.2.2.2.1.length:Int)).bind λp_1 =>
 (uv zs12 ((a0.2.2.2.2.2.2.2.2.2.2.2.2.1.take p_1.2).drop p_1.1)).bind λzs20 =>
 some (a0.1,a0.2.1,a0.2.2.1,a0.2.2.2.1,a0.2.2.2.2.1,a0.2.2.2.2.2.1,a0.2.2.2.2.2.2.1,a0.2.2.2.2.2.2.2.1,a0.2.2.2.2.2.2.2.2.1,a0.2.2.2.2.2.2.2.2.2.1,a0.2.2.2.2.2.2.2.2.2.2.1,a0.2.2.2.2.2.2.2.2.2.2.2.1,zs20,a0.2.2.2.2.2.2.2.2.2.2.2.2.2.1,a0.2.2.2.2.2.2.2.2.2.2.2.2.2.2)
def kj:FL:=(274,⟨[.ptr uP (some false),.val false tW false],[],λa=>cz a.1 a.2⟩)::ki
theorem pG:Gd kj:=tZ pF 274 Tryz.f274 [] Tryz.func274
def cA (p0:ue) (i1:Int):Option ue :=
 (ix p0.2.2.2.2.2.2.2.2.2.2.2.2.1.length i1).bind λj16 =>
 (p0.2.2.2.2.2.2.2.2.2.2.2.2.1[j16]?).bind λx18 =>
 (dO p0.2.2.2.2.2.2.2.2.2.2.2.1 x18.2.1).bind λt19 =>
 (cond (t19.2==0) (some (t19.1.1 != 162)) (some false)).bind λt28 =>
 cond t28
 ((ix p0.2.2.2.2.2.2.2.2.2.2.2.2.1.length i1).bind λj35 =>
 (p0.2.2.2.2.2.2.2.2.2.2.2.2.1[j35]?).bind λx =>
 (dP (p0.1,p0.2.1,p0.2.2.1,p0.2.2.2.1,p0.2.2.2.2.1,p0.2.2.2.2.2.1,p0.2.2.2.2.2.2.1,p0.2.2.2.2.2.2.2.1,p0.2.2.2.2.2.2.2.2.1,p0.2.2.2.2.2.2.2.2.2.1,p0.2.2.2.2.2.2.2.2.2.2.1,p0.2.2.2.2.2.2.2.2.2.2.2.1,p0.2.2.2.2.2.2.2.2.2.2.2.2.1.set j35 (x.1,x.2.1,x.2.2.1,t19.1.1,t19.1.2.1,t19.1.2.2.1,t19.1.2.2.2.1,t19.1.2.2.2.2,x.2.2.2.2.2.2.2.2.1,x.2.2.2.2.2.2.2.2.2.1,x.2.2.2.2.2.2.2.2.2.2.1,x.2.2.2.2.2.2.2.2.2.2.2.1,x.2.2.2.2.2.2.2.2.2.2.2.2.1,x.2.2.2.2.2.2.2.2.2.2.2.2.2.1,x.2.2.2.2.2.2.2.2.2.2.2.2.2.2.1,x.2.2.2.2.2.2.2.2.2.2.2.2.2.2.2.1,x.2.2.2.2.2.2.2.2.2.2.2.2.2.2.2.2.1,x.2.2.2.2.2.2.2.2.2.2.2.2.2.2.2.2.2.1,x.2.2.2.2.2.2.2.2.2.2.2.2.2.2.2.2.2.2.1,x.2.2.2.2.2.2.2.2.2.2.2.2.2.2.2.2.2.2.2.1,x.2.2.2.2.2.2.2.2.2.2.2.2.2.2.2.2.2.2.2.2),p0.2.2.2.2.2.2.2.2.2.2.2.2.2.1,p0.2.2.2.2.2.2.2.2.2.2.2.2.2.2) i1).bind λt39 =>
 some t39)
 (cond (t19.2==3)
 ((bP p0.2.2.2.2.2.2.2.2.1).bind λt48 =>
 (cz (p0.1,p0.2.1,p0.2.2.1,p0.2.2.2.1,p0.2.2.2.2.1,p0.2.2.2.2.2.1,p0.2.2.2.2.2.2.1,p0.2.2.2.2.2.2.2.1,t48,p0.2.2.2.2.2.2.2.2.2.1,p0.2.2.2.2.2.2.2.2.2.2.1,p0.2.2.2.2.2.2.2.2.2.2.2.1,p0.2.2.2.2.2.2.2.2.2.2.2.2.1,p0.2.2.2.2.2.2.2.2.2.2.2.2.2.1,p0.2.2.2.2.2.2.2.2.2.2.2.2.2.2) i1).bind λt64 =>
 some t64)
 ((bP p0.2.2.2.2.2.2.2.1).bind λt58 =>
 (cz (p0.1,p0.2.1,p0.2.2.1,p0.2.2.2.1,p0.2.2.2.2.1,p0.2.2.2.2.2.1,p0.2.2.2.2.2.2.1,t58,p0.2.2.2.2.2.2.2.2.1,p0.2.2.2.2.2.2.2.2.2.1,p0.2.2.2.2.2.2.2.2.2.2.1,p0.2.2.2.2.2.2.2.2.2.2.2.1,p0.2.2.2.2.2.2.2.2.2.2.2.2.1,p0.2.2.2.2.2.2.2.2.2.2.2.2.2.1,p0.2.2.2.2.2.2.2.2.2.2.2.2.2.2) i1).bind λt64_1 =>
 some t64_1))
def kk:FL:=(180,⟨[.ptr uP (some false),.val false tW false],[],λa=>cA a.1 a.2⟩)::kj
theorem pH:Gd kk:=tZ pG 180 Tryz.f180 [] Tryz.func180
def cB (a0:ue) (k1:Int) (p2:uq):Option (ue×List uY) :=
 (ix a0.2.2.2.2.2.2.2.2.2.2.2.2.1.length k1).bind λj13 =>
 (a0.2.2.2.2.2.2.2.2.2.2.2.2.1[j13]?).bind λx15 =>
 (cz a0 k1).bind λt21 =>
 some (t21,[(x15.1,p2.1,p2.2.1,p2.2.2.1,p2.2.2.2.1,p2.2.2.2.2)])
def kl:FL:=(183,⟨[.ptr uP (some false),.val false tW false,.val true vY false],[.val false (.one (.sl wU)) (some false)],λa=>cB a.1 a.2.1 a.2.2⟩)::kk
theorem pI:Gd kl:=tZ pH 183 Tryz.f183 [] Tryz.func183
def au (b0:List Int) (tag1:Int) (body2:List Int):Option (List Int) :=
 (uv ([]:List Int) b0).bind λzs10 =>
 (ac tag1 0 255).bind λt12 =>
 (cond (!t12) (some true) (some (decide ((body2.length:Int)>250)))).bind λt18 =>
 cond t18
 (some zs10)
 ((uv zs10 [IntKind.u8.wrap (tag1)]).bind λzs24 =>
 cond (decide ((body2.length:Int)>127))
 ((uv zs24 ([129]:List Int)).bind λzs30 =>
 (uv zs30 [IntKind.u8.wrap ((body2.length:Int))]).bind λzs36 =>
 (uv zs36 body2).bind λzs38 =>
 some zs38)
 ((uv zs24 [IntKind.u8.wrap ((body2.length:Int))]).bind λzs36_1 =>
 (uv zs36_1 body2).bind λzs38_1 =>
 some zs38_1))
def ko:FL:=(62,⟨[.val false vh false,.val false tW false,.val false vh false],[.val false vh (some true)],λa=>au a.1 a.2.1 a.2.2⟩)::kl
theorem pJ:Gd ko:=tZ pI 62 Tryz.f62 [] Tryz.func62
def bS (o0:List Int) (i4:Int) (b3:List Int):Option ((Int×List Int)⊕(List Int)) :=
 cond (decide (i4<(o0.length:Int)))
 ((at? o0 i4).bind λx19 =>
 (cw x19).bind λt21 =>
 (uv b3 t21).bind λzs22 =>
 some (.inl (tR (i4+1),zs22)))
 (some (.inr b3))
def dQ (o0:List Int):Option (List Int) :=
 (ba o0).bind λt7 =>
 cond (!t7)
 (some ([]:List Int))
 ((loop (λz=>bS o0 z.1 z.2) (0,([]:List Int))).bind λd =>
 some d)
def kq:FL:=(309,⟨[.val false vW false],[.val false vh (some true)],λa=>dQ a⟩)::ko
theorem pK:Gd kq:=tZ pJ 309 Tryz.f309 [(0,⟨⟨[(3,false,[.own 1000000000]),(4,false,[dI])],[(1000000000,.root (.one (.int .u8)) true)]⟩,
 ⟨[(3,false,[.own 1000000300])],[(1000000300,.root (.one (.int .u8)) true)]⟩,none⟩)] Tryz.func309
def fv (b0:List Int) (v1:wN):Option (List Int) :=
 (aN v1).bind λt7 =>
 cond (!t7)
 ((uv ([]:List Int) b0).bind λzs11 =>
 some zs11)
 (cond (v1.1==2)
 ((aO v1.2.1).bind λt19 =>
 (au b0 v1.1 t19).bind λt34 =>
 some t34)
 (cond (v1.1==4)
 ((au b0 v1.1 (yr v1.2.2.1)).bind λt34_1 =>
 some t34_1)
 (cond (v1.1==6)
 ((dQ v1.2.2.2).bind λt29 =>
 (au b0 v1.1 t29).bind λt34_2 =>
 some t34_2)
 ((au b0 v1.1 ([]:List Int)).bind λt34_3 =>
 some t34_3))))
def kt:FL:=(308,⟨[.val false vh false,.val true xU false],[.val false vh (some true)],λa=>fv a.1 a.2⟩)::kq
theorem pL:Gd kt:=tZ pK 308 Tryz.f308 [] Tryz.func308
def bT (l0:List tS) (i4:Int) (b3:List Int):Option ((Int×List Int)⊕(List Int)) :=
 cond (decide (i4<(l0.length:Int)))
 ((at? l0 i4).bind λx16 =>
 (dQ x16.1).bind λt19 =>
 (au ([]:List Int) 6 t19).bind λt20 =>
 (at? l0 i4).bind λx23 =>
 (fv t20 x23.2).bind λt26 =>
 (au b3 48 t26).bind λt29 =>
 some (.inl (tR (i4+1),t29)))
 (some (.inr b3))
def fw (l0:List tS):Option (List Int) :=
 (loop (λz=>bT l0 z.1 z.2) (0,([]:List Int))).bind λd =>
 some d
def ku:FL:=(223,⟨[.val false (.one (.sl u9)) false],[.val false vh (some true)],λa=>fw a⟩)::kt
theorem pM:Gd ku:=tZ pL 223 Tryz.f223 [(0,⟨⟨[(3,false,[.own 1000000000]),(4,false,[dI])],[(1000000000,.root (.one (.int .u8)) true)]⟩,
 ⟨[(3,false,[.own 1000000300])],[(1000000300,.root (.one (.int .u8)) true)]⟩,none⟩)] Tryz.func223
def gX (p0:uq):Option ((List Int)×Bool) :=
 (fw p0.2.2.2.2).bind λt8 =>
 cond (decide ((t8.length:Int)>250))
 (some (([]:List Int),false))
 ((aO p0.2.1).bind λt16 =>
 (au ([]:List Int) 2 t16).bind λt17 =>
 (aO p0.2.2.1).bind λt20 =>
 (au t17 2 t20).bind λt21 =>
 (aO p0.2.2.2.1).bind λt24 =>
 (au t21 2 t24).bind λt25 =>
 (au t25 48 t8).bind λt28 =>
 let t3:=decide ((t28.length:Int)<=250)
 some (t28,t3))
def kv:FL:=(138,⟨[.val true vY false],[.val false vh (some true),.val false uF (some true)],λa=>gX a⟩)::ku
theorem pN:Gd kv:=tZ pM 138 Tryz.f138 [] Tryz.func138
def fx (p0:uq):Option (List Int) :=
 (bb p0).bind λt6 =>
 cond (!t6)
 (some ([]:List Int))
 ((gX p0).bind λt11 =>
 cond (!t11.2)
 (some ([]:List Int))
 ((au ([]:List Int) p0.1 t11.1).bind λt21 =>
 some t21))
def kw:FL:=(65,⟨[.val true vY false],[.val false vh (some true)],λa=>fx a⟩)::kv
theorem pO:Gd kw:=tZ pN 65 Tryz.f65 [] Tryz.func65
def cC (p0:uq):Option Bool :=
 (fx p0).bind λt4 =>
 (ac (t4.length:Int) 1 120).bind λt6 =>
 some t6
def kz:FL:=(335,⟨[.val true vY false],[.val false uF (some true)],λa=>cC a⟩)::kw
theorem pP:Gd kz:=tZ pO 335 Tryz.f335 [] Tryz.func335
def bu (bulk1:Bool) (b0:Int) (b1:Int) (b2:Int) (b3:Int) (b4:List tS):Option ((Int×Int×Int×Int×List tS)⊕(Int×Int×Int×Int×List tS)) :=
 (cond bulk1
 ((cC (b0,b1,b2,b3,b4)).bind λt8 =>
 some (!t8))
 (some false)).bind λt10 =>
 (cond t10 (some (decide ((b4.length:Int)>0))) (some false)).bind λt16 =>
 cond t16
 ((vE b4.length 0 (tR ((b4.length:Int)-1))).bind λp =>
 some (.inl (b0,b1,b2,b3,(b4.take p.2).drop p.1)))
 (some (.inr (b0,b1,b2,b3,b4)))
def bU (p0:uq) (bulk1:Bool):Option uq :=
 (loop (λz=>bu bulk1 z.1 z.2.1 z.2.2.1 z.2.2.2.1 z.2.2.2.2) p0).bind λd =>
 (cC d).bind λt26 =>
 cond t26 (some d) (some (162,d.2.1,7,0,[]))
def kA:FL:=(276,⟨[.val true vY true,.val false uF false],[.val true vY (some true)],λa=>bU a.1 a.2⟩)::kz
theorem pQ:Gd kA:=tZ pP 276 Tryz.f276 [(0,⟨⟨us 7 3 (us 12 4 []),[(1024,.box [dI,dI,dI,dI,.own 1000000000]),(1000000000,.root u9 true)]⟩,
 ⟨[],[(1024,.box [dI,dI,dI,dI,.own 1000000300]),(1000000300,.root u9 true)]⟩,none⟩)] Tryz.func276
def fy (a0:zz) (b1:zz):Option Bool :=
 cond (a0.1 != b1.1)
 (some (decide (a0.1<b1.1)))
 (cond (a0.2.1 != b1.2.1)
 (some (decide (a0.2.1<b1.2.1)))
 (cond (a0.2.2.2.1 != b1.2.2.2.1)
 (let t4:=decide (a0.2.2.2.1<b1.2.2.2.1)
 some t4)
 (let t4_1:=decide (a0.2.2.2.2<b1.2.2.2.2)
 some t4_1)))
def kB:FL:=(345,⟨[.val true yF false,.val true yF false],[.val false uF (some true)],λa=>fy a.1 a.2⟩)::kA
theorem pR:Gd kB:=tZ pQ 345 Tryz.f345 [] Tryz.func345
def gY (v0:zz) (cost1:Int):Option (zz×Bool) :=
 (dJ v0).bind λt8 =>
 (cond (!t8)
 (some true)
 ((ac cost1 1 1000).bind λt12 =>
 some (!t12))).bind λt14 =>
 cond t14
 (some (v0,false))
 ((dJ (v0.1,tR (v0.2.1+cost1),tR (v0.2.2.1+1),v0.2.2.2.1,v0.2.2.2.2)).bind λt27 =>
 cond (!t27)
 (some (v0,false))
 (some ((v0.1,tR (v0.2.1+cost1),tR (v0.2.2.1+1),v0.2.2.2.1,v0.2.2.2.2),true)))
def kC:FL:=(371,⟨[.val true yF false,.val false tW false],[.val true yF (some true),.val false uF (some true)],λa=>gY a.1 a.2⟩)::kB
theorem pS:Gd kC:=tZ pR 371 Tryz.f371 [] Tryz.func371
def gZ (p0:Int) (i1:List Pt) (t8:Int) (t9:Int) (b0:Int) (b1:Int) (b2:Int) (b3:Int) (b4:Int) (b0_1:Int) (b1_1:Int) (b2_1:Int) (b3_1:Int) (b4_1:Int):Option ((Int×Int×Int×Int×Int×Int×Int×Int×Int×Int×Int×Int)⊕(Int×Int×Int×Int×Int×Int×Int×Int×Int×Int×Int)) :=
 cond (decide (t9<(i1.length:Int)))
 ((at? i1 t9).bind λx24 =>
 (cond (!x24.1)
 (some true)
 ((at? i1 t9).bind λx31 =>
 some (!x31.2.2.1))).bind λt35 =>
 cond t35
 (some (.inl (t8,tR (t9+1),b0,b1,b2,b3,b4,b0_1,b1_1,b2_1,b3_1,b4_1)))
 ((at? i1 t9).bind λx39 =>
 (at? i1 t9).bind λx44 =>
 (gY x39.2.2.2 x44.2.1).bind λt47 =>
 (cond t47.2 (some (decide (t47.1.1<p0))) (some false)).bind λt56 =>
 (cond t56
 ((cond (decide (t8<0))
 (some true)
 ((fy t47.1 (b0_1,b1_1,b2_1,b3_1,b4_1)).bind λt63 =>
 some t63)).bind λt64 =>
 some t64)
 (some false)).bind λt65 =>
 cond t65
 (some (.inl (t9,tR (t9+1),t47.1.1,t47.1.2.1,t47.1.2.2.1,p0,0,t47.1.1,t47.1.2.1,t47.1.2.2.1,t47.1.2.2.2.1,t47.1.2.2.2.2)))
 (some (.inl (t8,tR (t9+1),b0,b1,b2,b3,b4,b0_1,b1_1,b2_1,b3_1,b4_1)))))
 (some (.inr (t8,b0,b1,b2,b3,b4,b0_1,b1_1,b2_1,b3_1,b4_1)))
def dR (p0:Int) (i1:List Pt):Option (zz×Int) :=
 (loop (λz=>gZ p0 i1 z.1 z.2.1 z.2.2.1 z.2.2.2.1 z.2.2.2.2.1 z.2.2.2.2.2.1 z.2.2.2.2.2.2.1 z.2.2.2.2.2.2.2.1 z.2.2.2.2.2.2.2.2.1 z.2.2.2.2.2.2.2.2.2.1 z.2.2.2.2.2.2.2.2.2.2.1 z.2.2.2.2.2.2.2.2.2.2.2) ((-1),0,p0,0,0,p0,0,0,0,0,0,0)).bind λd =>
 some ((d.2.1,d.2.2.1,d.2.2.2.1,d.2.2.2.2.1,d.2.2.2.2.2.1),d.1)
def kD:FL:=(344,⟨[.val false tW false,.val false (.one (.sl vP)) false],[.val true yF (some true),.val false tW (some true)],λa=>dR a.1 a.2⟩)::kC
theorem pT:Gd kD:=tZ pS 344 Tryz.f344 [(0,⟨⟨(8,false,[dI])::(9,false,[dI])::us 29 6 (us 52 4 (us 58 7 [])),[(266240,.box [dI,dI,dI,dI,dI]),(526336,.box [dI,dI,dI,dI,dI])]⟩,
 ⟨[(8,false,[dI])],[(266240,.box [dI,dI,dI,dI,dI]),(526336,.box [dI,dI,dI,dI,dI])]⟩,none⟩)] Tryz.func344
def fA (id0:Int) (l1:List Pt) (port2:Int):Option zz :=
 (dR id0 l1).bind λt12 =>
 some (t12.1.1,t12.1.2.1,t12.1.2.2.1,t12.1.2.2.2.1,port2)
def kE:FL:=(346,⟨[.val false tW false,.val false (.one (.sl vP)) false,.val false tW false],[.val true yF (some true)],λa=>fA a.1 a.2.1 a.2.2⟩)::kD
theorem pU:Gd kE:=tZ pT 346 Tryz.f346 [] Tryz.func346
def dU (id0:Int) (l1:List Pt) (port2:Int):Option Int :=
 (ac port2 0 (tR ((l1.length:Int)-1))).bind λt13 =>
 (cond (!t13)
 (some true)
 ((at? l1 port2).bind λx18 =>
 some (!x18.1))).bind λt22 =>
 cond t22
 (some 4)
 ((dR id0 l1).bind λt26 =>
 cond (t26.2==port2)
 (some 1)
 ((at? l1 port2).bind λx36 =>
 (cond (!x36.2.2.1)
 (some true)
 ((fA id0 l1 port2).bind λt44 =>
 (at? l1 port2).bind λx47 =>
 (fy t44 x47.2.2.2).bind λt50 =>
 some t50)).bind λt51 =>
 cond t51 (some 2) (some 3)))
def kF:FL:=(289,⟨[.val false tW false,.val false (.one (.sl vP)) false,.val false tW false],[.val false tW (some true)],λa=>dU a.1 a.2.1 a.2.2⟩)::kE
theorem pV:Gd kF:=tZ pU 289 Tryz.f289 [] Tryz.func289
def dV (id0:Int) (l1:List Pt) (n5:Int) (i6:Int):Option ((Int×Int)⊕Int) :=
 (cond (decide (i6<(l1.length:Int))) (some (decide (i6<6))) (some false)).bind λt14 =>
 cond t14
 ((dU id0 l1 i6).bind λt20 =>
 cond (decide (t20<=2))
 ((shl .i64 1 (IntKind.u64.wrap (i6))).bind λt25 =>
 some (.inl (Bf .i64 n5 t25,tR (i6+1))))
 (some (.inl (n5,tR (i6+1)))))
 (some (.inr n5))
def fB (id0:Int) (l1:List Pt):Option Int :=
 (loop (λz=>dV id0 l1 z.1 z.2) (0,0)).bind λd =>
 some d
def kG:FL:=(198,⟨[.val false tW false,.val false (.one (.sl vP)) false],[.val false tW (some true)],λa=>fB a.1 a.2⟩)::kF
theorem pW:Gd kG:=tZ pV 198 Tryz.f198 [(0,⟨⟨[(5,false,[dI]),(6,false,[dI]),(12,false,[.undef]),(13,false,[.undef])],[]⟩,
 ⟨[(5,false,[dI])],[]⟩,none⟩)] Tryz.func198
def fC (n0:Int) (port1:Int):Option Bool :=
 (ac port1 0 7).bind λt6 =>
 (cond t6
 ((shr .i64 n0 (IntKind.u64.wrap (port1))).bind λt11 =>
 some ((yK .i64 t11 1)==1))
 (some false)).bind λt14 =>
 some t14
def kH:FL:=(200,⟨[.val false tW false,.val false tW false],[.val false uF (some true)],λa=>fC a.1 a.2⟩)::kG
theorem pX:Gd kH:=tZ pW 200 Tryz.f200 [] Tryz.func200
def cD (l0:List u0) (port1:Int) (i6:Int) (out5:List u0):Option ((Int×List u0)⊕(List u0)) :=
 cond (decide (i6<(l0.length:Int)))
 ((at? l0 i6).bind λx16 =>
 (cond x16.2.2.2.2
 (some true)
 ((at? l0 i6).bind λx22 =>
 some (x22.2.2.1 != port1))).bind λt27 =>
 cond t27
 ((at? l0 i6).bind λx31 =>
 (uv out5 [x31]).bind λzs34 =>
 some (.inl (tR (i6+1),zs34)))
 (some (.inl (tR (i6+1),out5))))
 (some (.inr out5))
def fD (l0:List u0) (port1:Int):Option (List u0) :=
 (loop (λz=>cD l0 port1 z.1 z.2) (0,([]:List u0))).bind λd =>
 some d
def kJ:FL:=(304,⟨[.val false (.one (.sl ur)) false,.val false tW false],[.val false (.one (.sl ur)) (some true)],λa=>fD a.1 a.2⟩)::kH
theorem pY:Gd kJ:=tZ pX 304 Tryz.f304 [(0,⟨⟨(5,false,[.own 1000000000])::(6,false,[dI])::us 20 7 [],[(1000000000,.root ur true)]⟩,
 ⟨[(5,false,[.own 1000000300])],[(1000000300,.root ur true)]⟩,none⟩)] Tryz.func304
def fE (b0:tQ) (t13:Int) (i4:Int) (b0_1:Int) (b1:List UInt8) (b6:Int) (b7:Int) (b8:Int) (b9:Int) (b10:Int) (b3:List u0):Option ((Int×Int×List UInt8×Int×Int×Int×Int×Int×List u0)⊕(Int×List UInt8×Int×Int×Int×Int×Int×List u0)) :=
 cond (decide (i4<(b0.2.2.1.length:Int)))
 ((fC t13 i4).bind λt23 =>
 cond (!t23)
 ((fD b3 i4).bind λt28 =>
 some (.inl (tR (i4+1),b0_1,b1,b6,b7,b8,b9,b10,t28)))
 (some (.inl (tR (i4+1),b0_1,b1,b6,b7,b8,b9,b10,b3))))
 (some (.inr (b0_1,b1,b6,b7,b8,b9,b10,b3)))
def cE (b0:tQ):Option tQ :=
 (bP b0.2.2.2.2.2.2.2.2.2.2).bind λt7 =>
 (fB b0.1 b0.2.2.1).bind λt13 =>
 (loop (λz=>fE b0 t13 z.1 z.2.1 z.2.2.1 z.2.2.2.1 z.2.2.2.2.1 z.2.2.2.2.2.1 z.2.2.2.2.2.2.1 z.2.2.2.2.2.2.2.1 z.2.2.2.2.2.2.2.2) (0,b0.1,b0.2.1,b0.2.2.2.2.2.2.1,b0.2.2.2.2.2.2.2.1,b0.2.2.2.2.2.2.2.2.1,b0.2.2.2.2.2.2.2.2.2.1,t7,b0.2.2.2.1)).bind λd =>
 some (d.1,d.2.1,b0.2.2.1,d.2.2.2.2.2.2.2,b0.2.2.2.2.1,b0.2.2.2.2.2.1,d.2.2.1,d.2.2.2.1,d.2.2.2.2.1,d.2.2.2.2.2.1,d.2.2.2.2.2.2.1)
def kK:FL:=(216,⟨[.val true uf true],[.val true uf (some true)],λa=>cE a⟩)::kJ
theorem pZ:Gd kK:=tZ pY 216 Tryz.f216 [(0,⟨⟨[(4,false,[dI])],[(1024,.box [dI,dS,.same 3,.own 1000000000,.same 5,.same 6,dI,dI,dI,dI,dI]),(1000000000,.root ur true)]⟩,
 ⟨[],[(1024,.box [dI,dS,.same 3,.own 1000000300,.same 5,.same 6,dI,dI,dI,dI,dI]),(1000000300,.root ur true)]⟩,none⟩)] Tryz.func216
def q7 (a0:List Int) (b1:List Int) (i5:Int):Option (Int⊕(Unit⊕Bool)) :=
 cond (decide (i5<(a0.length:Int)))
 ((at? a0 i5).bind λx19 =>
 (at? b1 i5).bind λx23 =>
 cond (x19 != x23) (some (.inr (.inr false))) (some (.inl (tR (i5+1)))))
 (some (.inr (.inl ())))
def bV (a0:List Int) (b1:List Int):Option Bool :=
 cond ((a0.length:Int) != (b1.length:Int))
 (some false)
 ((loop (λz=>q7 a0 b1 z) 0).bind (Sum.elim (λd =>
 some true) (λr=>some r)))
def kL:FL:=(366,⟨[.val false vW false,.val false vW false],[.val false uF (some true)],λa=>bV a.1 a.2⟩)::kK
theorem q8:Gd kL:=tZ pZ 366 Tryz.f366 [(0,⟨⟨[(5,false,[dI])],[]⟩,
 ⟨[],[]⟩,some ⟨[(4,false,[dB])],[]⟩⟩)] Tryz.func366
def hC (o0:List Int) (head1:List Int):Option Bool :=
 (cond (decide ((o0.length:Int)>(head1.length:Int)))
 ((cut o0 0 (head1.length:Int)).bind λt14 =>
 (bV t14 head1).bind λt16 =>
 some t16)
 (some false)).bind λt17 =>
 some t17
def kM:FL:=(395,⟨[.val false vW false,.val false vW false],[.val false uF (some true)],λa=>hC a.1 a.2⟩)::kL
theorem q9:Gd kM:=tZ q8 395 Tryz.f395 [] Tryz.func395
def dW (o0:List Int):Option ((List Int)×Bool) :=
 (hC o0 ([1,3,1]:List Int)).bind λt6 =>
 cond (!t6)
 (some (([]:List Int),false))
 ((cut o0 3 (o0.length:Int)).bind λt10 =>
 some (t10,true))
def kN:FL:=(391,⟨[.val false vW false],[.val false vW none,.val false uF (some true)],λa=>dW a⟩)::kM
theorem qc:Gd kN:=tZ q9 391 Tryz.f391 [] Tryz.func391
def fF (p0:tQ) (i1:List Int):Option Bool :=
 (dW i1).bind λt9 =>
 cond (!t9.2)
 (some false)
 (cond ((t9.1.length:Int)==2)
 ((at? t9.1 0).bind λx18 =>
 (cond (x18==1)
 ((at? t9.1 1).bind λx23 =>
 some (x23==1))
 (some false)).bind λt26 =>
 some t26)
 (cond ((t9.1.length:Int) != 3)
 (some false)
 ((at? t9.1 0).bind λx31 =>
 cond (x31==2)
 ((at? t9.1 1).bind λx36 =>
 (cond (x36==2)
 (some true)
 ((at? t9.1 1).bind λx41 =>
 some (x41==4))).bind λt44 =>
 (cond t44
 ((at? t9.1 2).bind λx47 =>
 (ac x47 1 (p0.2.2.1.length:Int)).bind λt52 =>
 some t52)
 (some false)).bind λt53 =>
 some t53)
 (cond (x31==3)
 ((at? t9.1 1).bind λx57 =>
 (cond (x57==1)
 ((at? t9.1 2).bind λx62 =>
 (ac x62 1 99).bind λt64 =>
 some t64)
 (some false)).bind λt65 =>
 (cond t65
 (some true)
 ((at? t9.1 1).bind λx68 =>
 (cond (x68==2)
 (some true)
 ((at? t9.1 1).bind λx73 =>
 some (x73==3))).bind λt76 =>
 (cond t76
 ((at? t9.1 2).bind λx81 =>
 (bO (p0.2.2.2.2.1,p0.2.2.2.2.2.1) x81).bind λt83 =>
 some (decide (t83>=0)))
 (some false)).bind λt85 =>
 some t85)).bind λt86 =>
 some t86)
 (some false)))))
def kO:FL:=(382,⟨[.val true uf false,.val false vW false],[.val false uF (some true)],λa=>fF a.1 a.2⟩)::kN
theorem qd:Gd kO:=tZ qc 382 Tryz.f382 [] Tryz.func382
def bW (l0:List u0) (tag1:Int) (mac2:Int) (i7:Int):Option (Int⊕(Unit⊕Int)) :=
 cond (decide (i7<(l0.length:Int)))
 ((at? l0 i7).bind λx16 =>
 (cond (x16.1==tag1)
 ((at? l0 i7).bind λx24 =>
 some (x24.2.1==mac2))
 (some false)).bind λt29 =>
 cond t29 (some (.inr (.inr i7))) (some (.inl (tR (i7+1)))))
 (some (.inr (.inl ())))
def fG (l0:List u0) (tag1:Int) (mac2:Int):Option Int :=
 (loop (λz=>bW l0 tag1 mac2 z) 0).bind (Sum.elim (λd =>
 some (-1)) (λr=>some r))
def kP:FL:=(291,⟨[.val false (.one (.sl ur)) false,.val false tW false,.val false tW false],[.val false tW (some true)],λa=>fG a.1 a.2.1 a.2.2⟩)::kO
theorem qe:Gd kP:=tZ qd 291 Tryz.f291 [(0,⟨⟨(7,false,[dI])::us 22 7 [],[]⟩,
 ⟨[],[]⟩,some ⟨[(6,false,[dI])],[]⟩⟩)] Tryz.func291
def fH (p0:tQ) (i1:List Int):Option Bool :=
 (dW i1).bind λt9 =>
 cond (!t9.2)
 (some false)
 (cond ((t9.1.length:Int)==2)
 ((at? t9.1 0).bind λx19 =>
 (cond (x19==1)
 ((at? t9.1 1).bind λx24 =>
 (ac x24 2 5).bind λt26 =>
 some t26)
 (some false)).bind λt27 =>
 some t27)
 (cond ((t9.1.length:Int)==3)
 ((at? t9.1 0).bind λx31 =>
 (cond (x31==2)
 ((at? t9.1 1).bind λx36 =>
 (cond (x36==1)
 (some true)
 ((at? t9.1 1).bind λx41 =>
 some (x41==3))).bind λt44 =>
 some t44)
 (some false)).bind λt45 =>
 (cond t45
 ((at? t9.1 2).bind λx48 =>
 (ac x48 1 (p0.2.2.1.length:Int)).bind λt53 =>
 some t53)
 (some false)).bind λt54 =>
 some t54)
 (cond ((t9.1.length:Int)==4)
 ((at? t9.1 0).bind λx58 =>
 (cond (x58==4)
 ((at? t9.1 1).bind λx63 =>
 some (x63==1))
 (some false)).bind λt66 =>
 (cond t66
 ((at? t9.1 2).bind λx71 =>
 (at? t9.1 3).bind λx74 =>
 (fG p0.2.2.2.1 x71 x74).bind λt76 =>
 some (decide (t76>=0)))
 (some false)).bind λt78 =>
 some t78)
 (some false))))
def kQ:FL:=(383,⟨[.val true uf false,.val false vW false],[.val false uF (some true)],λa=>fH a.1 a.2⟩)::kP
theorem qf:Gd kQ:=tZ qe 383 Tryz.f383 [] Tryz.func383
def hN (b0:tQ) (c1:Int) (p2:Int) (n3:Int):Option (tQ×Int) :=
 cond (c1==2)
 ((ac n3 1 1000).bind λt13 =>
 cond (!t13)
 (some (b0,2))
 ((ix b0.2.2.1.length p2).bind λj20 =>
 (b0.2.2.1[j20]?).bind λx =>
 some ((b0.1,b0.2.1,b0.2.2.1.set j20 (x.1,n3,x.2.2.1,x.2.2.2.1,x.2.2.2.2.1,x.2.2.2.2.2.1,x.2.2.2.2.2.2.1,x.2.2.2.2.2.2.2),b0.2.2.2.1,b0.2.2.2.2.1,b0.2.2.2.2.2.1,b0.2.2.2.2.2.2.1,b0.2.2.2.2.2.2.2.1,b0.2.2.2.2.2.2.2.2.1,b0.2.2.2.2.2.2.2.2.2.1,b0.2.2.2.2.2.2.2.2.2.2),0)))
 ((ix b0.2.2.2.2.2.1.length p2).bind λj28 =>
 (b0.2.2.2.2.2.1[j28]?).bind λx_1 =>
 some ((b0.1,b0.2.1,b0.2.2.1,b0.2.2.2.1,b0.2.2.2.2.1,b0.2.2.2.2.2.1.set j28 n3,b0.2.2.2.2.2.2.1,b0.2.2.2.2.2.2.2.1,b0.2.2.2.2.2.2.2.2.1,b0.2.2.2.2.2.2.2.2.2.1,b0.2.2.2.2.2.2.2.2.2.2),0))
def kR:FL:=(384,⟨[.val true uf true,.val false tW false,.val false tW false,.val false tW false],[.val true uf (some true),.val false tW (some true)],λa=>hN a.1 a.2.1 a.2.2.1 a.2.2.2⟩)::kQ
theorem qg:Gd kR:=tZ qf 384 Tryz.f384 [] Tryz.func384
def fJ (p0:vi) (i1:ub) (t6:Bool) (t7:Int) (b0:List ub):Option ((Bool×Int×List ub)⊕(Bool×List ub)) :=
 cond (decide (t7<(p0.1.length:Int)))
 ((cond (!t6)
 ((at? p0.1 t7).bind λx26 =>
 some (decide (x26.1>=i1.1)))
 (some false)).bind λt32 =>
 cond t32
 ((uv b0 [i1]).bind λzs37 =>
 (at? p0.1 t7).bind λx42 =>
 cond (x42.1 != i1.1)
 ((at? p0.1 t7).bind λx53 =>
 (uv zs37 [x53]).bind λzs56 =>
 some (.inl (true,tR (t7+1),zs56)))
 (some (.inl (true,tR (t7+1),zs37))))
 ((at? p0.1 t7).bind λx42_1 =>
 cond (x42_1.1 != i1.1)
 ((at? p0.1 t7).bind λx53_1 =>
 (uv b0 [x53_1]).bind λzs56_1 =>
 some (.inl (t6,tR (t7+1),zs56_1)))
 (some (.inl (t6,tR (t7+1),b0)))))
 (some (.inr (t6,b0)))
def bY (p0:vi) (i1:ub):Option vi :=
 (uv ([]:List Int) p0.2).bind λzs11 =>
 (loop (λz=>fJ p0 i1 z.1 z.2.1 z.2.2) (false,0,[])).bind λd =>
 cond (!d.1)
 ((uv d.2 [i1]).bind λzs64 =>
 some (zs64,zs11))
 (some (d.2,zs11))
def kS:FL:=(350,⟨[.val true wB false,.val true uQ false],[.val true wB (some true)],λa=>bY a.1 a.2⟩)::kR
theorem qh:Gd kS:=tZ qg 350 Tryz.f350 [(0,⟨⟨(6,false,[dB])::(7,false,[dI])::us 23 9 [],[(268288,.box [.own 1000000000,.same 266240]),(1000000000,.root uQ true)]⟩,
 ⟨[(6,false,[dB])],[(268288,.box [.own 1000000300,.same 266240]),(1000000300,.root uQ true)]⟩,none⟩)] Tryz.func350
def hO (b0:tQ) (id1:Int) (n2:Int):Option (tQ×Int) :=
 (bO (b0.2.2.2.2.1,b0.2.2.2.2.2.1) id1).bind λt12 =>
 (cond (n2==4) (some (decide (t12<0))) (some false)).bind λt19 =>
 (cond t19 (some (decide ((b0.2.2.2.2.1.length:Int)<6))) (some false)).bind λt26 =>
 cond t26
 ((bY (b0.2.2.2.2.1,b0.2.2.2.2.2.1) (id1,0,0)).bind λt31 =>
 some ((b0.1,b0.2.1,b0.2.2.1,b0.2.2.2.1,t31.1,t31.2,b0.2.2.2.2.2.2.1,b0.2.2.2.2.2.2.2.1,b0.2.2.2.2.2.2.2.2.1,b0.2.2.2.2.2.2.2.2.2.1,b0.2.2.2.2.2.2.2.2.2.2),0))
 ((cond (n2==6) (some (decide (t12>=0))) (some false)).bind λt40 =>
 cond t40
 ((vE b0.2.2.2.2.1.length 0 t12).bind λp =>
 (uv ([]:List ub) ((b0.2.2.2.2.1.take p.2).drop p.1)).bind λzs47 =>
 (vE b0.2.2.2.2.1.length (tR (t12+1)) (b0.2.2.2.2.1.length:Int)).bind λp_1 =>
 (uv zs47 ((b0.2.2.2.2.1.take p_1.2).drop p_1.1)).bind λzs54 =>
 some ((b0.1,b0.2.1,b0.2.2.1,b0.2.2.2.1,zs54,b0.2.2.2.2.2.1,b0.2.2.2.2.2.2.1,b0.2.2.2.2.2.2.2.1,b0.2.2.2.2.2.2.2.2.1,b0.2.2.2.2.2.2.2.2.2.1,b0.2.2.2.2.2.2.2.2.2.2),0))
 (some (b0,2)))
def kT:FL:=(392,⟨[.val true uf true,.val false tW false,.val false tW false],[.val true uf (some true),.val false tW (some true)],λa=>hO a.1 a.2.1 a.2.2⟩)::kS
theorem qi:Gd kT:=tZ qh 392 Tryz.f392 [] Tryz.func392
def fK (b0:tQ) (c1:Int) (id2:Int) (n3:Int):Option (tQ×Int) :=
 cond (c1==1)
 ((hO b0 id2 n3).bind λt16 =>
 some t16)
 ((shl .i64 1 (IntKind.u64.wrap ((b0.2.2.1.length:Int)))).bind λt24 =>
 (ac n3 0 (tR (t24-1))).bind λt26 =>
 cond (!t26)
 (some (b0,2))
 ((bO (b0.2.2.2.2.1,b0.2.2.2.2.2.1) id2).bind λt35 =>
 (ix b0.2.2.2.2.1.length t35).bind λj36 =>
 (b0.2.2.2.2.1[j36]?).bind λx37 =>
 cond (c1==2)
 ((bY (b0.2.2.2.2.1,b0.2.2.2.2.2.1) (x37.1,n3,x37.2.2)).bind λt47 =>
 some ((b0.1,b0.2.1,b0.2.2.1,b0.2.2.2.1,t47.1,t47.2,b0.2.2.2.2.2.2.1,b0.2.2.2.2.2.2.2.1,b0.2.2.2.2.2.2.2.2.1,b0.2.2.2.2.2.2.2.2.2.1,b0.2.2.2.2.2.2.2.2.2.2),0))
 ((bY (b0.2.2.2.2.1,b0.2.2.2.2.2.1) (x37.1,x37.2.1,n3)).bind λt47_1 =>
 some ((b0.1,b0.2.1,b0.2.2.1,b0.2.2.2.1,t47_1.1,t47_1.2,b0.2.2.2.2.2.2.1,b0.2.2.2.2.2.2.2.1,b0.2.2.2.2.2.2.2.2.1,b0.2.2.2.2.2.2.2.2.2.1,b0.2.2.2.2.2.2.2.2.2.2),0))))
def kU:FL:=(385,⟨[.val true uf true,.val false tW false,.val false tW false,.val false tW false],[.val true uf (some true),.val false tW (some true)],λa=>fK a.1 a.2.1 a.2.2.1 a.2.2.2⟩)::kT
theorem qj:Gd kU:=tZ qi 385 Tryz.f385 [] Tryz.func385
def dX (p0:tQ) (i1:tS):Option (tQ×Int) :=
 (ak p0).bind λt9 =>
 (fF p0 i1.1).bind λt13 =>
 cond (!t13)
 ((fH p0 i1.1).bind λt18 =>
 cond t18 (some (t9,4)) (some (t9,3)))
 ((cut i1.1 3 (i1.1.length:Int)).bind λt23 =>
 (at? t23 0).bind λx25 =>
 cond (x25==1)
 (cond (i1.2.1 != 4)
 (some (t9,1))
 (let t34:=decide ((i1.2.2.2.1.length:Int)>10)
 cond t34
 (some (t9,2))
 (some ((t9.1,i1.2.2.2.1,t9.2.2.1,t9.2.2.2.1,t9.2.2.2.2.1,t9.2.2.2.2.2.1,t9.2.2.2.2.2.2.1,t9.2.2.2.2.2.2.2.1,t9.2.2.2.2.2.2.2.2.1,t9.2.2.2.2.2.2.2.2.2.1,t9.2.2.2.2.2.2.2.2.2.2),0))))
 (cond (i1.2.1 != 2)
 (some (t9,1))
 ((at? t23 0).bind λx52 =>
 cond (x52==2)
 ((at? t23 1).bind λx57 =>
 (at? t23 2).bind λx60 =>
 (hN t9 x57 (tR (x60-1)) i1.2.2.1).bind λt66 =>
 some t66)
 ((at? t23 1).bind λx71 =>
 (at? t23 2).bind λx74 =>
 (fK t9 x71 x74 i1.2.2.1).bind λt79 =>
 some t79))))
def kV:FL:=(367,⟨[.val true uf false,.val true u9 false],[.val true uf (some true),.val false tW (some true)],λa=>dX a.1 a.2⟩)::kU
theorem qk:Gd kV:=tZ qj 367 Tryz.f367 [] Tryz.func367
def dY (p0:tQ) (i1:List tS) (t8:Int) (t9:Int) (b0_2:Int) (b1_2:List UInt8) (b6_2:Int) (b7_2:Int) (b8_2:Int) (b9_2:Int) (b10_2:Int):Option ((Int×Int×List UInt8×Int×Int×Int×Int×Int)⊕((Int×List UInt8×Int×Int×Int×Int×Int)⊕(Int×Int×Int×List UInt8×Int×Int×Int×Int×Int×List Pt×List u0×List ub×List Int))) :=
 cond (decide (t9<t8))
 ((at? i1 t9).bind λx36 =>
 (at? i1 t8).bind λx41 =>
 (bV x36.1 x41.1).bind λt44 =>
 cond t44
 ((ak p0).bind λt46 =>
 some (.inr (.inr (5,tR (t8+1),t46.1,t46.2.1,t46.2.2.2.2.2.2.1,t46.2.2.2.2.2.2.2.1,t46.2.2.2.2.2.2.2.2.1,t46.2.2.2.2.2.2.2.2.2.1,t46.2.2.2.2.2.2.2.2.2.2,t46.2.2.1,t46.2.2.2.1,t46.2.2.2.2.1,t46.2.2.2.2.2.1))))
 (some (.inl (tR (t9+1),b0_2,b1_2,b6_2,b7_2,b8_2,b9_2,b10_2))))
 (some (.inr (.inl (b0_2,b1_2,b6_2,b7_2,b8_2,b9_2,b10_2))))
def fL (p0:tQ) (i1:List tS) (t8:Int) (b0:Int) (b1:List UInt8) (b6:Int) (b7:Int) (b8:Int) (b9:Int) (b10:Int) (b0_1:Int) (b1_1:List UInt8) (b6_1:Int) (b7_1:Int) (b8_1:Int) (b9_1:Int) (b10_1:Int) (b2:List Pt) (b3:List u0) (b4:List ub) (b5:List Int) (b2_1:List Pt) (b3_1:List u0) (b4_1:List ub) (b5_1:List Int):Option ((Int×Int×List UInt8×Int×Int×Int×Int×Int×Int×List UInt8×Int×Int×Int×Int×Int×List Pt×List u0×List ub×List Int×List Pt×List u0×List ub×List Int)⊕((Int×List UInt8×Int×Int×Int×Int×Int×Int×List UInt8×Int×Int×Int×Int×Int×List Pt×List u0×List ub×List Int×List Pt×List u0×List ub×List Int)⊕(Int×Int×Int×List UInt8×Int×Int×Int×Int×Int×List Pt×List u0×List ub×List Int))) :=
 cond (decide (t8<(i1.length:Int)))
 ((loop (λz=>dY p0 i1 t8 z.1 z.2.1 z.2.2.1 z.2.2.2.1 z.2.2.2.2.1 z.2.2.2.2.2.1 z.2.2.2.2.2.2.1 z.2.2.2.2.2.2.2) (0,b0,b1,b6,b7,b8,b9,b10)).bind (Sum.elim (λd =>
 (at? i1 t8).bind λx53 =>
 (dX (b0_1,b1_1,b2_1,b3_1,b4_1,b5_1,b6_1,b7_1,b8_1,b9_1,b10_1) x53).bind λt55 =>
 cond (t55.2 != 0)
 ((ak p0).bind λt61 =>
 some (.inr (.inr (t55.2,tR (t8+1),t61.1,t61.2.1,t61.2.2.2.2.2.2.1,t61.2.2.2.2.2.2.2.1,t61.2.2.2.2.2.2.2.2.1,t61.2.2.2.2.2.2.2.2.2.1,t61.2.2.2.2.2.2.2.2.2.2,t61.2.2.1,t61.2.2.2.1,t61.2.2.2.2.1,t61.2.2.2.2.2.1))))
 (some (.inl (tR (t8+1),d.1,d.2.1,d.2.2.1,d.2.2.2.1,d.2.2.2.2.1,d.2.2.2.2.2.1,d.2.2.2.2.2.2,t55.1.1,t55.1.2.1,t55.1.2.2.2.2.2.2.1,t55.1.2.2.2.2.2.2.2.1,t55.1.2.2.2.2.2.2.2.2.1,t55.1.2.2.2.2.2.2.2.2.2.1,t55.1.2.2.2.2.2.2.2.2.2.2,b2,b3,b4,b5,t55.1.2.2.1,t55.1.2.2.2.1,t55.1.2.2.2.2.1,t55.1.2.2.2.2.2.1)))) (λr=>some (.inr (.inr r)))))
 (some (.inr (.inl (b0,b1,b6,b7,b8,b9,b10,b0_1,b1_1,b6_1,b7_1,b8_1,b9_1,b10_1,b2,b3,b4,b5,b2_1,b3_1,b4_1,b5_1))))
def fM (p0:tQ) (i1:List tS):Option (tQ×Int×Int) :=
 (ak p0).bind λt13 =>
 (aZ p0).bind λt15 =>
 (cond (!t15) (some (decide ((i1.length:Int)>0))) (some false)).bind λt21 =>
 cond t21
 (some (t13,3,1))
 ((loop (λz=>fL p0 i1 z.1 z.2.1 z.2.2.1 z.2.2.2.1 z.2.2.2.2.1 z.2.2.2.2.2.1 z.2.2.2.2.2.2.1 z.2.2.2.2.2.2.2.1 z.2.2.2.2.2.2.2.2.1 z.2.2.2.2.2.2.2.2.2.1 z.2.2.2.2.2.2.2.2.2.2.1 z.2.2.2.2.2.2.2.2.2.2.2.1 z.2.2.2.2.2.2.2.2.2.2.2.2.1 z.2.2.2.2.2.2.2.2.2.2.2.2.2.1 z.2.2.2.2.2.2.2.2.2.2.2.2.2.2.1 z.2.2.2.2.2.2.2.2.2.2.2.2.2.2.2.1 z.2.2.2.2.2.2.2.2.2.2.2.2.2.2.2.2.1 z.2.2.2.2.2.2.2.2.2.2.2.2.2.2.2.2.2.1 z.2.2.2.2.2.2.2.2.2.2.2.2.2.2.2.2.2.2.1 z.2.2.2.2.2.2.2.2.2.2.2.2.2.2.2.2.2.2.2.1 z.2.2.2.2.2.2.2.2.2.2.2.2.2.2.2.2.2.2.2.2.1 z.2.2.2.2.2.2.2.2.2.2.2.2.2.2.2.2.2.2.2.2.2.1 z.2.2.2.2.2.2.2.2.2.2.2.2.2.2.2.2.2.2.2.2.2.2) (0,0,[],0,0,0,0,0,t13.1,t13.2.1,t13.2.2.2.2.2.2.1,t13.2.2.2.2.2.2.2.1,t13.2.2.2.2.2.2.2.2.1,t13.2.2.2.2.2.2.2.2.2.1,t13.2.2.2.2.2.2.2.2.2.2,[],[],[],[],t13.2.2.1,t13.2.2.2.1,t13.2.2.2.2.1,t13.2.2.2.2.2.1)).bind (Sum.elim (λd_1 =>
 cond ((i1.length:Int)==0)
 (some ((d_1.2.2.2.2.2.2.2.1,d_1.2.2.2.2.2.2.2.2.1,d_1.2.2.2.2.2.2.2.2.2.2.2.2.2.2.2.2.2.2.1,d_1.2.2.2.2.2.2.2.2.2.2.2.2.2.2.2.2.2.2.2.1,d_1.2.2.2.2.2.2.2.2.2.2.2.2.2.2.2.2.2.2.2.2.1,d_1.2.2.2.2.2.2.2.2.2.2.2.2.2.2.2.2.2.2.2.2.2,d_1.2.2.2.2.2.2.2.2.2.1,d_1.2.2.2.2.2.2.2.2.2.2.1,d_1.2.2.2.2.2.2.2.2.2.2.2.1,d_1.2.2.2.2.2.2.2.2.2.2.2.2.1,d_1.2.2.2.2.2.2.2.2.2.2.2.2.2.1),0,0))
 ((cr d_1.2.2.2.2.2.2.2.2.2.2.2.2.2.2.2.2.2.2.2.2 (d_1.2.2.2.2.2.2.2.2.2.2.2.2.2.2.2.2.2.2.1.length:Int)).bind λt75 =>
 cond (!t75)
 ((ak p0).bind λt78 =>
 some (t78,5,(i1.length:Int)))
 ((cE (d_1.2.2.2.2.2.2.2.1,d_1.2.2.2.2.2.2.2.2.1,d_1.2.2.2.2.2.2.2.2.2.2.2.2.2.2.2.2.2.2.1,d_1.2.2.2.2.2.2.2.2.2.2.2.2.2.2.2.2.2.2.2.1,d_1.2.2.2.2.2.2.2.2.2.2.2.2.2.2.2.2.2.2.2.2.1,d_1.2.2.2.2.2.2.2.2.2.2.2.2.2.2.2.2.2.2.2.2.2,d_1.2.2.2.2.2.2.2.2.2.1,d_1.2.2.2.2.2.2.2.2.2.2.1,d_1.2.2.2.2.2.2.2.2.2.2.2.1,d_1.2.2.2.2.2.2.2.2.2.2.2.2.1,d_1.2.2.2.2.2.2.2.2.2.2.2.2.2.1)).bind λt82 =>
 some (t82,0,0)))) (λr_1=>some ((r_1.2.2.1,r_1.2.2.2.1,r_1.2.2.2.2.2.2.2.2.2.1,r_1.2.2.2.2.2.2.2.2.2.2.1,r_1.2.2.2.2.2.2.2.2.2.2.2.1,r_1.2.2.2.2.2.2.2.2.2.2.2.2,r_1.2.2.2.2.1,r_1.2.2.2.2.2.1,r_1.2.2.2.2.2.2.1,r_1.2.2.2.2.2.2.2.1,r_1.2.2.2.2.2.2.2.2.1),r_1.1,r_1.2.1))))
def kW:FL:=(334,⟨[.val true uf false,.val false (.one (.sl u9)) false],[.val true uf (some true),.val false tW (some true),.val false tW (some true)],λa=>fM a.1 a.2⟩)::kV
theorem qm:Gd kW:=tZ qk 334 Tryz.f334 [(0,⟨⟨[(8,false,[dI])],[(2048,.box [dI,dS,.own 1000000000,.own 1000000001,.own 1000000002,.own 1000000003,dI,dI,dI,dI,dI]),(265216,.box [dI,dS,.own 1000000004,.own 1000000005,.own 1000000006,.own 1000000007,dI,dI,dI,dI,dI]),(1000000000,.root vP true),(1000000001,.root ur true),(1000000002,.root uQ true),(1000000003,.root tW true),(1000000004,.root vP true),(1000000005,.root ur true),(1000000006,.root uQ true),(1000000007,.root tW true)]⟩,
 ⟨[],[(2048,.box [dI,dS,.own 1000000300,.own 1000000301,.own 1000000302,.own 1000000303,dI,dI,dI,dI,dI]),(265216,.box [dI,dS,.own 1000000304,.own 1000000305,.own 1000000306,.own 1000000307,dI,dI,dI,dI,dI]),(1000000300,.root vP true),(1000000301,.root ur true),(1000000302,.root uQ true),(1000000303,.root tW true),(1000000304,.root vP true),(1000000305,.root ur true),(1000000306,.root uQ true),(1000000307,.root tW true)]⟩,some ⟨[(5,false,[dI]),(6,false,[dI])],[(2048,.box [dI,dS,.own 1000000600,.own 1000000601,.own 1000000602,.own 1000000603,dI,dI,dI,dI,dI]),(1000000600,.root vP true),(1000000601,.root ur true),(1000000602,.root uQ true),(1000000603,.root tW true)]⟩⟩),
 (2,⟨⟨[(9,false,[dI])],[(2048,.box [dI,dS,.same 1000000000,.same 1000000001,.same 1000000002,.same 1000000003,dI,dI,dI,dI,dI])]⟩,
 ⟨[],[(2048,.box [dI,dS,.same 1000000000,.same 1000000001,.same 1000000002,.same 1000000003,dI,dI,dI,dI,dI])]⟩,some ⟨[(5,false,[dI]),(6,false,[dI])],[(2048,.box [dI,dS,.own 1000002600,.own 1000002601,.own 1000002602,.own 1000002603,dI,dI,dI,dI,dI]),(1000002600,.root vP true),(1000002601,.root ur true),(1000002602,.root uQ true),(1000002603,.root tW true)]⟩⟩)] Tryz.func334
def dZ (b0:tQ) (p1:uq):Option (tQ×uq) :=
 (bN p1.2.2.2.2).bind λt14 =>
 (fM b0 p1.2.2.2.2).bind λt20 =>
 (cC (162,p1.2.1,t20.2.1,t20.2.2,t14)).bind λt29 =>
 (cond (!t29) (some true) (some (t20.2.1 != 0))).bind λt34 =>
 cond t34
 ((ak b0).bind λt36 =>
 (bU (162,p1.2.1,t20.2.1,t20.2.2,t14) false).bind λt38 =>
 some (t36,t38))
 (some (t20.1,(162,p1.2.1,t20.2.1,t20.2.2,t14)))
def kX:FL:=(275,⟨[.val true uf false,.val true vY false],[.val true uf (some true),.val true vY (some true)],λa=>dZ a.1 a.2⟩)::kW
theorem qn:Gd kX:=tZ qm 275 Tryz.f275 [] Tryz.func275
def fN (p0:ue) (i1:Int):Option (ue×List uY) :=
 (ix p0.2.2.2.2.2.2.2.2.2.2.2.2.1.length i1).bind λj14 =>
 (p0.2.2.2.2.2.2.2.2.2.2.2.2.1[j14]?).bind λx15 =>
 cond (p0.2.2.2.2.2.2.2.2.2.2.1==x15.2.2.2.2.2.2.2.2.2.2.2.2.2.2.2.2.2.2.1)
 ((dZ (p0.1,p0.2.1,p0.2.2.1,p0.2.2.2.1,p0.2.2.2.2.1,p0.2.2.2.2.2.1,p0.2.2.2.2.2.2.1,p0.2.2.2.2.2.2.2.1,p0.2.2.2.2.2.2.2.2.1,p0.2.2.2.2.2.2.2.2.2.1,p0.2.2.2.2.2.2.2.2.2.2.1) (x15.2.2.2.1,x15.2.2.2.2.1,x15.2.2.2.2.2.1,x15.2.2.2.2.2.2.1,x15.2.2.2.2.2.2.2.1)).bind λt32 =>
 (cB (t32.1.1,t32.1.2.1,t32.1.2.2.1,t32.1.2.2.2.1,t32.1.2.2.2.2.1,t32.1.2.2.2.2.2.1,t32.1.2.2.2.2.2.2.1,t32.1.2.2.2.2.2.2.2.1,t32.1.2.2.2.2.2.2.2.2.1,t32.1.2.2.2.2.2.2.2.2.2.1,t32.1.2.2.2.2.2.2.2.2.2.2,p0.2.2.2.2.2.2.2.2.2.2.2.1,p0.2.2.2.2.2.2.2.2.2.2.2.2.1,p0.2.2.2.2.2.2.2.2.2.2.2.2.2.1,p0.2.2.2.2.2.2.2.2.2.2.2.2.2.2) i1 t32.2).bind λt42 =>
 some t42)
 (cond (decide (x15.2.2.2.2.2.2.2.2.2.2.2.2.2.2.2.2.2.2.2.2>=3))
 ((bN x15.2.2.2.2.2.2.2.1).bind λt52 =>
 (bU (162,x15.2.2.2.2.1,6,1,t52) false).bind λt57 =>
 (cB p0 i1 t57).bind λt58 =>
 some t58)
 ((ix p0.2.2.2.2.2.2.2.2.2.2.2.2.1.length i1).bind λj67 =>
 (p0.2.2.2.2.2.2.2.2.2.2.2.2.1[j67]?).bind λx =>
 (dP (p0.1,p0.2.1,p0.2.2.1,p0.2.2.2.1,p0.2.2.2.2.1,p0.2.2.2.2.2.1,p0.2.2.2.2.2.2.1,p0.2.2.2.2.2.2.2.1,p0.2.2.2.2.2.2.2.2.1,p0.2.2.2.2.2.2.2.2.2.1,p0.2.2.2.2.2.2.2.2.2.2.1,p0.2.2.2.2.2.2.2.2.2.2.2.1,p0.2.2.2.2.2.2.2.2.2.2.2.2.1.set j67 (x.1,x.2.1,x.2.2.1,x.2.2.2.1,x.2.2.2.2.1,x.2.2.2.2.2.1,x.2.2.2.2.2.2.1,x.2.2.2.2.2.2.2.1,x.2.2.2.2.2.2.2.2.1,x.2.2.2.2.2.2.2.2.2.1,x.2.2.2.2.2.2.2.2.2.2.1,x.2.2.2.2.2.2.2.2.2.2.2.1,x.2.2.2.2.2.2.2.2.2.2.2.2.1,x.2.2.2.2.2.2.2.2.2.2.2.2.2.1,x.2.2.2.2.2.2.2.2.2.2.2.2.2.2.1,x.2.2.2.2.2.2.2.2.2.2.2.2.2.2.2.1,x.2.2.2.2.2.2.2.2.2.2.2.2.2.2.2.2.1,x.2.2.2.2.2.2.2.2.2.2.2.2.2.2.2.2.2.1,x.2.2.2.2.2.2.2.2.2.2.2.2.2.2.2.2.2.2.1,x.2.2.2.2.2.2.2.2.2.2.2.2.2.2.2.2.2.2.2.1,tR (x15.2.2.2.2.2.2.2.2.2.2.2.2.2.2.2.2.2.2.2.2+1)),p0.2.2.2.2.2.2.2.2.2.2.2.2.2.1,p0.2.2.2.2.2.2.2.2.2.2.2.2.2.2) i1).bind λt71 =>
 some (t71,([]:List uY))))
def kY:FL:=(181,⟨[.ptr uP (some false),.val false tW false],[.val false (.one (.sl wU)) (some false)],λa=>fN a.1 a.2⟩)::kX
theorem qo:Gd kY:=tZ qn 181 Tryz.f181 [] Tryz.func181
def hU (b0:tQ) (p1:uq):Option Bool :=
 (aZ b0).bind λt6 =>
 (cond t6
 ((bb p1).bind λt9 =>
 some t9)
 (some false)).bind λt10 =>
 (cond t10 (some (p1.1 != 162)) (some false)).bind λt15 =>
 some t15
def kZ:FL:=(277,⟨[.val true uf false,.val true vY false],[.val false uF (some true)],λa=>hU a.1 a.2⟩)::kY
theorem qp:Gd kZ:=tZ qo 277 Tryz.f277 [] Tryz.func277
def bZ (l0:List Int):Option (List Int) :=
 (uv ([1,3,1]:List Int) l0).bind λzs5 =>
 some zs5
def l8:FL:=(307,⟨[.val false vW false],[.val false vW (some true)],λa=>bZ a⟩)::kZ
theorem qq:Gd l8:=tZ qp 307 Tryz.f307 [] Tryz.func307
def hZ (n0:Int):Option wN :=
 some (2,n0,[],[])
def l9:FL:=(219,⟨[.val false tW false],[.val true xU (some true)],λa=>hZ a⟩)::l8
theorem qr:Gd l9:=tZ qq 219 Tryz.f219 [] Tryz.func219
def af (out0:List tS) (name1:List Int) (n2:Int):Option (List tS) :=
 (bZ name1).bind λt9 =>
 (hZ n2).bind λt11 =>
 (uv out0 [(t9,t11.1,t11.2.1,t11.2.2.1,t11.2.2.2)]).bind λzs14 =>
 some zs14
def lb:FL:=(351,⟨[.val false (.one (.sl u9)) true,.val false vW false,.val false tW false],[.val false (.one (.sl u9)) (some true)],λa=>af a.1 a.2.1 a.2.2⟩)::l9
theorem qs:Gd lb:=tZ qr 351 Tryz.f351 [] Tryz.func351
def fO (b0:tQ) (c1:Int) (p2:Int):Option Int :=
 cond (c1==1)
 ((at? b0.2.2.1 p2).bind λx13 =>
 cond x13.1 (some 1) (some 0))
 (cond (c1==2)
 ((at? b0.2.2.1 p2).bind λx21 =>
 some x21.2.1)
 (cond (c1==3)
 ((dU b0.1 b0.2.2.1 p2).bind λt31 =>
 some t31)
 ((at? b0.2.2.2.2.2.1 p2).bind λx36 =>
 some x36)))
def lc:FL:=(352,⟨[.val true uf false,.val false tW false,.val false tW false],[.val false tW (some true)],λa=>fO a.1 a.2.1 a.2.2⟩)::lb
theorem qt:Gd lc:=tZ qs 352 Tryz.f352 [] Tryz.func352
def i0 (r0:ub) (c1:Int):Option Int :=
 cond (c1==1) (some 1) (cond (c1==2) (some r0.2.1) (some r0.2.2))
def ld:FL:=(353,⟨[.val true uQ false,.val false tW false],[.val false tW (some true)],λa=>i0 a.1 a.2⟩)::lc
theorem qu:Gd ld:=tZ qt 353 Tryz.f353 [] Tryz.func353
def ia (p0:tQ) (t4:Int) (t5:Int) (t3_1:List tS):Option ((Int×List tS)⊕(List tS)) :=
 cond (decide (t5<(p0.2.2.1.length:Int)))
 ((fO p0 t4 t5).bind λt59 =>
 (af t3_1 [2,t4,tR (t5+1)] t59).bind λt60 =>
 some (.inl (tR (t5+1),t60)))
 (some (.inr t3_1))
def ib (p0:tQ) (t4:Int) (t3:List tS):Option ((Int×List tS)⊕(List tS)) :=
 cond (decide (t4<=4))
 ((loop (λz=>ia p0 t4 z.1 z.2) (0,t3)).bind λd =>
 some (.inl (tR (t4+1),d)))
 (some (.inr t3))
def ic (p0:tQ) (t6:Int) (t7:Int) (t3_5:List tS):Option ((Int×List tS)⊕(List tS)) :=
 cond (decide (t7<(p0.2.2.2.2.1.length:Int)))
 ((at? p0.2.2.2.2.1 t7).bind λx79 =>
 (at? p0.2.2.2.2.1 t7).bind λx87 =>
 (i0 x87 t6).bind λt90 =>
 (af t3_5 [3,t6,x79.1] t90).bind λt91 =>
 some (.inl (tR (t7+1),t91)))
 (some (.inr t3_5))
def e9 (p0:tQ) (t6:Int) (t3_4:List tS):Option ((Int×List tS)⊕(List tS)) :=
 cond (decide (t6<=3))
 ((loop (λz=>ic p0 t6 z.1 z.2) (0,t3_4)).bind λd_2 =>
 some (.inl (tR (t6+1),d_2)))
 (some (.inr t3_4))
def ie (p0:tQ) (t8:Int) (t3_8:List tS):Option ((Int×List tS)⊕(List tS)) :=
 cond (decide (t8<(p0.2.2.2.1.length:Int)))
 ((at? p0.2.2.2.1 t8).bind λx103 =>
 (at? p0.2.2.2.1 t8).bind λx109 =>
 (at? p0.2.2.2.1 t8).bind λx116 =>
 (af t3_8 [4,1,x103.1,x109.2.1] (tR (x116.2.2.1+1))).bind λt120 =>
 some (.inl (tR (t8+1),t120)))
 (some (.inr t3_8))
def cG (p0:tQ):Option (List tS) :=
 (aZ p0).bind λt10 =>
 cond (!t10)
 (some ([]:List tS))
 ((bZ ([1,1]:List Int)).bind λt14 =>
 (af ([(t14,4,0,p0.2.1,[])]) ([1,2]:List Int) p0.2.2.2.2.2.2.1).bind λt24 =>
 (af t24 ([1,3]:List Int) p0.2.2.2.2.2.2.2.1).bind λt29 =>
 (af t29 ([1,4]:List Int) p0.2.2.2.2.2.2.2.2.1).bind λt34 =>
 (af t34 ([1,5]:List Int) p0.2.2.2.2.2.2.2.2.2.1).bind λt39 =>
 (loop (λz=>ib p0 z.1 z.2) (1,t39)).bind λd_1 =>
 (loop (λz=>e9 p0 z.1 z.2) (1,d_1)).bind λd_3 =>
 (loop (λz=>ie p0 z.1 z.2) (0,d_3)).bind λd_4 =>
 some d_4)
def lf:FL:=(306,⟨[.val true uf false],[.val false (.one (.sl u9)) (some true)],λa=>cG a⟩)::ld
theorem qv:Gd lf:=tZ qu 306 Tryz.f306 [(0,⟨⟨[(3,false,[.own 1000000000]),(4,false,[dI])],[(1000000000,.root u9 true)]⟩,
 ⟨[(3,false,[.own 1000000300])],[(1000000300,.root u9 true)]⟩,none⟩),
 (2,⟨⟨[(3,false,[.own 1000002000]),(5,false,[dI])],[(1000002000,.root u9 true)]⟩,
 ⟨[(3,false,[.own 1000002300])],[(1000002300,.root u9 true)]⟩,none⟩),
 (4,⟨⟨[(3,false,[.own 1000004000]),(6,false,[dI])],[(1000004000,.root u9 true)]⟩,
 ⟨[(3,false,[.own 1000004300])],[(1000004300,.root u9 true)]⟩,none⟩),
 (6,⟨⟨[(3,false,[.own 1000006000]),(7,false,[dI])],[(1000006000,.root u9 true)]⟩,
 ⟨[(3,false,[.own 1000006300])],[(1000006300,.root u9 true)]⟩,none⟩),
 (8,⟨⟨[(3,false,[.own 1000008000]),(8,false,[dI])],[(1000008000,.root u9 true)]⟩,
 ⟨[(3,false,[.own 1000008300])],[(1000008300,.root u9 true)]⟩,none⟩)] Tryz.func306
def qw (a0:List Int) (b1:List Int) (i5:Int):Option (Int⊕(Unit⊕Bool)) :=
 (cond (decide (i5<(a0.length:Int))) (some (decide (i5<(b1.length:Int)))) (some false)).bind λt15 =>
 cond t15
 ((at? a0 i5).bind λx20 =>
 (at? b1 i5).bind λx24 =>
 cond (x20 != x24)
 ((at? a0 i5).bind λx29 =>
 (at? b1 i5).bind λx33 =>
 some (.inr (.inr (decide (x29<x33)))))
 (some (.inl (tR (i5+1)))))
 (some (.inr (.inl ())))
def ig (a0:List Int) (b1:List Int):Option Bool :=
 (loop (λz=>qw a0 b1 z) 0).bind (Sum.elim (λd =>
 let t4:=decide ((a0.length:Int)<(b1.length:Int))
 some t4) (λr=>some r))
def lg:FL:=(386,⟨[.val false vW false,.val false vW false],[.val false uF (some true)],λa=>ig a.1 a.2⟩)::lf
theorem qx:Gd lg:=tZ qv 386 Tryz.f386 [(0,⟨⟨(5,false,[dI])::us 11 4 [],[]⟩,
 ⟨[],[]⟩,some ⟨[(4,false,[dB])],[]⟩⟩)] Tryz.func386
def ii (o1:List Int) (t8:List tS) (i6:Int) (b1:Int) (b2:Int) (b3:List UInt8) (b0_1:List Int) (b4:List Int):Option ((Int×Int×Int×List UInt8×List Int×List Int)⊕((Int×Int×List UInt8×List Int×List Int)⊕(List Int×Int×Int×List UInt8×List Int))) :=
 cond (decide (i6<(t8.length:Int)))
 ((ix t8.length i6).bind λj18 =>
 (t8[j18]?).bind λx20 =>
 (ig o1 x20.1).bind λt21 =>
 cond t21
 ((ix t8.length i6).bind λj24 =>
 (t8[j24]?).bind λx25 =>
 some (.inr (.inr x25)))
 (some (.inl (tR (i6+1),b1,b2,b3,b0_1,b4))))
 (some (.inr (.inl (b1,b2,b3,b0_1,b4))))
def fP (b0:tQ) (o1:List Int):Option tS :=
 (cG b0).bind λt8 =>
 (loop (λz=>ii o1 t8 z.1 z.2.1 z.2.2.1 z.2.2.2.1 z.2.2.2.2.1 z.2.2.2.2.2) (0,0,0,[],[],[])).bind (Sum.elim (λd =>
 (uv ([]:List Int) o1).bind λzs28 =>
 some (zs28,130,0,[],[])) (λr=>some r))
def lh:FL:=(368,⟨[.val true uf false,.val false vW false],[.val true u9 none],λa=>fP a.1 a.2⟩)::lg
theorem qy:Gd lh:=tZ qx 368 Tryz.f368 [(0,⟨⟨[(6,false,[dI])],[(2048,.box [.own 1000000000,dI,dI,dS,.own 1000000001]),(1000000000,.root tW true),(1000000001,.root tW true)]⟩,
 ⟨[],[(2048,.box [.own 1000000300,dI,dI,dS,.own 1000000301]),(1000000300,.root tW true),(1000000301,.root tW true)]⟩,some ⟨[],[(2048,.box [.dat (.sl tW),dI,dI,dS,.dat (.sl tW)])]⟩⟩)] Tryz.func368
def ea (b0:tQ) (from1:List tS) (i6:Int) (out5:List tS):Option ((Int×List tS)⊕(List tS)) :=
 cond (decide (i6<(from1.length:Int)))
 ((at? from1 i6).bind λx16 =>
 cond (x16.2.1==130)
 ((at? from1 i6).bind λx24 =>
 (uv out5 [x24]).bind λzs27 =>
 some (.inl (tR (i6+1),zs27)))
 ((at? from1 i6).bind λx32 =>
 (fP b0 x32.1).bind λt35 =>
 (uv out5 [t35]).bind λzs37 =>
 some (.inl (tR (i6+1),zs37))))
 (some (.inr out5))
def aP (b0:tQ) (from1:List tS):Option (List tS) :=
 (loop (λz=>ea b0 from1 z.1 z.2) (0,([]:List tS))).bind λd =>
 some d
def lj:FL:=(336,⟨[.val true uf false,.val false (.one (.sl u9)) false],[.val false (.one (.sl u9)) (some false)],λa=>aP a.1 a.2⟩)::lh
theorem qz:Gd lj:=tZ qy 336 Tryz.f336 [(0,⟨⟨[(5,false,[.own 1000000000]),(6,false,[dI])],[(1000000000,.root u9 false)]⟩,
 ⟨[(5,false,[.own 1000000300])],[(1000000300,.root u9 false)]⟩,none⟩)] Tryz.func336
def ed (l0:List tS) (i4:Int) (out3:List tS):Option ((Int×List tS)⊕(List tS)) :=
 cond (decide (i4<(l0.length:Int)))
 ((at? l0 i4).bind λx15 =>
 (uv out3 ([(x15.1,5,0,[],[])])).bind λzs21 =>
 some (.inl (tR (i4+1),zs21)))
 (some (.inr out3))
def ca (l0:List tS):Option (List tS) :=
 (loop (λz=>ed l0 z.1 z.2) (0,([]:List tS))).bind λd =>
 some d
def lk:FL:=(337,⟨[.val false (.one (.sl u9)) false],[.val false (.one (.sl u9)) (some false)],λa=>ca a⟩)::lj
theorem qA:Gd lk:=tZ qz 337 Tryz.f337 [(0,⟨⟨[(3,false,[.own 1000000000]),(4,false,[dI])],[(1000000000,.root u9 false)]⟩,
 ⟨[(3,false,[.own 1000000300])],[(1000000300,.root u9 false)]⟩,none⟩)] Tryz.func337
def bf (b0:tQ) (p1:uq) (told8:List tS) (i9:Int) (out7:List tS):Option ((List tS×Int×List tS)⊕(List tS)) :=
 (cond (decide (i9<p1.2.2.2.1)) (some (decide ((told8.length:Int)>0))) (some false)).bind λt39 =>
 (cond t39 (some (decide ((out7.length:Int)<10))) (some false)).bind λt44 =>
 cond t44
 ((aP b0 told8).bind λt49 =>
 (uv out7 t49).bind λzs52 =>
 some (.inl (t49,tR (i9+1),zs52)))
 (some (.inr out7))
def qB (b0:tQ) (p1:uq) (told8_1:List tS) (i9_1:Int) (out7_2:List tS):Option ((List tS×Int×List tS)⊕(List tS)) :=
 (cond (decide (i9_1<p1.2.2.2.1)) (some (decide ((told8_1.length:Int)>0))) (some false)).bind λt39_1 =>
 (cond t39_1 (some (decide ((out7_2.length:Int)<10))) (some false)).bind λt44_1 =>
 cond t44_1
 ((aP b0 told8_1).bind λt49_1 =>
 (uv out7_2 t49_1).bind λzs52_1 =>
 some (.inl (t49_1,tR (i9_1+1),zs52_1)))
 (some (.inr out7_2))
def fQ (b0:tQ) (p1:uq):Option (List tS) :=
 cond (decide (p1.2.2.1>(p1.2.2.2.2.length:Int)))
 (let k5:=(p1.2.2.2.2.length:Int)
 (ca p1.2.2.2.2).bind λt22 =>
 (vE t22.length 0 k5).bind λp =>
 (aP b0 ((t22.take p.2).drop p.1)).bind λt27 =>
 (cut t22 k5 (t22.length:Int)).bind λt30 =>
 (loop (λz=>bf b0 p1 z.1 z.2.1 z.2.2) (t30,0,t27)).bind λd =>
 cond (decide ((d.length:Int)>10))
 ((vE d.length 0 10).bind λp_1 =>
 some ((d.take p_1.2).drop p_1.1))
 (some d))
 ((ca p1.2.2.2.2).bind λt22_1 =>
 (vE t22_1.length 0 p1.2.2.1).bind λp_2 =>
 (aP b0 ((t22_1.take p_2.2).drop p_2.1)).bind λt27_1 =>
 (cut t22_1 p1.2.2.1 (t22_1.length:Int)).bind λt30_1 =>
 (loop (λz=>qB b0 p1 z.1 z.2.1 z.2.2) (t30_1,0,t27_1)).bind λd_1 =>
 cond (decide ((d_1.length:Int)>10))
 ((vE d_1.length 0 10).bind λp_3 =>
 some ((d_1.take p_3.2).drop p_3.1))
 (some d_1))
def ll:FL:=(338,⟨[.val true uf false,.val true vY false],[.val false (.one (.sl u9)) (some false)],λa=>fQ a.1 a.2⟩)::lk
theorem qC:Gd ll:=tZ qA 338 Tryz.f338 [(0,⟨⟨(7,false,[.own 1000000000])::(8,false,[.dat (.sl u9)])::(9,false,[dI])::us 36 3 (us 41 3 []),[(1000000000,.root u9 false)]⟩,
 ⟨[(7,false,[.own 1000000300])],[(1000000300,.root u9 false)]⟩,none⟩)] Tryz.func338
def ij (o1:List Int) (t8:List tS) (i6:Int) (b0_1:Int) (b1:Int) (b2:List UInt8) (b3:List Int):Option ((Int×Int×Int×List UInt8×List Int)⊕((Int×Int×List UInt8×List Int)⊕(Int×Int×List UInt8×List Int))) :=
 cond (decide (i6<(t8.length:Int)))
 ((ix t8.length i6).bind λj17 =>
 (t8[j17]?).bind λx19 =>
 (bV x19.1 o1).bind λt21 =>
 cond t21
 ((ix t8.length i6).bind λj24 =>
 (t8[j24]?).bind λx26 =>
 some (.inr (.inr x26.2)))
 (some (.inl (tR (i6+1),b0_1,b1,b2,b3))))
 (some (.inr (.inl (b0_1,b1,b2,b3))))
def fR (b0:tQ) (o1:List Int):Option wN :=
 (cG b0).bind λt8 =>
 (loop (λz=>ij o1 t8 z.1 z.2.1 z.2.2.1 z.2.2.2.1 z.2.2.2.2) (0,0,0,[],[])).bind (Sum.elim (λd =>
 some (128,0,[],[])) (λr=>some r))
def lm:FL:=(339,⟨[.val true uf false,.val false vW false],[.val true xU none],λa=>fR a.1 a.2⟩)::ll
theorem qD:Gd lm:=tZ qC 339 Tryz.f339 [(0,⟨⟨[(6,false,[dI])],[(2048,.box [dI,dI,dS,.own 1000000000]),(1000000000,.root tW true)]⟩,
 ⟨[],[(2048,.box [dI,dI,dS,.own 1000000300]),(1000000300,.root tW true)]⟩,some ⟨[],[(2048,.box [dI,dI,dS,.dat (.sl tW)])]⟩⟩)] Tryz.func339
def cH (b0:tQ) (p1:uq) (i6:Int) (out5:List tS):Option ((Int×List tS)⊕(List tS)) :=
 cond (decide (i6<(p1.2.2.2.2.length:Int)))
 ((at? p1.2.2.2.2 i6).bind λx34 =>
 (uv ([]:List Int) x34.1).bind λzs37 =>
 (at? p1.2.2.2.2 i6).bind λx42 =>
 (fR b0 x42.1).bind λt45 =>
 (uv out5 [(zs37,t45.1,t45.2.1,t45.2.2.1,t45.2.2.2)]).bind λzs48 =>
 some (.inl (tR (i6+1),zs48)))
 (some (.inr out5))
def fS (b0:tQ) (p1:uq):Option (List tS) :=
 cond (p1.1==161)
 ((ca p1.2.2.2.2).bind λt14 =>
 (aP b0 t14).bind λt15 =>
 some t15)
 (cond (p1.1==165)
 ((fQ b0 p1).bind λt20 =>
 some t20)
 ((loop (λz=>cH b0 p1 z.1 z.2) (0,([]:List tS))).bind λd =>
 some d))
def ln:FL:=(278,⟨[.val true uf false,.val true vY false],[.val false (.one (.sl u9)) (some false)],λa=>fS a.1 a.2⟩)::lm
theorem qE:Gd ln:=tZ qD 278 Tryz.f278 [(1,⟨⟨[(5,false,[.own 1000001000]),(6,false,[dI])],[(1000001000,.root u9 false)]⟩,
 ⟨[(5,false,[.own 1000001300])],[(1000001300,.root u9 false)]⟩,none⟩)] Tryz.func278
def fT (b0:tQ) (p1:uq):Option (tQ×uq×Bool) :=
 (hU b0 p1).bind λt12 =>
 cond (!t12)
 ((ak b0).bind λt15 =>
 some (t15,(0,0,0,0,[]),false))
 (cond (p1.1==163)
 ((dZ b0 p1).bind λt23 =>
 some (t23.1,t23.2,true))
 ((fS b0 p1).bind λt32 =>
 (bN t32).bind λt33 =>
 (ak b0).bind λt36 =>
 (bU (162,p1.2.1,0,0,t33) (p1.1==165)).bind λt41 =>
 some (t36,t41,true)))
def lp:FL:=(182,⟨[.val true uf false,.val true vY false],[.val true uf (some true),.val true vY (some true),.val false uF (some true)],λa=>fT a.1 a.2⟩)::ln
theorem qF:Gd lp:=tZ qE 182 Tryz.f182 [] Tryz.func182
def ee (p0:ue) (i1:Int):Option (ue×List uY) :=
 (ix p0.2.2.2.2.2.2.2.2.2.2.2.2.1.length i1).bind λj14 =>
 (p0.2.2.2.2.2.2.2.2.2.2.2.2.1[j14]?).bind λx15 =>
 cond (x15.2.2.1==0)
 ((cA p0 i1).bind λt35 =>
 some (t35,([]:List uY)))
 ((cond (x15.2.2.1==1)
 (some (decide (x15.2.2.2.2.2.2.2.2.2.2.2.2.2.2.2.2.2.2.2.1<(x15.2.2.2.2.2.2.2.1.length:Int))))
 (some false)).bind λt48 =>
 cond t48
 ((ix p0.2.2.2.2.2.2.2.2.2.2.2.2.1.length i1).bind λj57 =>
 (p0.2.2.2.2.2.2.2.2.2.2.2.2.1[j57]?).bind λx =>
 some ((p0.1,p0.2.1,p0.2.2.1,p0.2.2.2.1,p0.2.2.2.2.1,p0.2.2.2.2.2.1,p0.2.2.2.2.2.2.1,p0.2.2.2.2.2.2.2.1,p0.2.2.2.2.2.2.2.2.1,p0.2.2.2.2.2.2.2.2.2.1,p0.2.2.2.2.2.2.2.2.2.2.1,p0.2.2.2.2.2.2.2.2.2.2.2.1,p0.2.2.2.2.2.2.2.2.2.2.2.2.1.set j57 (x.1,x.2.1,x.2.2.1,x.2.2.2.1,x.2.2.2.2.1,x.2.2.2.2.2.1,x.2.2.2.2.2.2.1,x.2.2.2.2.2.2.2.1,x.2.2.2.2.2.2.2.2.1,x.2.2.2.2.2.2.2.2.2.1,x.2.2.2.2.2.2.2.2.2.2.1,x.2.2.2.2.2.2.2.2.2.2.2.1,x.2.2.2.2.2.2.2.2.2.2.2.2.1,x.2.2.2.2.2.2.2.2.2.2.2.2.2.1,x.2.2.2.2.2.2.2.2.2.2.2.2.2.2.1,x.2.2.2.2.2.2.2.2.2.2.2.2.2.2.2.1,x.2.2.2.2.2.2.2.2.2.2.2.2.2.2.2.2.1,x.2.2.2.2.2.2.2.2.2.2.2.2.2.2.2.2.2.1,x.2.2.2.2.2.2.2.2.2.2.2.2.2.2.2.2.2.2.1,tR (x15.2.2.2.2.2.2.2.2.2.2.2.2.2.2.2.2.2.2.2.1+1),x.2.2.2.2.2.2.2.2.2.2.2.2.2.2.2.2.2.2.2.2),p0.2.2.2.2.2.2.2.2.2.2.2.2.2.1,p0.2.2.2.2.2.2.2.2.2.2.2.2.2.2),([]:List uY)))
 (cond (x15.2.2.1==1)
 ((ix p0.2.2.2.2.2.2.2.2.2.2.2.2.1.length i1).bind λj68 =>
 (p0.2.2.2.2.2.2.2.2.2.2.2.2.1[j68]?).bind λx_1 =>
 some ((p0.1,p0.2.1,p0.2.2.1,p0.2.2.2.1,p0.2.2.2.2.1,p0.2.2.2.2.2.1,p0.2.2.2.2.2.2.1,p0.2.2.2.2.2.2.2.1,p0.2.2.2.2.2.2.2.2.1,p0.2.2.2.2.2.2.2.2.2.1,p0.2.2.2.2.2.2.2.2.2.2.1,p0.2.2.2.2.2.2.2.2.2.2.2.1,p0.2.2.2.2.2.2.2.2.2.2.2.2.1.set j68 (x_1.1,x_1.2.1,2,x_1.2.2.2.1,x_1.2.2.2.2.1,x_1.2.2.2.2.2.1,x_1.2.2.2.2.2.2.1,x_1.2.2.2.2.2.2.2.1,x_1.2.2.2.2.2.2.2.2.1,x_1.2.2.2.2.2.2.2.2.2.1,x_1.2.2.2.2.2.2.2.2.2.2.1,x_1.2.2.2.2.2.2.2.2.2.2.2.1,x_1.2.2.2.2.2.2.2.2.2.2.2.2.1,x_1.2.2.2.2.2.2.2.2.2.2.2.2.2.1,x_1.2.2.2.2.2.2.2.2.2.2.2.2.2.2.1,x_1.2.2.2.2.2.2.2.2.2.2.2.2.2.2.2.1,x_1.2.2.2.2.2.2.2.2.2.2.2.2.2.2.2.2.1,x_1.2.2.2.2.2.2.2.2.2.2.2.2.2.2.2.2.2.1,x_1.2.2.2.2.2.2.2.2.2.2.2.2.2.2.2.2.2.2.1,x_1.2.2.2.2.2.2.2.2.2.2.2.2.2.2.2.2.2.2.2.1,x_1.2.2.2.2.2.2.2.2.2.2.2.2.2.2.2.2.2.2.2.2),p0.2.2.2.2.2.2.2.2.2.2.2.2.2.1,p0.2.2.2.2.2.2.2.2.2.2.2.2.2.2),([]:List uY)))
 (cond (x15.2.2.2.1==163)
 ((fN p0 i1).bind λt77 =>
 some t77)
 ((fT (x15.2.2.2.2.2.2.2.2.1,x15.2.2.2.2.2.2.2.2.2.1,x15.2.2.2.2.2.2.2.2.2.2.1,x15.2.2.2.2.2.2.2.2.2.2.2.1,x15.2.2.2.2.2.2.2.2.2.2.2.2.1,x15.2.2.2.2.2.2.2.2.2.2.2.2.2.1,x15.2.2.2.2.2.2.2.2.2.2.2.2.2.2.1,x15.2.2.2.2.2.2.2.2.2.2.2.2.2.2.2.1,x15.2.2.2.2.2.2.2.2.2.2.2.2.2.2.2.2.1,x15.2.2.2.2.2.2.2.2.2.2.2.2.2.2.2.2.2.1,x15.2.2.2.2.2.2.2.2.2.2.2.2.2.2.2.2.2.2.1) (x15.2.2.2.1,x15.2.2.2.2.1,x15.2.2.2.2.2.1,x15.2.2.2.2.2.2.1,x15.2.2.2.2.2.2.2.1)).bind λt21 =>
 (cB p0 i1 t21.2.1).bind λt28 =>
 some t28))))
def lq:FL:=(108,⟨[.ptr uP (some false),.val false tW false],[.val false (.one (.sl wU)) (some false)],λa=>ee a.1 a.2⟩)::lp
theorem qG:Gd lq:=tZ qF 108 Tryz.f108 [] Tryz.func108
def ef (n1:Int) (i8:Int) (b0:Int) (b1:List UInt8) (b6:Int) (b7:Int) (b8:Int) (b9:Int) (b10:Int) (b11:List UInt8) (b13:Int) (b14:Int) (all7:List uY) (b2:List Pt) (b3:List u0) (b4:List ub) (b5:List Int) (b12:List ut):Option ((Int×Int×List UInt8×Int×Int×Int×Int×Int×List UInt8×Int×Int×List uY×List Pt×List u0×List ub×List Int×List ut)⊕(Int×List UInt8×Int×Int×Int×Int×Int×List UInt8×Int×Int×List uY×List Pt×List u0×List ub×List Int×List ut)) :=
 (cond (decide (i8<n1)) (some (decide ((b12.length:Int)>0))) (some false)).bind λt30 =>
 cond t30
 ((ee (b0,b1,b2,b3,b4,b5,b6,b7,b8,b9,b10,b11,b12,b13,b14) 0).bind λt34 =>
 (uv all7 t34.2).bind λzs35 =>
 some (.inl (tR (i8+1),t34.1.1,t34.1.2.1,t34.1.2.2.2.2.2.2.1,t34.1.2.2.2.2.2.2.2.1,t34.1.2.2.2.2.2.2.2.2.1,t34.1.2.2.2.2.2.2.2.2.2.1,t34.1.2.2.2.2.2.2.2.2.2.2.1,t34.1.2.2.2.2.2.2.2.2.2.2.2.1,t34.1.2.2.2.2.2.2.2.2.2.2.2.2.2.1,t34.1.2.2.2.2.2.2.2.2.2.2.2.2.2.2,zs35,t34.1.2.2.1,t34.1.2.2.2.1,t34.1.2.2.2.2.1,t34.1.2.2.2.2.2.1,t34.1.2.2.2.2.2.2.2.2.2.2.2.2.1)))
 (some (.inr (b0,b1,b6,b7,b8,b9,b10,b11,b13,b14,all7,b2,b3,b4,b5,b12)))
def cc (a0:ue) (n1:Int):Option (ue×List uY) :=
 (fj a0).bind λt10 =>
 (fq a0).bind λt13 =>
 (cond (!t13)
 (some true)
 ((ac n1 0 500).bind λt17 =>
 some (!t17))).bind λt19 =>
 cond t19
 (some (t10,([]:List uY)))
 ((loop (λz=>ef n1 z.1 z.2.1 z.2.2.1 z.2.2.2.1 z.2.2.2.2.1 z.2.2.2.2.2.1 z.2.2.2.2.2.2.1 z.2.2.2.2.2.2.2.1 z.2.2.2.2.2.2.2.2.1 z.2.2.2.2.2.2.2.2.2.1 z.2.2.2.2.2.2.2.2.2.2.1 z.2.2.2.2.2.2.2.2.2.2.2.1 z.2.2.2.2.2.2.2.2.2.2.2.2.1 z.2.2.2.2.2.2.2.2.2.2.2.2.2.1 z.2.2.2.2.2.2.2.2.2.2.2.2.2.2.1 z.2.2.2.2.2.2.2.2.2.2.2.2.2.2.2.1 z.2.2.2.2.2.2.2.2.2.2.2.2.2.2.2.2) (0,t10.1,t10.2.1,t10.2.2.2.2.2.2.1,t10.2.2.2.2.2.2.2.1,t10.2.2.2.2.2.2.2.2.1,t10.2.2.2.2.2.2.2.2.2.1,t10.2.2.2.2.2.2.2.2.2.2.1,t10.2.2.2.2.2.2.2.2.2.2.2.1,t10.2.2.2.2.2.2.2.2.2.2.2.2.2.1,t10.2.2.2.2.2.2.2.2.2.2.2.2.2.2,([]:List uY),t10.2.2.1,t10.2.2.2.1,t10.2.2.2.2.1,t10.2.2.2.2.2.1,t10.2.2.2.2.2.2.2.2.2.2.2.2.1)).bind λd =>
 some ((d.1,d.2.1,d.2.2.2.2.2.2.2.2.2.2.2.1,d.2.2.2.2.2.2.2.2.2.2.2.2.1,d.2.2.2.2.2.2.2.2.2.2.2.2.2.1,d.2.2.2.2.2.2.2.2.2.2.2.2.2.2.1,d.2.2.1,d.2.2.2.1,d.2.2.2.2.1,d.2.2.2.2.2.1,d.2.2.2.2.2.2.1,d.2.2.2.2.2.2.2.1,d.2.2.2.2.2.2.2.2.2.2.2.2.2.2.2,d.2.2.2.2.2.2.2.2.1,d.2.2.2.2.2.2.2.2.2.1),d.2.2.2.2.2.2.2.2.2.2.1))
def lr:FL:=(39,⟨[.val true uP false,.val false tW false],[.val true uP none,.val false (.one (.sl wU)) none],λa=>cc a.1 a.2⟩)::lq
theorem qH:Gd lr:=tZ qG 39 Tryz.f39 [(0,⟨⟨(7,false,[.own 1000000000])::(8,false,[dI])::us 26 4 [],[(265216,.box [dI,dS,.own 1000000001,.own 1000000002,.own 1000000003,.own 1000000004,dI,dI,dI,dI,dI,dS,.own 1000000005,dI,dI]),(1000000000,.root wU false),(1000000001,.root vP false),(1000000002,.root ur false),(1000000003,.root uQ false),(1000000004,.root tW false),(1000000005,.root vJ false)]⟩,
 ⟨[(7,false,[.own 1000000300])],[(265216,.box [dI,dS,.own 1000000301,.own 1000000302,.own 1000000303,.own 1000000304,dI,dI,dI,dI,dI,dS,.own 1000000305,dI,dI]),(1000000300,.root wU false),(1000000301,.root vP false),(1000000302,.root ur false),(1000000303,.root uQ false),(1000000304,.root tW false),(1000000305,.root vJ false)]⟩,none⟩)] Tryz.func39
def qI (l0:List u0) (t8:Int) (out3:List u0):Option ((Int×List u0)⊕(List u0)) :=
 cond (decide (t8<(l0.length:Int)))
 ((at? l0 t8).bind λx10 =>
 cond (!x10.2.2.2.2)
 (cond (decide (x10.2.2.2.1>=4))
 (some (.inl (tR (t8+1),out3)))
 ((uv out3 [(x10.1,x10.2.1,x10.2.2.1,tR (x10.2.2.2.1+1),x10.2.2.2.2)]).bind λzs25 =>
 some (.inl (tR (t8+1),zs25))))
 ((uv out3 [x10]).bind λzs25_1 =>
 some (.inl (tR (t8+1),zs25_1))))
 (some (.inr out3))
def lu (l0:List u0):Option (List u0) :=
 (loop (λz=>qI l0 z.1 z.2) (0,[])).bind λd =>
 some d
def lv:FL:=(297,⟨[.val false (.one (.sl ur)) false],[.val false (.one (.sl ur)) (some true)],λa=>lu a⟩)::lr
theorem qJ:Gd lv:=tZ qH 297 Tryz.f297 [(0,⟨⟨[(3,false,[.own 1000000000]),(8,false,[dI])],[(1000000000,.root ur true)]⟩,
 ⟨[(3,false,[.own 1000000300])],[(1000000300,.root ur true)]⟩,none⟩)] Tryz.func297
def qK (b0:tQ):Option tQ :=
 (aj b0).bind λt5 =>
 (aQ b0).bind λt7 =>
 cond t7
 ((bg b0.2.2.2.2.2.2.1).bind λt10 =>
 (lu b0.2.2.2.1).bind λt14 =>
 (bv (t5.1,t5.2.1,t5.2.2.1,t14,t5.2.2.2.2.1,t5.2.2.2.2.2.1,t10,t5.2.2.2.2.2.2.2.1,t5.2.2.2.2.2.2.2.2.1,t5.2.2.2.2.2.2.2.2.2.1,t5.2.2.2.2.2.2.2.2.2.2)).bind λt16 =>
 some t16)
 (some t5)
def ae:FL:=(209,⟨[.val true uf false],[.val true uf (some true)],λa=>qK a⟩)::lv
theorem aC:Gd ae:=tZ qJ 209 Tryz.f209 [] Tryz.func209
def fU (i1:Int) (t5:Int) (l:List Pt):Option ((Int×Int×List Pt)⊕(Int×List Pt)) :=
 cond (decide (t5<(l.length:Int)))
 ((ix l.length t5).bind λj17 =>
 (l[j17]?).bind λx =>
 let ls:List Pt:=l.set j17 ((i1.tmod 3)==0,x.2.1,x.2.2.1,x.2.2.2.1,x.2.2.2.2.1,x.2.2.2.2.2.1,x.2.2.2.2.2.2.1,x.2.2.2.2.2.2.2)
 (ix ls.length t5).bind λj24 =>
 (ls[j24]?).bind λx_1 =>
 let ls_1:List Pt:=ls.set j24 (x_1.1,tR (i1+1),x_1.2.2.1,x_1.2.2.2.1,x_1.2.2.2.2.1,x_1.2.2.2.2.2.1,x_1.2.2.2.2.2.2.1,x_1.2.2.2.2.2.2.2)
 (ix ls_1.length t5).bind λj33 =>
 (ls_1[j33]?).bind λx_2 =>
 let ls_2:List Pt:=ls_1.set j33 (x_2.1,x_2.2.1,((tR ((tR (i1+1))+1)).tmod 3)==0,x_2.2.2.2.1,x_2.2.2.2.2.1,x_2.2.2.2.2.2.1,x_2.2.2.2.2.2.2.1,x_2.2.2.2.2.2.2.2)
 let i1_1:=tR ((tR ((tR (i1+1))+1))+1)
 (ix ls_2.length t5).bind λj40 =>
 (ls_2[j40]?).bind λx_3 =>
 let ls_3:List Pt:=ls_2.set j40 (x_3.1,x_3.2.1,x_3.2.2.1,i1_1,x_3.2.2.2.2.1,x_3.2.2.2.2.2.1,x_3.2.2.2.2.2.2.1,x_3.2.2.2.2.2.2.2)
 (ix ls_3.length t5).bind λj48 =>
 (ls_3[j48]?).bind λx_4 =>
 let ls_4:List Pt:=ls_3.set j48 (x_4.1,x_4.2.1,x_4.2.2.1,x_4.2.2.2.1,tR (i1_1+1),x_4.2.2.2.2.2.1,x_4.2.2.2.2.2.2.1,x_4.2.2.2.2.2.2.2)
 let i1_2:=tR ((tR (i1_1+1))+1)
 (ix ls_4.length t5).bind λj56 =>
 (ls_4[j56]?).bind λx_5 =>
 let ls_5:List Pt:=ls_4.set j56 (x_5.1,x_5.2.1,x_5.2.2.1,x_5.2.2.2.1,x_5.2.2.2.2.1,i1_2,x_5.2.2.2.2.2.2.1,x_5.2.2.2.2.2.2.2)
 (ix ls_5.length t5).bind λj64 =>
 (ls_5[j64]?).bind λx_6 =>
 let ls_6:List Pt:=ls_5.set j64 (x_6.1,x_6.2.1,x_6.2.2.1,x_6.2.2.2.1,x_6.2.2.2.2.1,x_6.2.2.2.2.2.1,tR (i1_2+1),x_6.2.2.2.2.2.2.2)
 let i1_3:=tR ((tR (i1_2+1))+1)
 (ix ls_6.length t5).bind λj72 =>
 (ls_6[j72]?).bind λx_7 =>
 let ls_7:List Pt:=ls_6.set j72 (x_7.1,x_7.2.1,x_7.2.2.1,x_7.2.2.2.1,x_7.2.2.2.2.1,x_7.2.2.2.2.2.1,x_7.2.2.2.2.2.2.1,i1_3)
 some (.inl (tR (i1_3+1),tR (t5+1),ls_7)))
 (some (.inr (i1,l)))
def cI (a0:List Pt) (k1:Int):Option ((List Pt)×Int) :=
 (loop (λz=>fU z.1 z.2.1 z.2.2) (k1,0,a0)).bind λd =>
 some (d.2,d.1)
theorem TC:wK Tryz.prog ⟨tis,ae,[],true⟩:=aC.trees IV
def DO:yb:=⟨false,(.one (.sl vP)),λa k=>cI a k⟩
def DP:List (Nat×u4):=[(0,⟨⟨[(1,false,[dI]),(5,false,[dI])],[(1,.tree vP)]⟩,
 ⟨[(1,false,[dI])],[(1,.tree vP)]⟩,none⟩)]
theorem Ig:xH ⟨tis,ae,[],true⟩ DP Tryz.f164 (vQ Tryz.f164) false (.one (.sl vP))=λa k=>cI a k:=by kernel_rfl
theorem Ih:w9 Tryz.prog 164 DO:=by
 have h:=yf (ann:=DP) (agg:=false) (cs:=(.one (.sl vP))) TC zO Tryz.func164 (by kernel_rfl) (by kernel_rfl:Tryz.f164.body=some (vQ Tryz.f164));rw[Ig]at h;exact h
def CP:List (FuncId×yb):=(164,DO)::[]
theorem NG:∀f M,tO CP f=some M->w9 Tryz.prog f M:=x8 IV Ih
theorem Rb:wK Tryz.prog ⟨tis,ae,CP,true⟩:=aC.trees NG
def fV (k1_1:Int) (i5:Int) (l:List u0):Option ((Int×Int×List u0)⊕(Int×List u0)) :=
 cond (decide (i5<(l.length:Int)))
 ((ix l.length i5).bind λj15 =>
 (l[j15]?).bind λx =>
 let ls:List u0:=l.set j15 (k1_1,x.2.1,x.2.2.1,x.2.2.2.1,x.2.2.2.2)
 (ix ls.length i5).bind λj22 =>
 (ls[j22]?).bind λx_1 =>
 let ls_1:List u0:=ls.set j22 (x_1.1,tR (k1_1+1),x_1.2.2.1,x_1.2.2.2.1,x_1.2.2.2.2)
 let k1_2:=tR ((tR (k1_1+1))+1)
 (ix ls_1.length i5).bind λj29 =>
 (ls_1[j29]?).bind λx_2 =>
 let ls_2:List u0:=ls_1.set j29 (x_2.1,x_2.2.1,k1_2,x_2.2.2.2.1,x_2.2.2.2.2)
 (ix ls_2.length i5).bind λj36 =>
 (ls_2[j36]?).bind λx_3 =>
 let ls_3:List u0:=ls_2.set j36 (x_3.1,x_3.2.1,x_3.2.2.1,tR (k1_2+1),x_3.2.2.2.2)
 let k1_3:=tR ((tR (k1_2+1))+1)
 (ix ls_3.length i5).bind λj45 =>
 (ls_3[j45]?).bind λx_4 =>
 let ls_4:List u0:=ls_3.set j45 (x_4.1,x_4.2.1,x_4.2.2.1,x_4.2.2.2.1,(k1_3.tmod 3)==0)
 some (.inl (tR (k1_3+1),tR (i5+1),ls_4)))
 (some (.inr (k1_1,l)))
def cJ (a0:List u0) (k1:Int):Option ((List u0)×Int) :=
 (loop (λz=>fV z.1 z.2.1 z.2.2) (k1,0,a0)).bind λd =>
 some (d.2,d.1)
def Cc:yb:=⟨false,(.one (.sl ur)),λa k=>cJ a k⟩
def Cd:List (Nat×u4):=[(0,⟨⟨[(1,false,[dI]),(5,false,[dI])],[(1,.tree ur)]⟩,
 ⟨[(1,false,[dI])],[(1,.tree ur)]⟩,none⟩)]
theorem GB:xH ⟨tis,ae,CP,true⟩ Cd Tryz.f165 (vQ Tryz.f165) false (.one (.sl ur))=λa k=>cJ a k:=by kernel_rfl
theorem GC:w9 Tryz.prog 165 Cc:=by
 have h:=yf (ann:=Cd) (agg:=false) (cs:=(.one (.sl ur))) Rb zO Tryz.func165 (by kernel_rfl) (by kernel_rfl:Tryz.f165.body=some (vQ Tryz.f165));rw[GB]at h;exact h
def CQ:List (FuncId×yb):=(165,Cc)::CP
theorem NH:∀f M,tO CQ f=some M->w9 Tryz.prog f M:=x8 NG GC
theorem Rc:wK Tryz.prog ⟨tis,ae,CQ,true⟩:=aC.trees NH
def fW (k1_1:Int) (i5:Int) (l:List ub):Option ((Int×Int×List ub)⊕(Int×List ub)) :=
 cond (decide (i5<(l.length:Int)))
 ((ix l.length i5).bind λj15 =>
 (l[j15]?).bind λx =>
 let ls:List ub:=l.set j15 (k1_1,x.2.1,x.2.2)
 (ix ls.length i5).bind λj22 =>
 (ls[j22]?).bind λx_1 =>
 let ls_1:List ub:=ls.set j22 (x_1.1,tR (k1_1+1),x_1.2.2)
 let k1_2:=tR ((tR (k1_1+1))+1)
 (ix ls_1.length i5).bind λj29 =>
 (ls_1[j29]?).bind λx_2 =>
 let ls_2:List ub:=ls_1.set j29 (x_2.1,x_2.2.1,k1_2)
 some (.inl (tR (k1_2+1),tR (i5+1),ls_2)))
 (some (.inr (k1_1,l)))
def cK (a0:List ub) (k1:Int):Option ((List ub)×Int) :=
 (loop (λz=>fW z.1 z.2.1 z.2.2) (k1,0,a0)).bind λd =>
 some (d.2,d.1)
def Ce:yb:=⟨false,(.one (.sl uQ)),λa k=>cK a k⟩
def Cf:List (Nat×u4):=[(0,⟨⟨[(1,false,[dI]),(5,false,[dI])],[(1,.tree uQ)]⟩,
 ⟨[(1,false,[dI])],[(1,.tree uQ)]⟩,none⟩)]
theorem GD:xH ⟨tis,ae,CQ,true⟩ Cf Tryz.f166 (vQ Tryz.f166) false (.one (.sl uQ))=λa k=>cK a k:=by kernel_rfl
theorem GE:w9 Tryz.prog 166 Ce:=by
 have h:=yf (ann:=Cf) (agg:=false) (cs:=(.one (.sl uQ))) Rc zO Tryz.func166 (by kernel_rfl) (by kernel_rfl:Tryz.f166.body=some (vQ Tryz.f166));rw[GD]at h;exact h
def CR:List (FuncId×yb):=(166,Ce)::CQ
theorem NJ:∀f M,tO CR f=some M->w9 Tryz.prog f M:=x8 NH GE
theorem Re:wK Tryz.prog ⟨tis,ae,CR,true⟩:=aC.trees NJ
def fX (k1_1:Int) (i5:Int) (l:List Int):Option ((Int×Int×List Int)⊕(Int×List Int)) :=
 cond (decide (i5<(l.length:Int)))
 ((ix l.length i5).bind λj15 =>
 (l[j15]?).bind λx =>
 let ls:List Int:=l.set j15 k1_1
 some (.inl (tR (k1_1+1),tR (i5+1),ls)))
 (some (.inr (k1_1,l)))
def bx (a0:List Int) (k1:Int):Option ((List Int)×Int) :=
 (loop (λz=>fX z.1 z.2.1 z.2.2) (k1,0,a0)).bind λd =>
 some (d.2,d.1)
def CS:yb:=⟨false,vW,λa k=>bx a k⟩
def CU:List (Nat×u4):=[(0,⟨⟨[(1,false,[dI]),(5,false,[dI])],[(1,.tree tW)]⟩,
 ⟨[(1,false,[dI])],[(1,.tree tW)]⟩,none⟩)]
theorem HD:xH ⟨tis,ae,CR,true⟩ CU Tryz.f167 (vQ Tryz.f167) false vW=λa k=>bx a k:=by kernel_rfl
theorem HE:w9 Tryz.prog 167 CS:=by
 have h:=yf (ann:=CU) (agg:=false) (cs:=vW) Re zO Tryz.func167 (by kernel_rfl) (by kernel_rfl:Tryz.f167.body=some (vQ Tryz.f167));rw[HD]at h;exact h
def CV:List (FuncId×yb):=(167,CS)::CR
theorem NK:∀f M,tO CV f=some M->w9 Tryz.prog f M:=x8 NJ HE
theorem Rf:wK Tryz.prog ⟨tis,ae,CV,true⟩:=aC.trees NK
def fY (a0:vi) (k1:Int):Option (vi×Int) :=
 (cK a0.1 k1).bind λz =>
 (bx a0.2 z.2).bind λz_1 =>
 some ((z.1,z_1.1),z_1.2)
def CW:yb:=⟨true,wB,λa k=>fY a k⟩
theorem HF:xH ⟨tis,ae,CV,true⟩ [] Tryz.f193 (vQ Tryz.f193) true wB=λa k=>fY a k:=by kernel_rfl
theorem HG:w9 Tryz.prog 193 CW:=by
 have h:=yf (ann:=[]) (agg:=true) (cs:=wB) Rf zO Tryz.func193 (by kernel_rfl) (by kernel_rfl:Tryz.f193.body=some (vQ Tryz.f193));rw[HF]at h;exact h
def CX:List (FuncId×yb):=(193,CW)::CV
theorem NL:∀f M,tO CX f=some M->w9 Tryz.prog f M:=x8 NK HG
theorem Rg:wK Tryz.prog ⟨tis,ae,CX,true⟩:=aC.trees NL
def fZ (a0:tQ) (k1:Int):Option (tQ×Int) :=
 (cI a0.2.2.1 k1).bind λz =>
 (cJ a0.2.2.2.1 z.2).bind λz_1 =>
 (fY (a0.2.2.2.2.1,a0.2.2.2.2.2.1) z_1.2).bind λz_2 =>
 some ((a0.1,a0.2.1,z.1,z_1.1,z_2.1.1,z_2.1.2,a0.2.2.2.2.2.2.1,a0.2.2.2.2.2.2.2.1,a0.2.2.2.2.2.2.2.2.1,a0.2.2.2.2.2.2.2.2.2.1,a0.2.2.2.2.2.2.2.2.2.2),z_2.2)
def Bs:yb:=⟨true,uf,λa k=>fZ a k⟩
theorem FX:xH ⟨tis,ae,CX,true⟩ [] Tryz.f114 (vQ Tryz.f114) true uf=λa k=>fZ a k:=by kernel_rfl
theorem FY:w9 Tryz.prog 114 Bs:=by
 have h:=yf (ann:=[]) (agg:=true) (cs:=uf) Rg zO Tryz.func114 (by kernel_rfl) (by kernel_rfl:Tryz.f114.body=some (vQ Tryz.f114));rw[FX]at h;exact h
def CY:List (FuncId×yb):=(114,Bs)::CX
theorem NM:∀f M,tO CY f=some M->w9 Tryz.prog f M:=x8 NL FY
theorem Rh:wK Tryz.prog ⟨tis,ae,CY,true⟩:=aC.trees NM
def ga (k1_1:Int) (i5:Int) (l:List Int):Option ((Int×Int×List Int)⊕(Int×List Int)) :=
 cond (decide (i5<(l.length:Int)))
 ((ix l.length i5).bind λj16 =>
 (l[j16]?).bind λx =>
 let ls:List Int:=l.set j16 (IntKind.u8.wrap (k1_1))
 some (.inl (tR (k1_1+1),tR (i5+1),ls)))
 (some (.inr (k1_1,l)))
def eg (a0:List Int) (k1:Int):Option ((List Int)×Int) :=
 (loop (λz=>ga z.1 z.2.1 z.2.2) (k1,0,a0)).bind λd =>
 some (d.2,d.1)
def Cg:yb:=⟨false,vh,λa k=>eg a k⟩
def Ch:List (Nat×u4):=[(0,⟨⟨[(1,false,[dI]),(5,false,[dI])],[(1,.tree (.one (.int .u8)))]⟩,
 ⟨[(1,false,[dI])],[(1,.tree (.one (.int .u8)))]⟩,none⟩)]
theorem GF:xH ⟨tis,ae,CY,true⟩ Ch Tryz.f98 (vQ Tryz.f98) false vh=λa k=>eg a k:=by kernel_rfl
theorem GG:w9 Tryz.prog 98 Cg:=by
 have h:=yf (ann:=Ch) (agg:=false) (cs:=vh) Rh zO Tryz.func98 (by kernel_rfl) (by kernel_rfl:Tryz.f98.body=some (vQ Tryz.f98));rw[GF]at h;exact h
def Ej:List (FuncId×yb):=(98,Cg)::CY
theorem Pp:∀f M,tO Ej f=some M->w9 Tryz.prog f M:=x8 NM GG
theorem Sz:wK Tryz.prog ⟨tis,ae,Ej,true⟩:=aC.trees Pp
def gb (k1_1:Int) (i5:Int) (l:List tS):Option ((Int×Int×List tS)⊕(Int×List tS)) :=
 cond (decide (i5<(l.length:Int)))
 ((ix l.length i5).bind λj14 =>
 (l[j14]?).bind λx16 =>
 (l[j14]?).bind λx =>
 (bx x.1 k1_1).bind λz =>
 let ls:List tS:=l.set j14 (z.1,x.2.1,x.2.2.1,x.2.2.2.1,x.2.2.2.2)
 (ix ls.length i5).bind λj22 =>
 (ls[j22]?).bind λx_1 =>
 let ls_1:List tS:=ls.set j22 (x_1.1,z.2,x_1.2.2.1,x_1.2.2.2.1,x_1.2.2.2.2)
 (ix ls_1.length i5).bind λj30 =>
 (ls_1[j30]?).bind λx_2 =>
 let ls_2:List tS:=ls_1.set j30 (x_2.1,x_2.2.1,tR (z.2+1),x_2.2.2.2.1,x_2.2.2.2.2)
 let k1_2:=tR ((tR (z.2+1))+1)
 (bL k1_2).bind λt38 =>
 (ix ls_2.length i5).bind λj39 =>
 (ls_2[j39]?).bind λx_3 =>
 let ls_3:List tS:=ls_2.set j39 (x_3.1,x_3.2.1,x_3.2.2.1,t38,x_3.2.2.2.2)
 (ix ls_3.length i5).bind λj46 =>
 (ls_3[j46]?).bind λx49 =>
 (ls_3[j46]?).bind λx_4 =>
 (bx x_4.2.2.2.2 (tR (k1_2+1))).bind λz_1 =>
 let ls_4:List tS:=ls_3.set j46 (x_4.1,x_4.2.1,x_4.2.2.1,x_4.2.2.2.1,z_1.1)
 some (.inl (z_1.2,tR (i5+1),ls_4)))
 (some (.inr (k1_1,l)))
def cL (a0:List tS) (k1:Int):Option ((List tS)×Int) :=
 (loop (λz=>gb z.1 z.2.1 z.2.2) (k1,0,a0)).bind λd =>
 some (d.2,d.1)
def Ci:yb:=⟨false,(.one (.sl u9)),λa k=>cL a k⟩
def Cj:List (Nat×u4):=[(0,⟨⟨[(1,false,[dI]),(5,false,[dI])],[(1,.tree u9)]⟩,
 ⟨[(1,false,[dI])],[(1,.tree u9)]⟩,none⟩)]
theorem GH:xH ⟨tis,ae,Ej,true⟩ Cj Tryz.f116 (vQ Tryz.f116) false (.one (.sl u9))=λa k=>cL a k:=by kernel_rfl
theorem GI:w9 Tryz.prog 116 Ci:=by
 have h:=yf (ann:=Cj) (agg:=false) (cs:=(.one (.sl u9))) Sz zO Tryz.func116 (by kernel_rfl) (by kernel_rfl:Tryz.f116.body=some (vQ Tryz.f116));rw[GH]at h;exact h
def CZ:List (FuncId×yb):=(116,Ci)::Ej
theorem NN:∀f M,tO CZ f=some M->w9 Tryz.prog f M:=x8 Pp GI
theorem Ri:wK Tryz.prog ⟨tis,ae,CZ,true⟩:=aC.trees NN
def gd (i1:Int) (t5:Int) (l:List ut):Option ((Int×Int×List ut)⊕(Int×List ut)) :=
 cond (decide (t5<(l.length:Int)))
 ((ix l.length t5).bind λj15 =>
 (l[j15]?).bind λx =>
 let ls:List ut:=l.set j15 (i1,x.2.1,x.2.2.1,x.2.2.2.1,x.2.2.2.2.1,x.2.2.2.2.2.1,x.2.2.2.2.2.2.1,x.2.2.2.2.2.2.2.1,x.2.2.2.2.2.2.2.2.1,x.2.2.2.2.2.2.2.2.2.1,x.2.2.2.2.2.2.2.2.2.2.1,x.2.2.2.2.2.2.2.2.2.2.2.1,x.2.2.2.2.2.2.2.2.2.2.2.2.1,x.2.2.2.2.2.2.2.2.2.2.2.2.2.1,x.2.2.2.2.2.2.2.2.2.2.2.2.2.2.1,x.2.2.2.2.2.2.2.2.2.2.2.2.2.2.2.1,x.2.2.2.2.2.2.2.2.2.2.2.2.2.2.2.2.1,x.2.2.2.2.2.2.2.2.2.2.2.2.2.2.2.2.2.1,x.2.2.2.2.2.2.2.2.2.2.2.2.2.2.2.2.2.2.1,x.2.2.2.2.2.2.2.2.2.2.2.2.2.2.2.2.2.2.2.1,x.2.2.2.2.2.2.2.2.2.2.2.2.2.2.2.2.2.2.2.2)
 (ix ls.length t5).bind λj21 =>
 (ls[j21]?).bind λx23 =>
 (ls[j21]?).bind λx_1 =>
 (eg x_1.2.1 (tR (i1+1))).bind λz =>
 let ls_1:List ut:=ls.set j21 (x_1.1,z.1,x_1.2.2.1,x_1.2.2.2.1,x_1.2.2.2.2.1,x_1.2.2.2.2.2.1,x_1.2.2.2.2.2.2.1,x_1.2.2.2.2.2.2.2.1,x_1.2.2.2.2.2.2.2.2.1,x_1.2.2.2.2.2.2.2.2.2.1,x_1.2.2.2.2.2.2.2.2.2.2.1,x_1.2.2.2.2.2.2.2.2.2.2.2.1,x_1.2.2.2.2.2.2.2.2.2.2.2.2.1,x_1.2.2.2.2.2.2.2.2.2.2.2.2.2.1,x_1.2.2.2.2.2.2.2.2.2.2.2.2.2.2.1,x_1.2.2.2.2.2.2.2.2.2.2.2.2.2.2.2.1,x_1.2.2.2.2.2.2.2.2.2.2.2.2.2.2.2.2.1,x_1.2.2.2.2.2.2.2.2.2.2.2.2.2.2.2.2.2.1,x_1.2.2.2.2.2.2.2.2.2.2.2.2.2.2.2.2.2.2.1,x_1.2.2.2.2.2.2.2.2.2.2.2.2.2.2.2.2.2.2.2.1,x_1.2.2.2.2.2.2.2.2.2.2.2.2.2.2.2.2.2.2.2.2)
 (ix ls_1.length t5).bind λj29 =>
 (ls_1[j29]?).bind λx_2 =>
 let ls_2:List ut:=ls_1.set j29 (x_2.1,x_2.2.1,z.2,x_2.2.2.2.1,x_2.2.2.2.2.1,x_2.2.2.2.2.2.1,x_2.2.2.2.2.2.2.1,x_2.2.2.2.2.2.2.2.1,x_2.2.2.2.2.2.2.2.2.1,x_2.2.2.2.2.2.2.2.2.2.1,x_2.2.2.2.2.2.2.2.2.2.2.1,x_2.2.2.2.2.2.2.2.2.2.2.2.1,x_2.2.2.2.2.2.2.2.2.2.2.2.2.1,x_2.2.2.2.2.2.2.2.2.2.2.2.2.2.1,x_2.2.2.2.2.2.2.2.2.2.2.2.2.2.2.1,x_2.2.2.2.2.2.2.2.2.2.2.2.2.2.2.2.1,x_2.2.2.2.2.2.2.2.2.2.2.2.2.2.2.2.2.1,x_2.2.2.2.2.2.2.2.2.2.2.2.2.2.2.2.2.2.1,x_2.2.2.2.2.2.2.2.2.2.2.2.2.2.2.2.2.2.2.1,x_2.2.2.2.2.2.2.2.2.2.2.2.2.2.2.2.2.2.2.2.1,x_2.2.2.2.2.2.2.2.2.2.2.2.2.2.2.2.2.2.2.2.2)
 (ix ls_2.length t5).bind λj36 =>
 (ls_2[j36]?).bind λx_3 =>
 let ls_3:List ut:=ls_2.set j36 (x_3.1,x_3.2.1,x_3.2.2.1,tR (z.2+1),x_3.2.2.2.2.1,x_3.2.2.2.2.2.1,x_3.2.2.2.2.2.2.1,x_3.2.2.2.2.2.2.2.1,x_3.2.2.2.2.2.2.2.2.1,x_3.2.2.2.2.2.2.2.2.2.1,x_3.2.2.2.2.2.2.2.2.2.2.1,x_3.2.2.2.2.2.2.2.2.2.2.2.1,x_3.2.2.2.2.2.2.2.2.2.2.2.2.1,x_3.2.2.2.2.2.2.2.2.2.2.2.2.2.1,x_3.2.2.2.2.2.2.2.2.2.2.2.2.2.2.1,x_3.2.2.2.2.2.2.2.2.2.2.2.2.2.2.2.1,x_3.2.2.2.2.2.2.2.2.2.2.2.2.2.2.2.2.1,x_3.2.2.2.2.2.2.2.2.2.2.2.2.2.2.2.2.2.1,x_3.2.2.2.2.2.2.2.2.2.2.2.2.2.2.2.2.2.2.1,x_3.2.2.2.2.2.2.2.2.2.2.2.2.2.2.2.2.2.2.2.1,x_3.2.2.2.2.2.2.2.2.2.2.2.2.2.2.2.2.2.2.2.2)
 let i1_1:=tR ((tR (z.2+1))+1)
 (ix ls_3.length t5).bind λj44 =>
 (ls_3[j44]?).bind λx_4 =>
 let ls_4:List ut:=ls_3.set j44 (x_4.1,x_4.2.1,x_4.2.2.1,x_4.2.2.2.1,i1_1,x_4.2.2.2.2.2.1,x_4.2.2.2.2.2.2.1,x_4.2.2.2.2.2.2.2.1,x_4.2.2.2.2.2.2.2.2.1,x_4.2.2.2.2.2.2.2.2.2.1,x_4.2.2.2.2.2.2.2.2.2.2.1,x_4.2.2.2.2.2.2.2.2.2.2.2.1,x_4.2.2.2.2.2.2.2.2.2.2.2.2.1,x_4.2.2.2.2.2.2.2.2.2.2.2.2.2.1,x_4.2.2.2.2.2.2.2.2.2.2.2.2.2.2.1,x_4.2.2.2.2.2.2.2.2.2.2.2.2.2.2.2.1,x_4.2.2.2.2.2.2.2.2.2.2.2.2.2.2.2.2.1,x_4.2.2.2.2.2.2.2.2.2.2.2.2.2.2.2.2.2.1,x_4.2.2.2.2.2.2.2.2.2.2.2.2.2.2.2.2.2.2.1,x_4.2.2.2.2.2.2.2.2.2.2.2.2.2.2.2.2.2.2.2.1,x_4.2.2.2.2.2.2.2.2.2.2.2.2.2.2.2.2.2.2.2.2)
 (ix ls_4.length t5).bind λj52 =>
 (ls_4[j52]?).bind λx_5 =>
 let ls_5:List ut:=ls_4.set j52 (x_5.1,x_5.2.1,x_5.2.2.1,x_5.2.2.2.1,x_5.2.2.2.2.1,tR (i1_1+1),x_5.2.2.2.2.2.2.1,x_5.2.2.2.2.2.2.2.1,x_5.2.2.2.2.2.2.2.2.1,x_5.2.2.2.2.2.2.2.2.2.1,x_5.2.2.2.2.2.2.2.2.2.2.1,x_5.2.2.2.2.2.2.2.2.2.2.2.1,x_5.2.2.2.2.2.2.2.2.2.2.2.2.1,x_5.2.2.2.2.2.2.2.2.2.2.2.2.2.1,x_5.2.2.2.2.2.2.2.2.2.2.2.2.2.2.1,x_5.2.2.2.2.2.2.2.2.2.2.2.2.2.2.2.1,x_5.2.2.2.2.2.2.2.2.2.2.2.2.2.2.2.2.1,x_5.2.2.2.2.2.2.2.2.2.2.2.2.2.2.2.2.2.1,x_5.2.2.2.2.2.2.2.2.2.2.2.2.2.2.2.2.2.2.1,x_5.2.2.2.2.2.2.2.2.2.2.2.2.2.2.2.2.2.2.2.1,x_5.2.2.2.2.2.2.2.2.2.2.2.2.2.2.2.2.2.2.2.2)
 let i1_2:=tR ((tR (i1_1+1))+1)
 (ix ls_5.length t5).bind λj60 =>
 (ls_5[j60]?).bind λx_6 =>
 let ls_6:List ut:=ls_5.set j60 (x_6.1,x_6.2.1,x_6.2.2.1,x_6.2.2.2.1,x_6.2.2.2.2.1,x_6.2.2.2.2.2.1,i1_2,x_6.2.2.2.2.2.2.2.1,x_6.2.2.2.2.2.2.2.2.1,x_6.2.2.2.2.2.2.2.2.2.1,x_6.2.2.2.2.2.2.2.2.2.2.1,x_6.2.2.2.2.2.2.2.2.2.2.2.1,x_6.2.2.2.2.2.2.2.2.2.2.2.2.1,x_6.2.2.2.2.2.2.2.2.2.2.2.2.2.1,x_6.2.2.2.2.2.2.2.2.2.2.2.2.2.2.1,x_6.2.2.2.2.2.2.2.2.2.2.2.2.2.2.2.1,x_6.2.2.2.2.2.2.2.2.2.2.2.2.2.2.2.2.1,x_6.2.2.2.2.2.2.2.2.2.2.2.2.2.2.2.2.2.1,x_6.2.2.2.2.2.2.2.2.2.2.2.2.2.2.2.2.2.2.1,x_6.2.2.2.2.2.2.2.2.2.2.2.2.2.2.2.2.2.2.2.1,x_6.2.2.2.2.2.2.2.2.2.2.2.2.2.2.2.2.2.2.2.2)
 (ix ls_6.length t5).bind λj67 =>
 (ls_6[j67]?).bind λx70 =>
 (ls_6[j67]?).bind λx_7 =>
 (cL x_7.2.2.2.2.2.2.2.1 (tR (i1_2+1))).bind λz_1 =>
 let ls_7:List ut:=ls_6.set j67 (x_7.1,x_7.2.1,x_7.2.2.1,x_7.2.2.2.1,x_7.2.2.2.2.1,x_7.2.2.2.2.2.1,x_7.2.2.2.2.2.2.1,z_1.1,x_7.2.2.2.2.2.2.2.2.1,x_7.2.2.2.2.2.2.2.2.2.1,x_7.2.2.2.2.2.2.2.2.2.2.1,x_7.2.2.2.2.2.2.2.2.2.2.2.1,x_7.2.2.2.2.2.2.2.2.2.2.2.2.1,x_7.2.2.2.2.2.2.2.2.2.2.2.2.2.1,x_7.2.2.2.2.2.2.2.2.2.2.2.2.2.2.1,x_7.2.2.2.2.2.2.2.2.2.2.2.2.2.2.2.1,x_7.2.2.2.2.2.2.2.2.2.2.2.2.2.2.2.2.1,x_7.2.2.2.2.2.2.2.2.2.2.2.2.2.2.2.2.2.1,x_7.2.2.2.2.2.2.2.2.2.2.2.2.2.2.2.2.2.2.1,x_7.2.2.2.2.2.2.2.2.2.2.2.2.2.2.2.2.2.2.2.1,x_7.2.2.2.2.2.2.2.2.2.2.2.2.2.2.2.2.2.2.2.2)
 (ix ls_7.length t5).bind λj76 =>
 (ls_7[j76]?).bind λx_8 =>
 let ls_8:List ut:=ls_7.set j76 (x_8.1,x_8.2.1,x_8.2.2.1,x_8.2.2.2.1,x_8.2.2.2.2.1,x_8.2.2.2.2.2.1,x_8.2.2.2.2.2.2.1,x_8.2.2.2.2.2.2.2.1,z_1.2,x_8.2.2.2.2.2.2.2.2.2.1,x_8.2.2.2.2.2.2.2.2.2.2.1,x_8.2.2.2.2.2.2.2.2.2.2.2.1,x_8.2.2.2.2.2.2.2.2.2.2.2.2.1,x_8.2.2.2.2.2.2.2.2.2.2.2.2.2.1,x_8.2.2.2.2.2.2.2.2.2.2.2.2.2.2.1,x_8.2.2.2.2.2.2.2.2.2.2.2.2.2.2.2.1,x_8.2.2.2.2.2.2.2.2.2.2.2.2.2.2.2.2.1,x_8.2.2.2.2.2.2.2.2.2.2.2.2.2.2.2.2.2.1,x_8.2.2.2.2.2.2.2.2.2.2.2.2.2.2.2.2.2.2.1,x_8.2.2.2.2.2.2.2.2.2.2.2.2.2.2.2.2.2.2.2.1,x_8.2.2.2.2.2.2.2.2.2.2.2.2.2.2.2.2.2.2.2.2)
 (bL (tR (z_1.2+1))).bind λt84 =>
 (ix ls_8.length t5).bind λj85 =>
 (ls_8[j85]?).bind λx_9 =>
 let ls_9:List ut:=ls_8.set j85 (x_9.1,x_9.2.1,x_9.2.2.1,x_9.2.2.2.1,x_9.2.2.2.2.1,x_9.2.2.2.2.2.1,x_9.2.2.2.2.2.2.1,x_9.2.2.2.2.2.2.2.1,x_9.2.2.2.2.2.2.2.2.1,t84,x_9.2.2.2.2.2.2.2.2.2.2.1,x_9.2.2.2.2.2.2.2.2.2.2.2.1,x_9.2.2.2.2.2.2.2.2.2.2.2.2.1,x_9.2.2.2.2.2.2.2.2.2.2.2.2.2.1,x_9.2.2.2.2.2.2.2.2.2.2.2.2.2.2.1,x_9.2.2.2.2.2.2.2.2.2.2.2.2.2.2.2.1,x_9.2.2.2.2.2.2.2.2.2.2.2.2.2.2.2.2.1,x_9.2.2.2.2.2.2.2.2.2.2.2.2.2.2.2.2.2.1,x_9.2.2.2.2.2.2.2.2.2.2.2.2.2.2.2.2.2.2.1,x_9.2.2.2.2.2.2.2.2.2.2.2.2.2.2.2.2.2.2.2.1,x_9.2.2.2.2.2.2.2.2.2.2.2.2.2.2.2.2.2.2.2.2)
 let i1_3:=tR ((tR (z_1.2+1))+1)
 (ix ls_9.length t5).bind λj92 =>
 (ls_9[j92]?).bind λx95 =>
 (ls_9[j92]?).bind λx_10 =>
 (cI x_10.2.2.2.2.2.2.2.2.2.2.1 i1_3).bind λz_2 =>
 let ls_10:List ut:=ls_9.set j92 (x_10.1,x_10.2.1,x_10.2.2.1,x_10.2.2.2.1,x_10.2.2.2.2.1,x_10.2.2.2.2.2.1,x_10.2.2.2.2.2.2.1,x_10.2.2.2.2.2.2.2.1,x_10.2.2.2.2.2.2.2.2.1,x_10.2.2.2.2.2.2.2.2.2.1,z_2.1,x_10.2.2.2.2.2.2.2.2.2.2.2.1,x_10.2.2.2.2.2.2.2.2.2.2.2.2.1,x_10.2.2.2.2.2.2.2.2.2.2.2.2.2.1,x_10.2.2.2.2.2.2.2.2.2.2.2.2.2.2.1,x_10.2.2.2.2.2.2.2.2.2.2.2.2.2.2.2.1,x_10.2.2.2.2.2.2.2.2.2.2.2.2.2.2.2.2.1,x_10.2.2.2.2.2.2.2.2.2.2.2.2.2.2.2.2.2.1,x_10.2.2.2.2.2.2.2.2.2.2.2.2.2.2.2.2.2.2.1,x_10.2.2.2.2.2.2.2.2.2.2.2.2.2.2.2.2.2.2.2.1,x_10.2.2.2.2.2.2.2.2.2.2.2.2.2.2.2.2.2.2.2.2)
 (ix ls_10.length t5).bind λj100 =>
 (ls_10[j100]?).bind λx103 =>
 (ls_10[j100]?).bind λx_11 =>
 (cJ x_11.2.2.2.2.2.2.2.2.2.2.2.1 z_2.2).bind λz_3 =>
 let ls_11:List ut:=ls_10.set j100 (x_11.1,x_11.2.1,x_11.2.2.1,x_11.2.2.2.1,x_11.2.2.2.2.1,x_11.2.2.2.2.2.1,x_11.2.2.2.2.2.2.1,x_11.2.2.2.2.2.2.2.1,x_11.2.2.2.2.2.2.2.2.1,x_11.2.2.2.2.2.2.2.2.2.1,x_11.2.2.2.2.2.2.2.2.2.2.1,z_3.1,x_11.2.2.2.2.2.2.2.2.2.2.2.2.1,x_11.2.2.2.2.2.2.2.2.2.2.2.2.2.1,x_11.2.2.2.2.2.2.2.2.2.2.2.2.2.2.1,x_11.2.2.2.2.2.2.2.2.2.2.2.2.2.2.2.1,x_11.2.2.2.2.2.2.2.2.2.2.2.2.2.2.2.2.1,x_11.2.2.2.2.2.2.2.2.2.2.2.2.2.2.2.2.2.1,x_11.2.2.2.2.2.2.2.2.2.2.2.2.2.2.2.2.2.2.1,x_11.2.2.2.2.2.2.2.2.2.2.2.2.2.2.2.2.2.2.2.1,x_11.2.2.2.2.2.2.2.2.2.2.2.2.2.2.2.2.2.2.2.2)
 (ix ls_11.length t5).bind λj108 =>
 (ls_11[j108]?).bind λx112 =>
 (ls_11[j108]?).bind λx_12 =>
 (cK x_12.2.2.2.2.2.2.2.2.2.2.2.2.1 z_3.2).bind λz_4 =>
 let ls_12:List ut:=ls_11.set j108 (x_12.1,x_12.2.1,x_12.2.2.1,x_12.2.2.2.1,x_12.2.2.2.2.1,x_12.2.2.2.2.2.1,x_12.2.2.2.2.2.2.1,x_12.2.2.2.2.2.2.2.1,x_12.2.2.2.2.2.2.2.2.1,x_12.2.2.2.2.2.2.2.2.2.1,x_12.2.2.2.2.2.2.2.2.2.2.1,x_12.2.2.2.2.2.2.2.2.2.2.2.1,z_4.1,x_12.2.2.2.2.2.2.2.2.2.2.2.2.2.1,x_12.2.2.2.2.2.2.2.2.2.2.2.2.2.2.1,x_12.2.2.2.2.2.2.2.2.2.2.2.2.2.2.2.1,x_12.2.2.2.2.2.2.2.2.2.2.2.2.2.2.2.2.1,x_12.2.2.2.2.2.2.2.2.2.2.2.2.2.2.2.2.2.1,x_12.2.2.2.2.2.2.2.2.2.2.2.2.2.2.2.2.2.2.1,x_12.2.2.2.2.2.2.2.2.2.2.2.2.2.2.2.2.2.2.2.1,x_12.2.2.2.2.2.2.2.2.2.2.2.2.2.2.2.2.2.2.2.2)
 (ix ls_12.length t5).bind λj117 =>
 (ls_12[j117]?).bind λx121 =>
 (ls_12[j117]?).bind λx_13 =>
 (bx x_13.2.2.2.2.2.2.2.2.2.2.2.2.2.1 z_4.2).bind λz_5 =>
 let ls_13:List ut:=ls_12.set j117 (x_13.1,x_13.2.1,x_13.2.2.1,x_13.2.2.2.1,x_13.2.2.2.2.1,x_13.2.2.2.2.2.1,x_13.2.2.2.2.2.2.1,x_13.2.2.2.2.2.2.2.1,x_13.2.2.2.2.2.2.2.2.1,x_13.2.2.2.2.2.2.2.2.2.1,x_13.2.2.2.2.2.2.2.2.2.2.1,x_13.2.2.2.2.2.2.2.2.2.2.2.1,x_13.2.2.2.2.2.2.2.2.2.2.2.2.1,z_5.1,x_13.2.2.2.2.2.2.2.2.2.2.2.2.2.2.1,x_13.2.2.2.2.2.2.2.2.2.2.2.2.2.2.2.1,x_13.2.2.2.2.2.2.2.2.2.2.2.2.2.2.2.2.1,x_13.2.2.2.2.2.2.2.2.2.2.2.2.2.2.2.2.2.1,x_13.2.2.2.2.2.2.2.2.2.2.2.2.2.2.2.2.2.2.1,x_13.2.2.2.2.2.2.2.2.2.2.2.2.2.2.2.2.2.2.2.1,x_13.2.2.2.2.2.2.2.2.2.2.2.2.2.2.2.2.2.2.2.2)
 (ix ls_13.length t5).bind λj127 =>
 (ls_13[j127]?).bind λx_14 =>
 let ls_14:List ut:=ls_13.set j127 (x_14.1,x_14.2.1,x_14.2.2.1,x_14.2.2.2.1,x_14.2.2.2.2.1,x_14.2.2.2.2.2.1,x_14.2.2.2.2.2.2.1,x_14.2.2.2.2.2.2.2.1,x_14.2.2.2.2.2.2.2.2.1,x_14.2.2.2.2.2.2.2.2.2.1,x_14.2.2.2.2.2.2.2.2.2.2.1,x_14.2.2.2.2.2.2.2.2.2.2.2.1,x_14.2.2.2.2.2.2.2.2.2.2.2.2.1,x_14.2.2.2.2.2.2.2.2.2.2.2.2.2.1,z_5.2,x_14.2.2.2.2.2.2.2.2.2.2.2.2.2.2.2.1,x_14.2.2.2.2.2.2.2.2.2.2.2.2.2.2.2.2.1,x_14.2.2.2.2.2.2.2.2.2.2.2.2.2.2.2.2.2.1,x_14.2.2.2.2.2.2.2.2.2.2.2.2.2.2.2.2.2.2.1,x_14.2.2.2.2.2.2.2.2.2.2.2.2.2.2.2.2.2.2.2.1,x_14.2.2.2.2.2.2.2.2.2.2.2.2.2.2.2.2.2.2.2.2)
 (ix ls_14.length t5).bind λj135 =>
 (ls_14[j135]?).bind λx_15 =>
 let ls_15:List ut:=ls_14.set j135 (x_15.1,x_15.2.1,x_15.2.2.1,x_15.2.2.2.1,x_15.2.2.2.2.1,x_15.2.2.2.2.2.1,x_15.2.2.2.2.2.2.1,x_15.2.2.2.2.2.2.2.1,x_15.2.2.2.2.2.2.2.2.1,x_15.2.2.2.2.2.2.2.2.2.1,x_15.2.2.2.2.2.2.2.2.2.2.1,x_15.2.2.2.2.2.2.2.2.2.2.2.1,x_15.2.2.2.2.2.2.2.2.2.2.2.2.1,x_15.2.2.2.2.2.2.2.2.2.2.2.2.2.1,x_15.2.2.2.2.2.2.2.2.2.2.2.2.2.2.1,tR (z_5.2+1),x_15.2.2.2.2.2.2.2.2.2.2.2.2.2.2.2.2.1,x_15.2.2.2.2.2.2.2.2.2.2.2.2.2.2.2.2.2.1,x_15.2.2.2.2.2.2.2.2.2.2.2.2.2.2.2.2.2.2.1,x_15.2.2.2.2.2.2.2.2.2.2.2.2.2.2.2.2.2.2.2.1,x_15.2.2.2.2.2.2.2.2.2.2.2.2.2.2.2.2.2.2.2.2)
 let i1_4:=tR ((tR (z_5.2+1))+1)
 (ix ls_15.length t5).bind λj143 =>
 (ls_15[j143]?).bind λx_16 =>
 let ls_16:List ut:=ls_15.set j143 (x_16.1,x_16.2.1,x_16.2.2.1,x_16.2.2.2.1,x_16.2.2.2.2.1,x_16.2.2.2.2.2.1,x_16.2.2.2.2.2.2.1,x_16.2.2.2.2.2.2.2.1,x_16.2.2.2.2.2.2.2.2.1,x_16.2.2.2.2.2.2.2.2.2.1,x_16.2.2.2.2.2.2.2.2.2.2.1,x_16.2.2.2.2.2.2.2.2.2.2.2.1,x_16.2.2.2.2.2.2.2.2.2.2.2.2.1,x_16.2.2.2.2.2.2.2.2.2.2.2.2.2.1,x_16.2.2.2.2.2.2.2.2.2.2.2.2.2.2.1,x_16.2.2.2.2.2.2.2.2.2.2.2.2.2.2.2.1,i1_4,x_16.2.2.2.2.2.2.2.2.2.2.2.2.2.2.2.2.2.1,x_16.2.2.2.2.2.2.2.2.2.2.2.2.2.2.2.2.2.2.1,x_16.2.2.2.2.2.2.2.2.2.2.2.2.2.2.2.2.2.2.2.1,x_16.2.2.2.2.2.2.2.2.2.2.2.2.2.2.2.2.2.2.2.2)
 (ix ls_16.length t5).bind λj151 =>
 (ls_16[j151]?).bind λx_17 =>
 let ls_17:List ut:=ls_16.set j151 (x_17.1,x_17.2.1,x_17.2.2.1,x_17.2.2.2.1,x_17.2.2.2.2.1,x_17.2.2.2.2.2.1,x_17.2.2.2.2.2.2.1,x_17.2.2.2.2.2.2.2.1,x_17.2.2.2.2.2.2.2.2.1,x_17.2.2.2.2.2.2.2.2.2.1,x_17.2.2.2.2.2.2.2.2.2.2.1,x_17.2.2.2.2.2.2.2.2.2.2.2.1,x_17.2.2.2.2.2.2.2.2.2.2.2.2.1,x_17.2.2.2.2.2.2.2.2.2.2.2.2.2.1,x_17.2.2.2.2.2.2.2.2.2.2.2.2.2.2.1,x_17.2.2.2.2.2.2.2.2.2.2.2.2.2.2.2.1,x_17.2.2.2.2.2.2.2.2.2.2.2.2.2.2.2.2.1,tR (i1_4+1),x_17.2.2.2.2.2.2.2.2.2.2.2.2.2.2.2.2.2.2.1,x_17.2.2.2.2.2.2.2.2.2.2.2.2.2.2.2.2.2.2.2.1,x_17.2.2.2.2.2.2.2.2.2.2.2.2.2.2.2.2.2.2.2.2)
 let i1_5:=tR ((tR (i1_4+1))+1)
 (ix ls_17.length t5).bind λj159 =>
 (ls_17[j159]?).bind λx_18 =>
 let ls_18:List ut:=ls_17.set j159 (x_18.1,x_18.2.1,x_18.2.2.1,x_18.2.2.2.1,x_18.2.2.2.2.1,x_18.2.2.2.2.2.1,x_18.2.2.2.2.2.2.1,x_18.2.2.2.2.2.2.2.1,x_18.2.2.2.2.2.2.2.2.1,x_18.2.2.2.2.2.2.2.2.2.1,x_18.2.2.2.2.2.2.2.2.2.2.1,x_18.2.2.2.2.2.2.2.2.2.2.2.1,x_18.2.2.2.2.2.2.2.2.2.2.2.2.1,x_18.2.2.2.2.2.2.2.2.2.2.2.2.2.1,x_18.2.2.2.2.2.2.2.2.2.2.2.2.2.2.1,x_18.2.2.2.2.2.2.2.2.2.2.2.2.2.2.2.1,x_18.2.2.2.2.2.2.2.2.2.2.2.2.2.2.2.2.1,x_18.2.2.2.2.2.2.2.2.2.2.2.2.2.2.2.2.2.1,i1_5,x_18.2.2.2.2.2.2.2.2.2.2.2.2.2.2.2.2.2.2.2.1,x_18.2.2.2.2.2.2.2.2.2.2.2.2.2.2.2.2.2.2.2.2)
 (ix ls_18.length t5).bind λj167 =>
 (ls_18[j167]?).bind λx_19 =>
 let ls_19:List ut:=ls_18.set j167 (x_19.1,x_19.2.1,x_19.2.2.1,x_19.2.2.2.1,x_19.2.2.2.2.1,x_19.2.2.2.2.2.1,x_19.2.2.2.2.2.2.1,x_19.2.2.2.2.2.2.2.1,x_19.2.2.2.2.2.2.2.2.1,x_19.2.2.2.2.2.2.2.2.2.1,x_19.2.2.2.2.2.2.2.2.2.2.1,x_19.2.2.2.2.2.2.2.2.2.2.2.1,x_19.2.2.2.2.2.2.2.2.2.2.2.2.1,x_19.2.2.2.2.2.2.2.2.2.2.2.2.2.1,x_19.2.2.2.2.2.2.2.2.2.2.2.2.2.2.1,x_19.2.2.2.2.2.2.2.2.2.2.2.2.2.2.2.1,x_19.2.2.2.2.2.2.2.2.2.2.2.2.2.2.2.2.1,x_19.2.2.2.2.2.2.2.2.2.2.2.2.2.2.2.2.2.1,x_19.2.2.2.2.2.2.2.2.2.2.2.2.2.2.2.2.2.2.1,tR (i1_5+1),x_19.2.2.2.2.2.2.2.2.2.2.2.2.2.2.2.2.2.2.2.2)
 let i1_6:=tR ((tR (i1_5+1))+1)
 (ix ls_19.length t5).bind λj174 =>
 (ls_19[j174]?).bind λx_20 =>
 let ls_20:List ut:=ls_19.set j174 (x_20.1,x_20.2.1,x_20.2.2.1,x_20.2.2.2.1,x_20.2.2.2.2.1,x_20.2.2.2.2.2.1,x_20.2.2.2.2.2.2.1,x_20.2.2.2.2.2.2.2.1,x_20.2.2.2.2.2.2.2.2.1,x_20.2.2.2.2.2.2.2.2.2.1,x_20.2.2.2.2.2.2.2.2.2.2.1,x_20.2.2.2.2.2.2.2.2.2.2.2.1,x_20.2.2.2.2.2.2.2.2.2.2.2.2.1,x_20.2.2.2.2.2.2.2.2.2.2.2.2.2.1,x_20.2.2.2.2.2.2.2.2.2.2.2.2.2.2.1,x_20.2.2.2.2.2.2.2.2.2.2.2.2.2.2.2.1,x_20.2.2.2.2.2.2.2.2.2.2.2.2.2.2.2.2.1,x_20.2.2.2.2.2.2.2.2.2.2.2.2.2.2.2.2.2.1,x_20.2.2.2.2.2.2.2.2.2.2.2.2.2.2.2.2.2.2.1,x_20.2.2.2.2.2.2.2.2.2.2.2.2.2.2.2.2.2.2.2.1,i1_6)
 some (.inl (tR (i1_6+1),tR (t5+1),ls_20)))
 (some (.inr (i1,l)))
def eh (a0:List ut) (k1:Int):Option ((List ut)×Int) :=
 (loop (λz=>gd z.1 z.2.1 z.2.2) (k1,0,a0)).bind λd =>
 some (d.2,d.1)
def D1:yb:=⟨false,(.one (.sl vJ)),λa k=>eh a k⟩
def D2:List (Nat×u4):=[(0,⟨⟨[(1,false,[dI]),(5,false,[dI])],[(1,.tree vJ)]⟩,
 ⟨[(1,false,[dI])],[(1,.tree vJ)]⟩,none⟩)]
theorem HH:xH ⟨tis,ae,CZ,true⟩ D2 Tryz.f115 (vQ Tryz.f115) false (.one (.sl vJ))=λa k=>eh a k:=by kernel_rfl
theorem HI:w9 Tryz.prog 115 D1:=by
 have h:=yf (ann:=D2) (agg:=false) (cs:=(.one (.sl vJ))) Ri zO Tryz.func115 (by kernel_rfl) (by kernel_rfl:Tryz.f115.body=some (vQ Tryz.f115));rw[HH]at h;exact h
def D3:List (FuncId×yb):=(115,D1)::CZ
theorem NO:∀f M,tO D3 f=some M->w9 Tryz.prog f M:=x8 NN HI
theorem Rj:wK Tryz.prog ⟨tis,ae,D3,true⟩:=aC.trees NO
def cM (a0:ue) (k1:Int):Option (ue×Int) :=
 (fZ (a0.1,a0.2.1,a0.2.2.1,a0.2.2.2.1,a0.2.2.2.2.1,a0.2.2.2.2.2.1,a0.2.2.2.2.2.2.1,a0.2.2.2.2.2.2.2.1,a0.2.2.2.2.2.2.2.2.1,a0.2.2.2.2.2.2.2.2.2.1,a0.2.2.2.2.2.2.2.2.2.2.1) k1).bind λz =>
 (eh a0.2.2.2.2.2.2.2.2.2.2.2.2.1 z.2).bind λz_1 =>
 some ((a0.1,a0.2.1,z.1.2.2.1,z.1.2.2.2.1,z.1.2.2.2.2.1,z.1.2.2.2.2.2.1,a0.2.2.2.2.2.2.1,a0.2.2.2.2.2.2.2.1,a0.2.2.2.2.2.2.2.2.1,a0.2.2.2.2.2.2.2.2.2.1,a0.2.2.2.2.2.2.2.2.2.2.1,a0.2.2.2.2.2.2.2.2.2.2.2.1,z_1.1,a0.2.2.2.2.2.2.2.2.2.2.2.2.2.1,a0.2.2.2.2.2.2.2.2.2.2.2.2.2.2),z_1.2)
def Ck:yb:=⟨true,uP,λa k=>cM a k⟩
theorem GJ:xH ⟨tis,ae,D3,true⟩ [] Tryz.f35 (vQ Tryz.f35) true uP=λa k=>cM a k:=by kernel_rfl
theorem GK:w9 Tryz.prog 35 Ck:=by
 have h:=yf (ann:=[]) (agg:=true) (cs:=uP) Rj zO Tryz.func35 (by kernel_rfl) (by kernel_rfl:Tryz.f35.body=some (vQ Tryz.f35));rw[GJ]at h;exact h
def Ek:List (FuncId×yb):=(35,Ck)::D3
theorem Pq:∀f M,tO Ek f=some M->w9 Tryz.prog f M:=x8 NO GK
theorem SA:wK Tryz.prog ⟨tis,ae,Ek,true⟩:=aC.trees Pq
def ge (k1_1:Int) (i5:Int) (l:List uY):Option ((Int×Int×List uY)⊕(Int×List uY)) :=
 cond (decide (i5<(l.length:Int)))
 ((ix l.length i5).bind λj15 =>
 (l[j15]?).bind λx =>
 let ls:List uY:=l.set j15 (k1_1,x.2.1,x.2.2.1,x.2.2.2.1,x.2.2.2.2.1,x.2.2.2.2.2)
 (ix ls.length i5).bind λj22 =>
 (ls[j22]?).bind λx_1 =>
 let ls_1:List uY:=ls.set j22 (x_1.1,tR (k1_1+1),x_1.2.2.1,x_1.2.2.2.1,x_1.2.2.2.2.1,x_1.2.2.2.2.2)
 let k1_2:=tR ((tR (k1_1+1))+1)
 (ix ls_1.length i5).bind λj30 =>
 (ls_1[j30]?).bind λx_2 =>
 let ls_2:List uY:=ls_1.set j30 (x_2.1,x_2.2.1,k1_2,x_2.2.2.2.1,x_2.2.2.2.2.1,x_2.2.2.2.2.2)
 (ix ls_2.length i5).bind λj38 =>
 (ls_2[j38]?).bind λx_3 =>
 let ls_3:List uY:=ls_2.set j38 (x_3.1,x_3.2.1,x_3.2.2.1,tR (k1_2+1),x_3.2.2.2.2.1,x_3.2.2.2.2.2)
 let k1_3:=tR ((tR (k1_2+1))+1)
 (ix ls_3.length i5).bind λj46 =>
 (ls_3[j46]?).bind λx_4 =>
 let ls_4:List uY:=ls_3.set j46 (x_4.1,x_4.2.1,x_4.2.2.1,x_4.2.2.2.1,k1_3,x_4.2.2.2.2.2)
 (ix ls_4.length i5).bind λj53 =>
 (ls_4[j53]?).bind λx56 =>
 (ls_4[j53]?).bind λx_5 =>
 (cL x_5.2.2.2.2.2 (tR (k1_3+1))).bind λz =>
 let ls_5:List uY:=ls_4.set j53 (x_5.1,x_5.2.1,x_5.2.2.1,x_5.2.2.2.1,x_5.2.2.2.2.1,z.1)
 some (.inl (z.2,tR (i5+1),ls_5)))
 (some (.inr (k1_1,l)))
def ei (a0:List uY) (k1:Int):Option ((List uY)×Int) :=
 (loop (λz=>ge z.1 z.2.1 z.2.2) (k1,0,a0)).bind λd =>
 some (d.2,d.1)
def Cl:yb:=⟨false,(.one (.sl wU)),λa k=>ei a k⟩
def Cm:List (Nat×u4):=[(0,⟨⟨[(1,false,[dI]),(5,false,[dI])],[(1,.tree wU)]⟩,
 ⟨[(1,false,[dI])],[(1,.tree wU)]⟩,none⟩)]
theorem GL:xH ⟨tis,ae,Ek,true⟩ Cm Tryz.f36 (vQ Tryz.f36) false (.one (.sl wU))=λa k=>ei a k:=by kernel_rfl
theorem GM:w9 Tryz.prog 36 Cl:=by
 have h:=yf (ann:=Cm) (agg:=false) (cs:=(.one (.sl wU))) SA zO Tryz.func36 (by kernel_rfl) (by kernel_rfl:Tryz.f36.body=some (vQ Tryz.f36));rw[GL]at h;exact h
def GN:List (FuncId×yb):=(36,Cl)::Ek
theorem SB:∀f M,tO GN f=some M->w9 Tryz.prog f M:=x8 Pq GM
theorem SC:wK Tryz.prog ⟨tis,ae,GN,true⟩:=aC.trees SB
def yl (p0:ue) (i1:Int):Option Bool :=
 (il p0 1048576).bind λt18 =>
 cond (decide (t18<0))
 (some true)
 ((ce p0).bind λt23 =>
 (cc t23 i1).bind λt25 =>
 (ce p0).bind λt29 =>
 (bz t29 i1).bind λt33 =>
 (bK t33.1 t25.1).bind λt38 =>
 (cond (!t38)
 (some true)
 ((dx t33.2 t25.2).bind λt43 =>
 some (!t43))).bind λt45 =>
 cond t45
 (some false)
 ((ce p0).bind λt48 =>
 (bK t29 t48).bind λt49 =>
 cond (!t49)
 (some false)
 ((cM t29 1).bind λz =>
 (cond (decide (z.2<0))
 (some true)
 ((bK t33.1 t25.1).bind λt59 =>
 some (!t59))).bind λt61 =>
 (cond t61
 (some true)
 ((dx t33.2 t25.2).bind λt65 =>
 some (!t65))).bind λt67 =>
 cond t67
 (some false)
 ((cM t33.1 1).bind λz_1 =>
 (ei t33.2 z_1.2).bind λz_2 =>
 (dD (t33.1.1,t33.1.2.1,z_1.1.2.2.1,z_1.1.2.2.2.1,z_1.1.2.2.2.2.1,z_1.1.2.2.2.2.2.1,t33.1.2.2.2.2.2.2.1,t33.1.2.2.2.2.2.2.2.1,t33.1.2.2.2.2.2.2.2.2.1,t33.1.2.2.2.2.2.2.2.2.2.1,t33.1.2.2.2.2.2.2.2.2.2.2.1,t33.1.2.2.2.2.2.2.2.2.2.2.2.1,z_1.1.2.2.2.2.2.2.2.2.2.2.2.2.1,t33.1.2.2.2.2.2.2.2.2.2.2.2.2.2.1,t33.1.2.2.2.2.2.2.2.2.2.2.2.2.2.2) 1).bind λt76 =>
 cond (decide (t76<0))
 (some false)
 ((dE z_2.1 t76).bind λt81 =>
 cond (decide (t81<0))
 (some false)
 (cond (t81 != z_2.2)
 (some false)
 ((ce p0).bind λt89 =>
 (bz t89 i1).bind λt91 =>
 (bK t91.1 t25.1).bind λt96 =>
 (cond (!t96)
 (some true)
 ((dx t91.2 t25.2).bind λt101 =>
 some (!t101))).bind λt103 =>
 cond t103
 (some false)
 ((dD (t33.1.1,t33.1.2.1,z_1.1.2.2.1,z_1.1.2.2.2.1,z_1.1.2.2.2.2.1,z_1.1.2.2.2.2.2.1,t33.1.2.2.2.2.2.2.1,t33.1.2.2.2.2.2.2.2.1,t33.1.2.2.2.2.2.2.2.2.1,t33.1.2.2.2.2.2.2.2.2.2.1,t33.1.2.2.2.2.2.2.2.2.2.2.1,t33.1.2.2.2.2.2.2.2.2.2.2.2.1,z_1.1.2.2.2.2.2.2.2.2.2.2.2.2.1,t33.1.2.2.2.2.2.2.2.2.2.2.2.2.2.1,t33.1.2.2.2.2.2.2.2.2.2.2.2.2.2.2) 1).bind λt106 =>
 cond (decide (t106<0))
 (some false)
 ((dE z_2.1 t106).bind λt111 =>
 cond (decide (t111<0)) (some false) (cond (t111 != z_2.2) (some false) (some true)))))))))))
def DQ:Fn:=⟨[.val true uP false,.val false tW false],[.val false uF (some true)],λa=>yl a.1 a.2⟩
theorem DR:FG ⟨tis,ae,GN,true⟩ [] Tryz.f6 (vQ Tryz.f6) [.val true uP false,.val false tW false] [.val false uF (some true)]=λa=>yl a.1 a.2:=by kernel_rfl
theorem m_laws_FnExactWorkAll:Bb Tryz.prog 6 DQ:=by
 have h:=K0 (ann:=[]) (ps:=[.val true uP false,.val false tW false]) (rs:=[.val false uF (some true)]) SC zO Tryz.func6 (by kernel_rfl) (by kernel_rfl:Tryz.f6.body=some (vQ Tryz.f6));rw[DR]at h;exact h
end
end Go.V.W

