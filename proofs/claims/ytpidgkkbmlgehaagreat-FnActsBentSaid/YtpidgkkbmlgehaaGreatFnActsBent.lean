/- The law FnActsBent: part of the proof that for every input it returns true. No condition. -/
import Derived.Test.YtpidgkkbmlgehaaGreatFnActsBentP1
set_option linter.unusedVariables false
set_option linter.unusedSimpArgs false
namespace Go.V.W
open Go.Proofs
noncomputable section
def jK:FL:=(218,⟨[.val true vN false,.val false vG false,.val false wD false],[.val true vN (some true)],λa=>cj a.1 a.2.1 a.2.2⟩)::jL
theorem pK:Gd jK:=vH pL 218 Tryz.f218 [] Tryz.func218
def cK (l0:List vD) (t8:Int) (out3:List vD):Option ((Int×List vD)⊕(List vD)) :=
 cond (decide (t8<(l0.length:Int)))
 ((at? l0 t8).bind λx10 =>
 cond (!x10.2.2.2.2)
 (cond (decide (x10.2.2.2.1>=4))
 (some (.inl (vA (t8+1),out3)))
 ((vS out3 [(x10.1,x10.2.1,x10.2.2.1,vA (x10.2.2.2.1+1),x10.2.2.2.2)]).bind λzs25 =>
 some (.inl (vA (t8+1),zs25))))
 ((vS out3 [x10]).bind λzs25_1 =>
 some (.inl (vA (t8+1),zs25_1))))
 (some (.inr out3))
def gy (l0:List vD):Option (List vD) :=
 (loop (λz=>cK l0 z.1 z.2) (0,[])).bind λd =>
 some d
def jM:FL:=(311,⟨[.val false (.one (.sl vX)) false],[.val false (.one (.sl vX)) (some true)],λa=>gy a⟩)::jK
theorem pM:Gd jM:=vH pK 311 Tryz.f311 [(0,⟨⟨[(3,false,[.own 1000000000]),(8,false,[dI])],[(1000000000,.root vX true)]⟩,
 ⟨[(3,false,[.own 1000000300])],[(1000000300,.root vX true)]⟩,none⟩)] Tryz.func311
def ck (b0:vw):Option vw :=
 (al b0).bind λt5 =>
 (bg b0).bind λt7 =>
 cond t7
 ((az b0.2.2.2.2.2.2.1).bind λt10 =>
 (gy b0.2.2.2.1).bind λt14 =>
 (aI (t5.1,t5.2.1,t5.2.2.1,t14,t5.2.2.2.2.1,t5.2.2.2.2.2.1,t10,t5.2.2.2.2.2.2.2.1,t5.2.2.2.2.2.2.2.2.1,t5.2.2.2.2.2.2.2.2.2.1,t5.2.2.2.2.2.2.2.2.2.2)).bind λt16 =>
 some t16)
 (some t5)
def jN:FL:=(219,⟨[.val true vN false],[.val true vN (some true)],λa=>ck a⟩)::jM
theorem pN:Gd jN:=vH pM 219 Tryz.f219 [] Tryz.func219
def bh (p0:vO) (i1:Act):Option (vO×(List wF)×List wU) :=
 cond (i1.1==1)
 ((bA p0 i1.2.2.2.1).bind λt18 =>
 some (t18,[],[]))
 (cond (i1.1==2)
 ((ac i1.2.1 0 (vA ((p0.2.2.2.2.2.2.2.2.2.2.2.2.1.length:Int)-1))).bind λt30 =>
 cond t30
 ((dU p0 i1.2.1).bind λt34 =>
 some (t34.1,[],t34.2))
 (some (p0,[],[])))
 (cond (i1.1==3)
 ((bN (p0.1,p0.2.1,p0.2.2.1,p0.2.2.2.1,p0.2.2.2.2.1,p0.2.2.2.2.2.1,p0.2.2.2.2.2.2.1,p0.2.2.2.2.2.2.2.1,p0.2.2.2.2.2.2.2.2.1,p0.2.2.2.2.2.2.2.2.2.1,p0.2.2.2.2.2.2.2.2.2.2.1) i1.2.1 (i1.2.2.2.2.1,i1.2.2.2.2.2.1,i1.2.2.2.2.2.2.1,i1.2.2.2.2.2.2.2.1)).bind λt46 =>
 some ((t46.1.1,t46.1.2.1,t46.1.2.2.1,t46.1.2.2.2.1,t46.1.2.2.2.2.1,t46.1.2.2.2.2.2.1,t46.1.2.2.2.2.2.2.1,t46.1.2.2.2.2.2.2.2.1,t46.1.2.2.2.2.2.2.2.2.1,t46.1.2.2.2.2.2.2.2.2.2.1,t46.1.2.2.2.2.2.2.2.2.2.2,p0.2.2.2.2.2.2.2.2.2.2.2.1,p0.2.2.2.2.2.2.2.2.2.2.2.2.1,p0.2.2.2.2.2.2.2.2.2.2.2.2.2.1,p0.2.2.2.2.2.2.2.2.2.2.2.2.2.2),t46.2,[]))
 (cond (i1.1==4)
 ((cm (p0.1,p0.2.1,p0.2.2.1,p0.2.2.2.1,p0.2.2.2.2.1,p0.2.2.2.2.2.1,p0.2.2.2.2.2.2.1,p0.2.2.2.2.2.2.2.1,p0.2.2.2.2.2.2.2.2.1,p0.2.2.2.2.2.2.2.2.2.1,p0.2.2.2.2.2.2.2.2.2.2.1) i1.2.1 i1.2.2.2.2.2.2.2.2).bind λt65 =>
 some ((t65.1,t65.2.1,t65.2.2.1,t65.2.2.2.1,t65.2.2.2.2.1,t65.2.2.2.2.2.1,t65.2.2.2.2.2.2.1,t65.2.2.2.2.2.2.2.1,t65.2.2.2.2.2.2.2.2.1,t65.2.2.2.2.2.2.2.2.2.1,t65.2.2.2.2.2.2.2.2.2.2,p0.2.2.2.2.2.2.2.2.2.2.2.1,p0.2.2.2.2.2.2.2.2.2.2.2.2.1,p0.2.2.2.2.2.2.2.2.2.2.2.2.2.1,p0.2.2.2.2.2.2.2.2.2.2.2.2.2.2),[],[]))
 (cond (i1.1==5)
 ((cj (p0.1,p0.2.1,p0.2.2.1,p0.2.2.2.1,p0.2.2.2.2.1,p0.2.2.2.2.2.1,p0.2.2.2.2.2.2.1,p0.2.2.2.2.2.2.2.1,p0.2.2.2.2.2.2.2.2.1,p0.2.2.2.2.2.2.2.2.2.1,p0.2.2.2.2.2.2.2.2.2.2.1) i1.2.1 i1.2.2.1).bind λt79 =>
 some ((t79.1,t79.2.1,t79.2.2.1,t79.2.2.2.1,t79.2.2.2.2.1,t79.2.2.2.2.2.1,t79.2.2.2.2.2.2.1,t79.2.2.2.2.2.2.2.1,t79.2.2.2.2.2.2.2.2.1,t79.2.2.2.2.2.2.2.2.2.1,t79.2.2.2.2.2.2.2.2.2.2,p0.2.2.2.2.2.2.2.2.2.2.2.1,p0.2.2.2.2.2.2.2.2.2.2.2.2.1,p0.2.2.2.2.2.2.2.2.2.2.2.2.2.1,p0.2.2.2.2.2.2.2.2.2.2.2.2.2.2),[],[]))
 (cond (i1.1==6)
 ((ck (p0.1,p0.2.1,p0.2.2.1,p0.2.2.2.1,p0.2.2.2.2.1,p0.2.2.2.2.2.1,p0.2.2.2.2.2.2.1,p0.2.2.2.2.2.2.2.1,p0.2.2.2.2.2.2.2.2.1,p0.2.2.2.2.2.2.2.2.2.1,p0.2.2.2.2.2.2.2.2.2.2.1)).bind λt89 =>
 some ((t89.1,t89.2.1,t89.2.2.1,t89.2.2.2.1,t89.2.2.2.2.1,t89.2.2.2.2.2.1,t89.2.2.2.2.2.2.1,t89.2.2.2.2.2.2.2.1,t89.2.2.2.2.2.2.2.2.1,t89.2.2.2.2.2.2.2.2.2.1,t89.2.2.2.2.2.2.2.2.2.2,p0.2.2.2.2.2.2.2.2.2.2.2.1,p0.2.2.2.2.2.2.2.2.2.2.2.2.1,p0.2.2.2.2.2.2.2.2.2.2.2.2.2.1,p0.2.2.2.2.2.2.2.2.2.2.2.2.2.2),[],[]))
 (some (p0,[],[])))))))
def jO:FL:=(114,⟨[.ptr wO (some true),.val true Ai false],[.val false (.one (.sl Ah)) (some true),.val false (.one (.sl zw)) none],λa=>bh a.1 a.2⟩)::jN
theorem pO:Gd jO:=vH pN 114 Tryz.f114 [] Tryz.func114
def gz (l1:List Act) (t13:Int) (b0_1:Int) (b1:List UInt8) (b6:Int) (b7:Int) (b8:Int) (b9:Int) (b10:Int) (b11:List UInt8) (b13:Int) (b14:Int) (b2:List Pt) (b3:List vD) (b4:List vP) (b5:List Int) (b12:List wM):Option ((Int×Int×List UInt8×Int×Int×Int×Int×Int×List UInt8×Int×Int×List Pt×List vD×List vP×List Int×List wM)⊕(Int×List UInt8×Int×Int×Int×Int×Int×List UInt8×Int×Int×List Pt×List vD×List vP×List Int×List wM)) :=
 cond (decide (t13<(l1.length:Int)))
 ((at? l1 t13).bind λx16 =>
 (cond (decide (t13<60))
 ((ac x16.1 3 6).bind λt23 =>
 some t23)
 (some false)).bind λt24 =>
 cond t24
 ((bh (b0_1,b1,b2,b3,b4,b5,b6,b7,b8,b9,b10,b11,b12,b13,b14) x16).bind λt26 =>
 some (.inl (vA (t13+1),t26.1.1,t26.1.2.1,t26.1.2.2.2.2.2.2.1,t26.1.2.2.2.2.2.2.2.1,t26.1.2.2.2.2.2.2.2.2.1,t26.1.2.2.2.2.2.2.2.2.2.1,t26.1.2.2.2.2.2.2.2.2.2.2.1,t26.1.2.2.2.2.2.2.2.2.2.2.2.1,t26.1.2.2.2.2.2.2.2.2.2.2.2.2.2.1,t26.1.2.2.2.2.2.2.2.2.2.2.2.2.2.2,t26.1.2.2.1,t26.1.2.2.2.1,t26.1.2.2.2.2.1,t26.1.2.2.2.2.2.1,t26.1.2.2.2.2.2.2.2.2.2.2.2.2.1)))
 (some (.inl (vA (t13+1),b0_1,b1,b6,b7,b8,b9,b10,b11,b13,b14,b2,b3,b4,b5,b12))))
 (some (.inr (b0_1,b1,b6,b7,b8,b9,b10,b11,b13,b14,b2,b3,b4,b5,b12)))
def gA (b0:vw) (l1:List Act):Option vw :=
 (al b0).bind λt9 =>
 (loop (λz=>gz l1 z.1 z.2.1 z.2.2.1 z.2.2.2.1 z.2.2.2.2.1 z.2.2.2.2.2.1 z.2.2.2.2.2.2.1 z.2.2.2.2.2.2.2.1 z.2.2.2.2.2.2.2.2.1 z.2.2.2.2.2.2.2.2.2.1 z.2.2.2.2.2.2.2.2.2.2.1 z.2.2.2.2.2.2.2.2.2.2.2.1 z.2.2.2.2.2.2.2.2.2.2.2.2.1 z.2.2.2.2.2.2.2.2.2.2.2.2.2.1 z.2.2.2.2.2.2.2.2.2.2.2.2.2.2.1 z.2.2.2.2.2.2.2.2.2.2.2.2.2.2.2) (0,t9.1,t9.2.1,t9.2.2.2.2.2.2.1,t9.2.2.2.2.2.2.2.1,t9.2.2.2.2.2.2.2.2.1,t9.2.2.2.2.2.2.2.2.2.1,t9.2.2.2.2.2.2.2.2.2.2,[],0,0,t9.2.2.1,t9.2.2.2.1,t9.2.2.2.2.1,t9.2.2.2.2.2.1,[])).bind λd =>
 some (d.1,d.2.1,d.2.2.2.2.2.2.2.2.2.2.1,d.2.2.2.2.2.2.2.2.2.2.2.1,d.2.2.2.2.2.2.2.2.2.2.2.2.1,d.2.2.2.2.2.2.2.2.2.2.2.2.2.1,d.2.2.1,d.2.2.2.1,d.2.2.2.2.1,d.2.2.2.2.2.1,d.2.2.2.2.2.2.1)
def jQ:FL:=(31,⟨[.val true vN false,.val false (.one (.sl Ai)) false],[.val true vN (some true)],λa=>gA a.1 a.2⟩)::jO
theorem pP:Gd jQ:=vH pO 31 Tryz.f31 [(0,⟨⟨(13,false,[dI])::us 21 3 [],[(266240,.box [dI,dS,.own 1000000000,.own 1000000001,.own 1000000002,.own 1000000003,dI,dI,dI,dI,dI,dS,.own 1000000004,dI,dI]),(1000000000,.root xS true),(1000000001,.root vX true),(1000000002,.root wL true),(1000000003,.root vG true),(1000000004,.root A0 true)]⟩,
 ⟨[],[(266240,.box [dI,dS,.own 1000000300,.own 1000000301,.own 1000000302,.own 1000000303,dI,dI,dI,dI,dI,dS,.own 1000000304,dI,dI]),(1000000300,.root xS true),(1000000301,.root vX true),(1000000302,.root wL true),(1000000303,.root vG true),(1000000304,.root A0 true)]⟩,none⟩)] Tryz.func31
def dV (a0:List vB) (b1:List vB) (t13:Int):Option (Int⊕(Unit⊕Bool)) :=
 cond (decide (t13<(a0.length:Int)))
 ((at? a0 t13).bind λx18 =>
 (at? b1 t13).bind λx23 =>
 (aA x18.1 x23.1).bind λt26 =>
 (cond (!t26)
 (some true)
 ((at? a0 t13).bind λx31 =>
 (at? b1 t13).bind λx36 =>
 (aJ x31.2 x36.2).bind λt39 =>
 some (!t39))).bind λt41 =>
 cond t41 (some (.inr (.inr false))) (some (.inl (vA (t13+1)))))
 (some (.inr (.inl ())))
def gB (a0:List vB) (b1:List vB):Option Bool :=
 cond ((a0.length:Int) != (b1.length:Int))
 (some false)
 ((loop (λz=>dV a0 b1 z) 0).bind (Sum.elim (λd =>
 some true) (λr=>some r)))
def jR:FL:=(88,⟨[.val false (.one (.sl vU)) false,.val false (.one (.sl vU)) false],[.val false wD (some true)],λa=>gB a.1 a.2⟩)::jQ
theorem pQ:Gd jR:=vH pP 88 Tryz.f88 [(0,⟨⟨(13,false,[dI])::us 29 12 [],[]⟩,
 ⟨[],[]⟩,some ⟨[(4,false,[dB])],[]⟩⟩)] Tryz.func88
def dW (a0:wd) (b1:wd):Option Bool :=
 (cond (a0.1==b1.1) (some (a0.2.1==b1.2.1)) (some false)).bind λt16 =>
 (cond t16 (some (a0.2.2.1==b1.2.2.1)) (some false)).bind λt23 =>
 (cond t23 (some (a0.2.2.2.1==b1.2.2.2.1)) (some false)).bind λt30 =>
 (cond t30
 ((gB a0.2.2.2.2 b1.2.2.2.2).bind λt36 =>
 some t36)
 (some false)).bind λt37 =>
 some t37
def jS:FL:=(15,⟨[.val true xU false,.val true xU false],[.val false wD (some true)],λa=>dW a.1 a.2⟩)::jR
theorem pR:Gd jS:=vH pQ 15 Tryz.f15 [] Tryz.func15
def dX (a0:List Int) (b1:List Int) (i5:Int):Option (Int⊕(Unit⊕Bool)) :=
 cond (decide (i5<(a0.length:Int)))
 ((at? a0 i5).bind λx19 =>
 (at? b1 i5).bind λx23 =>
 cond (x19 != x23) (some (.inr (.inr false))) (some (.inl (vA (i5+1)))))
 (some (.inr (.inl ())))
def gC (a0:List Int) (b1:List Int):Option Bool :=
 cond ((a0.length:Int) != (b1.length:Int))
 (some false)
 ((loop (λz=>dX a0 b1 z) 0).bind (Sum.elim (λd =>
 some true) (λr=>some r)))
def jT:FL:=(245,⟨[.val false xu false,.val false xu false],[.val false wD (some true)],λa=>gC a.1 a.2⟩)::jS
theorem pS:Gd jT:=vH pR 245 Tryz.f245 [(0,⟨⟨[(5,false,[dI])],[]⟩,
 ⟨[],[]⟩,some ⟨[(4,false,[dB])],[]⟩⟩)] Tryz.func245
def dY (p0:List wM) (i1:List wM) (t5:Int):Option (Int⊕(Unit⊕Bool)) :=
 cond (decide (t5<(p0.length:Int)))
 ((at? p0 t5).bind λx21 =>
 (at? i1 t5).bind λx25 =>
 (cond (x21.1 != x25.1)
 (some true)
 ((gC x21.2.1 x25.2.1).bind λt37 =>
 some (!t37))).bind λt39 =>
 (cond t39 (some true) (some (x21.2.2.1 != x25.2.2.1))).bind λt46 =>
 (cond t46
 (some true)
 ((dW (x21.2.2.2.1,x21.2.2.2.2.1,x21.2.2.2.2.2.1,x21.2.2.2.2.2.2.1,x21.2.2.2.2.2.2.2.1) (x25.2.2.2.1,x25.2.2.2.2.1,x25.2.2.2.2.2.1,x25.2.2.2.2.2.2.1,x25.2.2.2.2.2.2.2.1)).bind λt52 =>
 some (!t52))).bind λt54 =>
 (cond t54
 (some true)
 ((cL (x21.2.2.2.2.2.2.2.2.1,x21.2.2.2.2.2.2.2.2.2.1,x21.2.2.2.2.2.2.2.2.2.2.1,x21.2.2.2.2.2.2.2.2.2.2.2.1,x21.2.2.2.2.2.2.2.2.2.2.2.2.1,x21.2.2.2.2.2.2.2.2.2.2.2.2.2.1,x21.2.2.2.2.2.2.2.2.2.2.2.2.2.2.1,x21.2.2.2.2.2.2.2.2.2.2.2.2.2.2.2.1,x21.2.2.2.2.2.2.2.2.2.2.2.2.2.2.2.2.1,x21.2.2.2.2.2.2.2.2.2.2.2.2.2.2.2.2.2.1,x21.2.2.2.2.2.2.2.2.2.2.2.2.2.2.2.2.2.2.1) (x25.2.2.2.2.2.2.2.2.1,x25.2.2.2.2.2.2.2.2.2.1,x25.2.2.2.2.2.2.2.2.2.2.1,x25.2.2.2.2.2.2.2.2.2.2.2.1,x25.2.2.2.2.2.2.2.2.2.2.2.2.1,x25.2.2.2.2.2.2.2.2.2.2.2.2.2.1,x25.2.2.2.2.2.2.2.2.2.2.2.2.2.2.1,x25.2.2.2.2.2.2.2.2.2.2.2.2.2.2.2.1,x25.2.2.2.2.2.2.2.2.2.2.2.2.2.2.2.2.1,x25.2.2.2.2.2.2.2.2.2.2.2.2.2.2.2.2.2.1,x25.2.2.2.2.2.2.2.2.2.2.2.2.2.2.2.2.2.2.1)).bind λt60 =>
 some (!t60))).bind λt62 =>
 (cond t62
 (some true)
 (some (x21.2.2.2.2.2.2.2.2.2.2.2.2.2.2.2.2.2.2.2.1 != x25.2.2.2.2.2.2.2.2.2.2.2.2.2.2.2.2.2.2.2.1))).bind λt69 =>
 (cond t69
 (some true)
 (some (x21.2.2.2.2.2.2.2.2.2.2.2.2.2.2.2.2.2.2.2.2 != x25.2.2.2.2.2.2.2.2.2.2.2.2.2.2.2.2.2.2.2.2))).bind λt76 =>
 cond t76 (some (.inr (.inr false))) (some (.inl (vA (t5+1)))))
 (some (.inr (.inl ())))
def gD (p0:List wM) (i1:List wM):Option Bool :=
 cond ((p0.length:Int) != (i1.length:Int))
 (some false)
 ((loop (λz=>dY p0 i1 z) 0).bind (Sum.elim (λd =>
 some true) (λr=>some r)))
def jU:FL:=(142,⟨[.val false (.one (.sl A0)) false,.val false (.one (.sl A0)) false],[.val false wD (some true)],λa=>gD a.1 a.2⟩)::jT
theorem pT:Gd jU:=vH pS 142 Tryz.f142 [(0,⟨⟨(5,false,[dI])::us 33 6 (us 41 5 (us 48 6 (us 56 6 (us 64 5 (us 71 5 []))))),[]⟩,
 ⟨[],[]⟩,some ⟨[(4,false,[dB])],[]⟩⟩)] Tryz.func142
def dZ (a0:vO) (b1:vO):Option Bool :=
 (cL (a0.1,a0.2.1,a0.2.2.1,a0.2.2.2.1,a0.2.2.2.2.1,a0.2.2.2.2.2.1,a0.2.2.2.2.2.2.1,a0.2.2.2.2.2.2.2.1,a0.2.2.2.2.2.2.2.2.1,a0.2.2.2.2.2.2.2.2.2.1,a0.2.2.2.2.2.2.2.2.2.2.1) (b1.1,b1.2.1,b1.2.2.1,b1.2.2.2.1,b1.2.2.2.2.1,b1.2.2.2.2.2.1,b1.2.2.2.2.2.2.1,b1.2.2.2.2.2.2.2.1,b1.2.2.2.2.2.2.2.2.1,b1.2.2.2.2.2.2.2.2.2.1,b1.2.2.2.2.2.2.2.2.2.2.1)).bind λt9 =>
 (cond t9
 (some (a0.2.2.2.2.2.2.2.2.2.2.2.1==b1.2.2.2.2.2.2.2.2.2.2.2.1))
 (some false)).bind λt16 =>
 (cond t16
 ((gD a0.2.2.2.2.2.2.2.2.2.2.2.2.1 b1.2.2.2.2.2.2.2.2.2.2.2.2.1).bind λt22 =>
 some t22)
 (some false)).bind λt23 =>
 (cond t23
 (some (a0.2.2.2.2.2.2.2.2.2.2.2.2.2.1==b1.2.2.2.2.2.2.2.2.2.2.2.2.2.1))
 (some false)).bind λt30 =>
 (cond t30
 (some (a0.2.2.2.2.2.2.2.2.2.2.2.2.2.2==b1.2.2.2.2.2.2.2.2.2.2.2.2.2.2))
 (some false)).bind λt37 =>
 some t37
def jV:FL:=(54,⟨[.val true wO false,.val true wO false],[.val false wD (some true)],λa=>dZ a.1 a.2⟩)::jU
theorem pU:Gd jV:=vH pT 54 Tryz.f54 [] Tryz.func54
def e9 (a0:List wU) (b1:List wU) (i5:Int):Option (Int⊕(Unit⊕Bool)) :=
 cond (decide (i5<(a0.length:Int)))
 ((at? a0 i5).bind λx19 =>
 (at? b1 i5).bind λx24 =>
 (cond (x19.1 != x24.1)
 (some true)
 ((at? a0 i5).bind λx31 =>
 (at? b1 i5).bind λx36 =>
 (dW x31.2 x36.2).bind λt39 =>
 some (!t39))).bind λt41 =>
 cond t41 (some (.inr (.inr false))) (some (.inl (vA (i5+1)))))
 (some (.inr (.inl ())))
def ea (a0:List wU) (b1:List wU):Option Bool :=
 cond ((a0.length:Int) != (b1.length:Int))
 (some false)
 ((loop (λz=>e9 a0 b1 z) 0).bind (Sum.elim (λd =>
 some true) (λr=>some r)))
def jW:FL:=(55,⟨[.val false (.one (.sl zw)) false,.val false (.one (.sl zw)) false],[.val false wD (some true)],λa=>ea a.1 a.2⟩)::jV
theorem pV:Gd jW:=vH pU 55 Tryz.f55 [(0,⟨⟨(5,false,[dI])::us 29 12 [],[]⟩,
 ⟨[],[]⟩,some ⟨[(4,false,[dB])],[]⟩⟩)] Tryz.func55
def cM (code0:List Int) (h3_1:Int) (i4:Int):Option ((Int×Int)⊕Int) :=
 (cond (decide (i4<(code0.length:Int))) (some (decide (i4<4000))) (some false)).bind λt15 =>
 cond t15
 ((at? code0 i4).bind λx22 =>
 let h3_2:=xM .i64 (vA ((vA ((vA (h3_1*137))+(vA (x22))))+11)) 1073741823
 some (.inl (h3_2,vA (i4+1))))
 (some (.inr h3_1))
def ed (code0:List Int):Option vM :=
 let h3:=vA (762762+(code0.length:Int))
 (loop (λz=>cM code0 z.1 z.2) (h3,0)).bind λd =>
 some (code0,0,d)
def jX:FL:=(73,⟨[.val false xu false],[.ptr wW none],λa=>ed a⟩)::jW
theorem pW:Gd jX:=vH pV 73 Tryz.f73 [(0,⟨⟨[(3,false,[dI]),(4,false,[dI]),(13,false,[.undef]),(14,false,[.undef])],[]⟩,
 ⟨[(3,false,[dI])],[]⟩,none⟩)] Tryz.func73
def bj (code0:List Int) (most1:Int):Option Int :=
 let n5:=vA (3+(vA ((code0.length:Int).tdiv 12)))
 cond (decide (n5>most1)) (some most1) (some n5)
def jY:FL:=(127,⟨[.val false xu false,.val false vG false],[.val false vG (some true)],λa=>bj a.1 a.2⟩)::jX
theorem pX:Gd jY:=vH pW 127 Tryz.f127 [] Tryz.func127
def aw (n0:Int):Option Int :=
 cond (decide (n0>2147483647))
 (some 2147483647)
 (cond (decide (n0<(-2147483648))) (some (-2147483648)) (some n0))
def jZ:FL:=(198,⟨[.val false vG false],[.val false vG (some true)],λa=>aw a⟩)::jY
theorem pY:Gd jZ:=vH pX 198 Tryz.f198 [] Tryz.func198
def pZ (o0:List Int) (i3:Int):Option (Int⊕(Unit⊕Bool)) :=
 cond (decide (i3<(o0.length:Int)))
 ((at? o0 i3).bind λx12 =>
 (ae x12 0 100000).bind λt14 =>
 cond (!t14) (some (.inr (.inr false))) (some (.inl (vA (i3+1)))))
 (some (.inr (.inl ())))
def bO (o0:List Int):Option Bool :=
 (loop (λz=>pZ o0 z) 0).bind (Sum.elim (λd =>
 (ae (o0.length:Int) 1 10).bind λt18 =>
 some t18) (λr=>some r))
def kc:FL:=(286,⟨[.val false yl false],[.val false wD (some true)],λa=>bO a⟩)::jZ
theorem q8:Gd kc:=vH pY 286 Tryz.f286 [(0,⟨⟨[(3,false,[dI])],[]⟩,
 ⟨[],[]⟩,some ⟨[(2,false,[dB])],[]⟩⟩)] Tryz.func286
def bB (p0:zj):Option Bool :=
 cond (p0.1==5)
 (cond (p0.1==5)
 ((cond (p0.2.1==0) (some (p0.2.2.1==[])) (some false)).bind λt16 =>
 (cond t16 (some ((p0.2.2.2.length:Int)==0)) (some false)).bind λt22 =>
 some t22)
 (cond (p0.1==2)
 ((aw p0.2.1).bind λt27 =>
 (cond (t27==p0.2.1) (some (p0.2.2.1==[])) (some false)).bind λt35 =>
 (cond t35 (some ((p0.2.2.2.length:Int)==0)) (some false)).bind λt41 =>
 some t41)
 (cond (p0.1==4)
 ((cond (decide ((p0.2.2.1.length:Int)<=20)) (some (p0.2.1==0)) (some false)).bind λt52 =>
 (cond t52 (some ((p0.2.2.2.length:Int)==0)) (some false)).bind λt58 =>
 some t58)
 (cond (p0.1==6)
 ((bO p0.2.2.2).bind λt63 =>
 (cond t63 (some (p0.2.1==0)) (some false)).bind λt68 =>
 (cond t68 (some (p0.2.2.1==[])) (some false)).bind λt73 =>
 some t73)
 (some false)))))
 (cond (p0.1==128)
 (cond (p0.1==128)
 ((cond (p0.2.1==0) (some (p0.2.2.1==[])) (some false)).bind λt16_1 =>
 (cond t16_1 (some ((p0.2.2.2.length:Int)==0)) (some false)).bind λt22_1 =>
 some t22_1)
 (cond (p0.1==2)
 ((aw p0.2.1).bind λt27_1 =>
 (cond (t27_1==p0.2.1) (some (p0.2.2.1==[])) (some false)).bind λt35_1 =>
 (cond t35_1 (some ((p0.2.2.2.length:Int)==0)) (some false)).bind λt41_1 =>
 some t41_1)
 (cond (p0.1==4)
 ((cond (decide ((p0.2.2.1.length:Int)<=20)) (some (p0.2.1==0)) (some false)).bind λt52_1 =>
 (cond t52_1 (some ((p0.2.2.2.length:Int)==0)) (some false)).bind λt58_1 =>
 some t58_1)
 (cond (p0.1==6)
 ((bO p0.2.2.2).bind λt63_1 =>
 (cond t63_1 (some (p0.2.1==0)) (some false)).bind λt68_1 =>
 (cond t68_1 (some (p0.2.2.1==[])) (some false)).bind λt73_1 =>
 some t73_1)
 (some false)))))
 (cond (p0.1==130)
 ((cond (p0.2.1==0) (some (p0.2.2.1==[])) (some false)).bind λt16_2 =>
 (cond t16_2 (some ((p0.2.2.2.length:Int)==0)) (some false)).bind λt22_2 =>
 some t22_2)
 (cond (p0.1==2)
 ((aw p0.2.1).bind λt27_2 =>
 (cond (t27_2==p0.2.1) (some (p0.2.2.1==[])) (some false)).bind λt35_2 =>
 (cond t35_2 (some ((p0.2.2.2.length:Int)==0)) (some false)).bind λt41_2 =>
 some t41_2)
 (cond (p0.1==4)
 ((cond (decide ((p0.2.2.1.length:Int)<=20)) (some (p0.2.1==0)) (some false)).bind λt52_2 =>
 (cond t52_2 (some ((p0.2.2.2.length:Int)==0)) (some false)).bind λt58_2 =>
 some t58_2)
 (cond (p0.1==6)
 ((bO p0.2.2.2).bind λt63_2 =>
 (cond t63_2 (some (p0.2.1==0)) (some false)).bind λt68_2 =>
 (cond t68_2 (some (p0.2.2.1==[])) (some false)).bind λt73_2 =>
 some t73_2)
 (some false))))))
def ke:FL:=(287,⟨[.val true Aw false],[.val false wD (some true)],λa=>bB a⟩)::kc
theorem q9:Gd ke:=vH q8 287 Tryz.f287 [] Tryz.func287
def jc (k0:Int):Option Bool :=
 (cond (k0==160) (some true) (some (k0==161))).bind λt8 =>
 (cond t8 (some true) (some (k0==162))).bind λt12 =>
 (cond t12 (some true) (some (k0==163))).bind λt16 =>
 (cond t16 (some true) (some (k0==165))).bind λt20 =>
 some t20
def kf:FL:=(288,⟨[.val false vG false],[.val false wD (some true)],λa=>jc a⟩)::ke
theorem qc:Gd kf:=vH q9 288 Tryz.f288 [] Tryz.func288
def gE (p0:wd) (t3:Int):Option (Int⊕(Unit⊕Bool)) :=
 cond (decide (t3<(p0.2.2.2.2.length:Int)))
 ((at? p0.2.2.2.2 t3).bind λx14 =>
 (bO x14.1).bind λt17 =>
 (cond (!t17)
 (some true)
 ((at? p0.2.2.2.2 t3).bind λx23 =>
 (bB x23.2).bind λt26 =>
 some (!t26))).bind λt28 =>
 cond t28 (some (.inr (.inr false))) (some (.inl (vA (t3+1)))))
 (some (.inr (.inl ())))
def bP (p0:wd):Option Bool :=
 (loop (λz=>gE p0 z) 0).bind (Sum.elim (λd =>
 (cond (p0.1 != 162) (some (p0.1 != 165)) (some false)).bind λt36 =>
 (cond t36
 ((cond (p0.2.2.1 != 0) (some true) (some (p0.2.2.2.1 != 0))).bind λt45 =>
 some t45)
 (some false)).bind λt46 =>
 cond t46
 (some false)
 ((jc p0.1).bind λt49 =>
 (cond t49
 ((aw p0.2.1).bind λt53 =>
 some (t53==p0.2.1))
 (some false)).bind λt57 =>
 (cond t57
 ((ae p0.2.2.1 0 1000).bind λt61 =>
 some t61)
 (some false)).bind λt62 =>
 (cond t62
 ((ae p0.2.2.2.1 0 1000).bind λt66 =>
 some t66)
 (some false)).bind λt67 =>
 (cond t67 (some (decide ((p0.2.2.2.2.length:Int)<=10))) (some false)).bind λt73 =>
 some t73)) (λr=>some r))
def kg:FL:=(174,⟨[.val true xU false],[.val false wD (some true)],λa=>bP a⟩)::kf
theorem qd:Gd kg:=vH qc 174 Tryz.f174 [(0,⟨⟨(3,false,[dI])::us 20 8 [],[]⟩,
 ⟨[],[]⟩,some ⟨[(2,false,[dB])],[]⟩⟩)] Tryz.func174
def jd (p0:wd):Option Bool :=
 (bP p0).bind λt4 =>
 (cond t4 (some (p0.1 != 162)) (some false)).bind λt9 =>
 some t9
def kh:FL:=(246,⟨[.val true xU false],[.val false wD (some true)],λa=>jd a⟩)::kg
theorem qe:Gd kh:=vH qd 246 Tryz.f246 [] Tryz.func246
def fp (j0:wM) (last1:Int):Option Bool :=
 (ae j0.1 1 last1).bind λt8 =>
 (cond (!t8)
 (some true)
 ((ae j0.2.2.1 0 2).bind λt13 =>
 some (!t13))).bind λt15 =>
 (cond t15
 (some true)
 ((ae j0.2.2.2.2.2.2.2.2.2.2.2.2.2.2.2.2.2.2.2.2 0 3).bind λt19 =>
 some (!t19))).bind λt21 =>
 (cond t21
 (some true)
 ((ae j0.2.2.2.2.2.2.2.2.2.2.2.2.2.2.2.2.2.2.2.1 0 (j0.2.2.2.2.2.2.2.1.length:Int)).bind λt29 =>
 some (!t29))).bind λt31 =>
 cond t31
 (some false)
 ((cond (j0.2.2.1==0)
 (some true)
 ((jd (j0.2.2.2.1,j0.2.2.2.2.1,j0.2.2.2.2.2.1,j0.2.2.2.2.2.2.1,j0.2.2.2.2.2.2.2.1)).bind λt38 =>
 (cond t38
 ((aR (j0.2.2.2.2.2.2.2.2.1,j0.2.2.2.2.2.2.2.2.2.1,j0.2.2.2.2.2.2.2.2.2.2.1,j0.2.2.2.2.2.2.2.2.2.2.2.1,j0.2.2.2.2.2.2.2.2.2.2.2.2.1,j0.2.2.2.2.2.2.2.2.2.2.2.2.2.1,j0.2.2.2.2.2.2.2.2.2.2.2.2.2.2.1,j0.2.2.2.2.2.2.2.2.2.2.2.2.2.2.2.1,j0.2.2.2.2.2.2.2.2.2.2.2.2.2.2.2.2.1,j0.2.2.2.2.2.2.2.2.2.2.2.2.2.2.2.2.2.1,j0.2.2.2.2.2.2.2.2.2.2.2.2.2.2.2.2.2.2.1)).bind λt42 =>
 some t42)
 (some false)).bind λt43 =>
 some t43)).bind λt44 =>
 some t44)
def ki:FL:=(144,⟨[.val true A0 false,.val false vG false],[.val false wD (some true)],λa=>fp a.1 a.2⟩)::kh
theorem qf:Gd ki:=vH qe 144 Tryz.f144 [] Tryz.func144
def je (p0:vO) (t3:Int):Option (Int⊕(Unit⊕Bool)) :=
 cond (decide (t3<(p0.2.2.2.2.2.2.2.2.2.2.2.2.1.length:Int)))
 ((at? p0.2.2.2.2.2.2.2.2.2.2.2.2.1 t3).bind λx14 =>
 (fp x14 p0.2.2.2.2.2.2.2.2.2.2.2.2.2.2).bind λt18 =>
 (cond (!t18)
 (some true)
 ((cond (decide (t3>0))
 ((at? p0.2.2.2.2.2.2.2.2.2.2.2.2.1 (vA (t3-1))).bind λx28 =>
 (at? p0.2.2.2.2.2.2.2.2.2.2.2.2.1 t3).bind λx34 =>
 some (decide (x28.1>=x34.1)))
 (some false)).bind λt38 =>
 some t38)).bind λt39 =>
 cond t39 (some (.inr (.inr false))) (some (.inl (vA (t3+1)))))
 (some (.inr (.inl ())))
def cN (p0:vO):Option Bool :=
 (loop (λz=>je p0 z) 0).bind (Sum.elim (λd =>
 (aR (p0.1,p0.2.1,p0.2.2.1,p0.2.2.2.1,p0.2.2.2.2.1,p0.2.2.2.2.2.1,p0.2.2.2.2.2.2.1,p0.2.2.2.2.2.2.2.1,p0.2.2.2.2.2.2.2.2.1,p0.2.2.2.2.2.2.2.2.2.1,p0.2.2.2.2.2.2.2.2.2.2.1)).bind λt42 =>
 (cond t42
 (some (decide ((p0.2.2.2.2.2.2.2.2.2.2.2.1.length:Int)<=20)))
 (some false)).bind λt48 =>
 (cond t48
 (some (decide ((p0.2.2.2.2.2.2.2.2.2.2.2.2.1.length:Int)<=6)))
 (some false)).bind λt54 =>
 (cond t54
 ((ae p0.2.2.2.2.2.2.2.2.2.2.2.2.2.1 0 1000000).bind λt58 =>
 some t58)
 (some false)).bind λt59 =>
 (cond t59
 ((ae p0.2.2.2.2.2.2.2.2.2.2.2.2.2.2 0 1000000).bind λt63 =>
 some t63)
 (some false)).bind λt64 =>
 some t64) (λr=>some r))
def kj:FL:=(57,⟨[.val true wO false],[.val false wD (some true)],λa=>cN a⟩)::ki
theorem qg:Gd kj:=vH qf 57 Tryz.f57 [(0,⟨⟨(3,false,[dI])::us 21 18 [],[]⟩,
 ⟨[],[]⟩,some ⟨[(2,false,[dB])],[]⟩⟩)] Tryz.func57
def ee (l0:List vB) (i4:Int) (out3:List vB):Option ((Int×List vB)⊕(List vB)) :=
 cond (decide (i4<(l0.length:Int)))
 ((at? l0 i4).bind λx15 =>
 (vS ([]:List Int) x15.2.2.2.2).bind λzs21 =>
 (at? l0 i4).bind λx27 =>
 (vS ([]:List Int) x27.1).bind λzs30 =>
 (vS out3 [(zs30,x15.2.1,x15.2.2.1,x15.2.2.2.1,zs21)]).bind λzs34 =>
 some (.inl (vA (i4+1),zs34)))
 (some (.inr out3))
def cO (l0:List vB):Option (List vB) :=
 (loop (λz=>ee l0 z.1 z.2) (0,([]:List vB))).bind λd =>
 some d
def kk:FL:=(85,⟨[.val false (.one (.sl vU)) false],[.val false (.one (.sl vU)) (some true)],λa=>cO a⟩)::kj
theorem qh:Gd kk:=vH qg 85 Tryz.f85 [(0,⟨⟨[(3,false,[.own 1000000000]),(4,false,[dI])],[(1000000000,.root vU true)]⟩,
 ⟨[(3,false,[.own 1000000300])],[(1000000300,.root vU true)]⟩,none⟩)] Tryz.func85
def fq (p0:wd):Option wd :=
 (cO p0.2.2.2.2).bind λt7 =>
 some (p0.1,p0.2.1,p0.2.2.1,p0.2.2.2.1,t7)
def kl:FL:=(241,⟨[.val true xU false],[.val true xU (some true)],λa=>fq a⟩)::kk
theorem qi:Gd kl:=vH qh 241 Tryz.f241 [] Tryz.func241
def fr (a0:vO) (i4:Int) (b0:Int) (b1:List UInt8) (b6:Int) (b7:Int) (b8:Int) (b9:Int) (b10:Int) (b11:List UInt8) (b13:Int) (b14:Int) (b12:List wM):Option ((Int×Int×List UInt8×Int×Int×Int×Int×Int×List UInt8×Int×Int×List wM)⊕(Int×List UInt8×Int×Int×Int×Int×Int×List UInt8×Int×Int×List wM)) :=
 cond (decide (i4<(a0.2.2.2.2.2.2.2.2.2.2.2.2.1.length:Int)))
 ((at? a0.2.2.2.2.2.2.2.2.2.2.2.2.1 i4).bind λx26 =>
 (vS ([]:List Int) x26.2.1).bind λzs31 =>
 (fq (x26.2.2.2.1,x26.2.2.2.2.1,x26.2.2.2.2.2.1,x26.2.2.2.2.2.2.1,x26.2.2.2.2.2.2.2.1)).bind λt35 =>
 (ak (x26.2.2.2.2.2.2.2.2.1,x26.2.2.2.2.2.2.2.2.2.1,x26.2.2.2.2.2.2.2.2.2.2.1,x26.2.2.2.2.2.2.2.2.2.2.2.1,x26.2.2.2.2.2.2.2.2.2.2.2.2.1,x26.2.2.2.2.2.2.2.2.2.2.2.2.2.1,x26.2.2.2.2.2.2.2.2.2.2.2.2.2.2.1,x26.2.2.2.2.2.2.2.2.2.2.2.2.2.2.2.1,x26.2.2.2.2.2.2.2.2.2.2.2.2.2.2.2.2.1,x26.2.2.2.2.2.2.2.2.2.2.2.2.2.2.2.2.2.1,x26.2.2.2.2.2.2.2.2.2.2.2.2.2.2.2.2.2.2.1)).bind λt39 =>
 (vS b12 [(x26.1,zs31,x26.2.2.1,t35.1,t35.2.1,t35.2.2.1,t35.2.2.2.1,t35.2.2.2.2,t39.1,t39.2.1,t39.2.2.1,t39.2.2.2.1,t39.2.2.2.2.1,t39.2.2.2.2.2.1,t39.2.2.2.2.2.2.1,t39.2.2.2.2.2.2.2.1,t39.2.2.2.2.2.2.2.2.1,t39.2.2.2.2.2.2.2.2.2.1,t39.2.2.2.2.2.2.2.2.2.2,x26.2.2.2.2.2.2.2.2.2.2.2.2.2.2.2.2.2.2.2.1,x26.2.2.2.2.2.2.2.2.2.2.2.2.2.2.2.2.2.2.2.2)]).bind λzs45 =>
 some (.inl (vA (i4+1),b0,b1,b6,b7,b8,b9,b10,b11,b13,b14,zs45)))
 (some (.inr (b0,b1,b6,b7,b8,b9,b10,b11,b13,b14,b12)))
def cP (a0:vO):Option vO :=
 (ak (a0.1,a0.2.1,a0.2.2.1,a0.2.2.2.1,a0.2.2.2.2.1,a0.2.2.2.2.2.1,a0.2.2.2.2.2.2.1,a0.2.2.2.2.2.2.2.1,a0.2.2.2.2.2.2.2.2.1,a0.2.2.2.2.2.2.2.2.2.1,a0.2.2.2.2.2.2.2.2.2.2.1)).bind λt8 =>
 (loop (λz=>fr a0 z.1 z.2.1 z.2.2.1 z.2.2.2.1 z.2.2.2.2.1 z.2.2.2.2.2.1 z.2.2.2.2.2.2.1 z.2.2.2.2.2.2.2.1 z.2.2.2.2.2.2.2.2.1 z.2.2.2.2.2.2.2.2.2.1 z.2.2.2.2.2.2.2.2.2.2.1 z.2.2.2.2.2.2.2.2.2.2.2) (0,t8.1,t8.2.1,t8.2.2.2.2.2.2.1,t8.2.2.2.2.2.2.2.1,t8.2.2.2.2.2.2.2.2.1,t8.2.2.2.2.2.2.2.2.2.1,t8.2.2.2.2.2.2.2.2.2.2,a0.2.2.2.2.2.2.2.2.2.2.2.1,a0.2.2.2.2.2.2.2.2.2.2.2.2.2.1,a0.2.2.2.2.2.2.2.2.2.2.2.2.2.2,[])).bind λd =>
 some (d.1,d.2.1,t8.2.2.1,t8.2.2.2.1,t8.2.2.2.2.1,t8.2.2.2.2.2.1,d.2.2.1,d.2.2.2.1,d.2.2.2.2.1,d.2.2.2.2.2.1,d.2.2.2.2.2.2.1,d.2.2.2.2.2.2.2.1,d.2.2.2.2.2.2.2.2.2.2,d.2.2.2.2.2.2.2.2.1,d.2.2.2.2.2.2.2.2.2.1)
def ko:FL:=(139,⟨[.val true wO false],[.val true wO (some true)],λa=>cP a⟩)::kl
theorem qj:Gd ko:=vH qi 139 Tryz.f139 [(0,⟨⟨[(4,false,[dI])],[(273408,.box [dI,dS,.same 265218,.same 265219,.same 265220,.same 265221,dI,dI,dI,dI,dI,dS,.own 1000000000,dI,dI]),(1000000000,.root A0 true)]⟩,
 ⟨[],[(273408,.box [dI,dS,.same 265218,.same 265219,.same 265220,.same 265221,dI,dI,dI,dI,dI,dS,.own 1000000300,dI,dI]),(1000000300,.root A0 true)]⟩,none⟩)] Tryz.func139
def bm (a0:vO) (b1:List Int):Option vO :=
 (cP a0).bind λt7 =>
 (cN a0).bind λt9 =>
 (cond (!t9)
 (some true)
 (some (decide ((a0.2.2.2.2.2.2.2.2.2.2.2.2.1.length:Int)>=6)))).bind λt16 =>
 (cond t16
 (some true)
 (some (decide (a0.2.2.2.2.2.2.2.2.2.2.2.2.2.2>=1000000)))).bind λt21 =>
 cond t21
 ((cN a0).bind λt23 =>
 cond t23
 ((aK a0.2.2.2.2.2.2.2.2.2.2.2.2.2.1).bind λt26 =>
 some (t7.1,t7.2.1,t7.2.2.1,t7.2.2.2.1,t7.2.2.2.2.1,t7.2.2.2.2.2.1,t7.2.2.2.2.2.2.1,t7.2.2.2.2.2.2.2.1,t7.2.2.2.2.2.2.2.2.1,t7.2.2.2.2.2.2.2.2.2.1,t7.2.2.2.2.2.2.2.2.2.2.1,t7.2.2.2.2.2.2.2.2.2.2.2.1,t7.2.2.2.2.2.2.2.2.2.2.2.2.1,t26,t7.2.2.2.2.2.2.2.2.2.2.2.2.2.2))
 (some t7))
 ((vS ([]:List Int) b1).bind λzs39 =>
 (vS t7.2.2.2.2.2.2.2.2.2.2.2.2.1 ([(vA (a0.2.2.2.2.2.2.2.2.2.2.2.2.2.2+1),zs39,0,0,0,0,0,[],0,[],[],[],[],[],0,0,0,0,0,0,0)])).bind λzs42 =>
 some (t7.1,t7.2.1,t7.2.2.1,t7.2.2.2.1,t7.2.2.2.2.1,t7.2.2.2.2.2.1,t7.2.2.2.2.2.2.1,t7.2.2.2.2.2.2.2.1,t7.2.2.2.2.2.2.2.2.1,t7.2.2.2.2.2.2.2.2.2.1,t7.2.2.2.2.2.2.2.2.2.2.1,t7.2.2.2.2.2.2.2.2.2.2.2.1,zs42,t7.2.2.2.2.2.2.2.2.2.2.2.2.2.1,vA (a0.2.2.2.2.2.2.2.2.2.2.2.2.2.2+1)))
def kq:FL:=(56,⟨[.val true wO false,.val false xu false],[.val true wO (some true)],λa=>bm a.1 a.2⟩)::ko
theorem qk:Gd kq:=vH qj 56 Tryz.f56 [] Tryz.func56
def cn (c0:vM):Option (vM×Int) :=
 let x3:=xM .i64 (Pj .i64 ((vA ((vA (c0.2.2*6364136223846793005))+1442695040888963407)).fdiv (2^33)) ((vA ((vA (c0.2.2*6364136223846793005))+1442695040888963407)).fdiv (2^47))) 255
 cond (decide (c0.2.1<(c0.1.length:Int)))
 ((at? c0.1 c0.2.1).bind λx44 =>
 let x3_1:=xM .i64 (vA (x3+(vA (x44)))) 255
 some ((c0.1,vA (c0.2.1+1),vA ((vA (c0.2.2*6364136223846793005))+1442695040888963407)),x3_1))
 (some ((c0.1,c0.2.1,vA ((vA (c0.2.2*6364136223846793005))+1442695040888963407)),x3))
def kr:FL:=(190,⟨[.ptr wW none],[.val false vG (some true)],λa=>cn a⟩)::kq
theorem qm:Gd kr:=vH qk 190 Tryz.f190 [] Tryz.func190
def aa (c0:vM) (n1:Int):Option (vM×Int) :=
 cond (decide (n1<=0))
 (some (c0,0))
 (cond (decide (n1<=256))
 ((cn c0).bind λt13 =>
 (rem t13.2 n1).bind λt15 =>
 some (t13.1,t15))
 ((cn c0).bind λt17 =>
 (cn t17.1).bind λt19 =>
 (cn t19.1).bind λt21 =>
 (rem (vA ((vA ((vA (t17.2*65536))+(vA (t19.2*256))))+t21.2)) n1).bind λt30 =>
 some (t21.1,t30)))
def kt:FL:=(97,⟨[.ptr wW none,.val false vG false],[.val false vG (some true)],λa=>aa a.1 a.2⟩)::kr
theorem qn:Gd kt:=vH qm 97 Tryz.f97 [] Tryz.func97
def bn (c0:vM) (n1:Int):Option (vM×Bool) :=
 (aa c0 n1).bind λt7 =>
 some (t7.1,t7.2==0)
def ku:FL:=(100,⟨[.ptr wW none,.val false vG false],[.val false wD (some true)],λa=>bn a.1 a.2⟩)::kt
theorem qo:Gd ku:=vH qn 100 Tryz.f100 [] Tryz.func100
def af (c0:vM) (list1:List Int):Option (vM×Int) :=
 (aa c0 (list1.length:Int)).bind λt9 =>
 (at? list1 t9.2).bind λx10 =>
 some (t9.1,x10)
def kv:FL:=(138,⟨[.ptr wW none,.val false yl false],[.val false vG (some true)],λa=>af a.1 a.2⟩)::ku
theorem qp:Gd kv:=vH qo 138 Tryz.f138 [] Tryz.func138
def bo (c0:vM) (list1:List (List UInt8)):Option (vM×List UInt8) :=
 (aa c0 (list1.length:Int)).bind λt9 =>
 (at? list1 t9.2).bind λx10 =>
 some (t9.1,x10)
def kw:FL:=(141,⟨[.ptr wW none,.val false (.one (.sl KN)) false],[.val false KN (some true)],λa=>bo a.1 a.2⟩)::kv
theorem qq:Gd kw:=vH qp 141 Tryz.f141 [] Tryz.func141
def ef (ports0:Int) (i5:Int) (b1:List Int):Option ((Int×List Int)⊕(List Int)) :=
 cond (decide (i5<ports0))
 ((vS b1 ([1]:List Int)).bind λzs27 =>
 some (.inl (vA (i5+1),zs27)))
 (some (.inr b1))
def ft (ports0:Int):Option wz :=
 (ae ports0 1 6).bind λt7 =>
 cond (!t7)
 (some ([],[]))
 ((shl .i64 1 (IntKind.u64.wrap (ports0))).bind λt12 =>
 (loop (λz=>ef ports0 z.1 z.2) (0,[])).bind λd =>
 some ([(1,vA (t12-1),vA (t12-1))],d))
def kz:FL:=(265,⟨[.val false vG false],[.val true xw (some true)],λa=>ft a⟩)::kw
theorem qr:Gd kz:=vH qq 265 Tryz.f265 [(0,⟨⟨[(5,false,[dI])],[(1054720,.box [.same 1052672,.own 1000000000]),(1000000000,.root vG true)]⟩,
 ⟨[],[(1054720,.box [.same 1052672,.own 1000000300]),(1000000300,.root vG true)]⟩,none⟩)] Tryz.func265
def eg (ports1:Int) (i6:Int) (b0:Int) (b1:List UInt8) (b6:Int) (b7:Int) (b8:Int) (b9:Int) (b10:Int) (b2:List Pt) (b3:List vD):Option ((Int×Int×List UInt8×Int×Int×Int×Int×Int×List Pt×List vD)⊕(Int×List UInt8×Int×Int×Int×Int×Int×List Pt×List vD)) :=
 cond (decide (i6<ports1))
 ((vS b2 [(false,1,false,0,0,0,0,0)]).bind λzs29 =>
 some (.inl (vA (i6+1),b0,b1,b6,b7,b8,b9,b10,zs29,b3)))
 (some (.inr (b0,b1,b6,b7,b8,b9,b10,b2,b3)))
def fu (id0:Int) (ports1:Int):Option vw :=
 (ae id0 1 99).bind λt8 =>
 (cond (!t8)
 (some true)
 ((ae ports1 1 6).bind λt12 =>
 some (!t12))).bind λt14 =>
 cond t14
 (some (0,[],[],[],[],[],0,0,0,0,0))
 ((ft ports1).bind λt18 =>
 (loop (λz=>eg ports1 z.1 z.2.1 z.2.2.1 z.2.2.2.1 z.2.2.2.2.1 z.2.2.2.2.2.1 z.2.2.2.2.2.2.1 z.2.2.2.2.2.2.2.1 z.2.2.2.2.2.2.2.2.1 z.2.2.2.2.2.2.2.2.2) (0,id0,[],0,0,0,0,0,[],[])).bind λd =>
 some (d.1,d.2.1,d.2.2.2.2.2.2.2.1,d.2.2.2.2.2.2.2.2,t18.1,t18.2,d.2.2.1,d.2.2.2.1,d.2.2.2.2.1,d.2.2.2.2.2.1,d.2.2.2.2.2.2.1))
def kA:FL:=(158,⟨[.val false vG false,.val false vG false],[.val true vN (some true)],λa=>fu a.1 a.2⟩)::kz
theorem qt:Gd kA:=vH qr 158 Tryz.f158 [(0,⟨⟨[(6,false,[dI])],[(791552,.box [dI,dS,.own 1000000000,.own 1000000001,.same 789504,.same 789505,dI,dI,dI,dI,dI]),(1000000000,.root xS true),(1000000001,.root vX true)]⟩,
 ⟨[],[(791552,.box [dI,dS,.own 1000000300,.own 1000000301,.same 789504,.same 789505,dI,dI,dI,dI,dI]),(1000000300,.root xS true),(1000000301,.root vX true)]⟩,none⟩)] Tryz.func158
def eh (c0:vM):Option (vM×AO) :=
 (aa c0 5).bind λt4 =>
 (af t4.1 ([0,1,2,5,10,100]:List Int)).bind λt8 =>
 (af t8.1 ([0,1,2,9,10]:List Int)).bind λt11 =>
 (aa t11.1 5).bind λt13 =>
 (aa t13.1 4).bind λt16 =>
 some (t16.1,(vA (1+t4.2),t8.2,t11.2,vA (1+t13.2),t16.2))
def kB:FL:=(252,⟨[.ptr wW none],[.val true Ag (some true)],λa=>eh a⟩)::kA
theorem qu:Gd kB:=vH qt 252 Tryz.f252 [] Tryz.func252
def ei (n1:Int) (i6:Int) (b0:List Int) (b1:Int) (b2:Int) (out5:List Pt):Option ((Int×List Int×Int×Int×List Pt)⊕(List Int×Int×Int×List Pt)) :=
 cond (decide (i6<n1))
 ((bn (b0,b1,b2) 4).bind λt15 =>
 (af t15.1 ([1,1,2,5,10]:List Int)).bind λt19 =>
 cond (!t15.2)
 ((bn t19.1 4).bind λt25 =>
 cond (!t25.2)
 ((eh t25.1).bind λt30 =>
 (vS out5 [(!t15.2,t19.2,true,t30.2.1,t30.2.2.1,t30.2.2.2.1,t30.2.2.2.2.1,t30.2.2.2.2.2)]).bind λzs35 =>
 some (.inl (vA (i6+1),t30.1.1,t30.1.2.1,t30.1.2.2,zs35)))
 ((vS out5 [(!t15.2,t19.2,false,0,0,0,0,0)]).bind λzs35_1 =>
 some (.inl (vA (i6+1),t25.1.1,t25.1.2.1,t25.1.2.2,zs35_1))))
 ((vS out5 [(!t15.2,t19.2,false,0,0,0,0,0)]).bind λzs35_2 =>
 some (.inl (vA (i6+1),t19.1.1,t19.1.2.1,t19.1.2.2,zs35_2))))
 (some (.inr (b0,b1,b2,out5)))
def cQ (c0:vM) (n1:Int):Option (vM×List Pt) :=
 (loop (λz=>ei n1 z.1 z.2.1 z.2.2.1 z.2.2.2.1 z.2.2.2.2) (0,c0.1,c0.2.1,c0.2.2,([]:List Pt))).bind λd =>
 some ((d.1,d.2.1,d.2.2.1),d.2.2.2)
def kC:FL:=(159,⟨[.ptr wW none,.val false vG false],[.val false (.one (.sl xS)) (some true)],λa=>cQ a.1 a.2⟩)::kB
theorem qv:Gd kC:=vH qu 159 Tryz.f159 [(0,⟨⟨(5,false,[.own 1000000000])::(6,false,[dI])::us 24 3 [],[(1,.box [.dat (.sl (.one (.int .u8))),dI,dI]),(1000000000,.root xS true)]⟩,
 ⟨[(5,false,[.own 1000000300])],[(1,.box [.dat (.sl (.one (.int .u8))),dI,dI]),(1000000300,.root xS true)]⟩,none⟩)] Tryz.func159
def ej (x0:wz) (v1:wz):Option (wz×Bool) :=
 (aS x0 (v1.2.length:Int)).bind λt10 =>
 cond (!t10)
 ((aU v1).bind λt13 =>
 some (t13,false))
 (some (x0,true))
def kD:FL:=(331,⟨[.val true xw true,.val true xw false],[.val true xw (some true),.val false wD (some true)],λa=>ej a.1 a.2⟩)::kC
theorem qw:Gd kD:=vH qv 331 Tryz.f331 [] Tryz.func331
def fv (v0:wz) (port1:Int) (id2:Int):Option (wz×Bool) :=
 (aS v0 (v0.2.length:Int)).bind λt13 =>
 (cond (!t13)
 (some true)
 ((ae port1 0 (vA ((v0.2.length:Int)-1))).bind λt21 =>
 some (!t21))).bind λt23 =>
 cond t23
 ((aU v0).bind λt25 =>
 some (t25,false))
 ((aU v0).bind λt27 =>
 (ix t27.2.length port1).bind λj32 =>
 (t27.2[j32]?).bind λx =>
 (ej (t27.1,t27.2.set j32 id2) v0).bind λt35 =>
 some t35)
def kE:FL:=(266,⟨[.val true xw false,.val false vG false,.val false vG false],[.val true xw (some true),.val false wD (some true)],λa=>fv a.1 a.2.1 a.2.2⟩)::kD
theorem qx:Gd kE:=vH qw 266 Tryz.f266 [] Tryz.func266
def fw (v0:wz) (id1:Int):Option (wz×Bool) :=
 (aC v0 id1).bind λt10 =>
 (aS v0 (v0.2.length:Int)).bind λt15 =>
 (cond (!t15) (some true) (some (decide (t10<0)))).bind λt20 =>
 cond t20
 ((aU v0).bind λt22 =>
 some (t22,false))
 ((aU v0).bind λt24 =>
 (cut v0.1 0 t10).bind λt29 =>
 (vS ([]:List vP) t29).bind λzs30 =>
 (cut v0.1 (vA (t10+1)) (v0.1.length:Int)).bind λt35 =>
 (vS zs30 t35).bind λzs36 =>
 (ej (zs36,t24.2) v0).bind λt40 =>
 some t40)
def kF:FL:=(267,⟨[.val true xw false,.val false vG false],[.val true xw (some true),.val false wD (some true)],λa=>fw a.1 a.2⟩)::kE
theorem qy:Gd kF:=vH qx 267 Tryz.f267 [] Tryz.func267
def aD (p0:wz) (i1:vP) (t6:Bool) (t7:Int) (b0:List vP):Option ((Bool×Int×List vP)⊕(Bool×List vP)) :=
 cond (decide (t7<(p0.1.length:Int)))
 ((cond (!t6)
 ((at? p0.1 t7).bind λx26 =>
 some (decide (x26.1>=i1.1)))
 (some false)).bind λt32 =>
 cond t32
 ((vS b0 [i1]).bind λzs37 =>
 (at? p0.1 t7).bind λx42 =>
 cond (x42.1 != i1.1)
 ((at? p0.1 t7).bind λx53 =>
 (vS zs37 [x53]).bind λzs56 =>
 some (.inl (true,vA (t7+1),zs56)))
 (some (.inl (true,vA (t7+1),zs37))))
 ((at? p0.1 t7).bind λx42_1 =>
 cond (x42_1.1 != i1.1)
 ((at? p0.1 t7).bind λx53_1 =>
 (vS b0 [x53_1]).bind λzs56_1 =>
 some (.inl (t6,vA (t7+1),zs56_1)))
 (some (.inl (t6,vA (t7+1),b0)))))
 (some (.inr (t6,b0)))
def aL (p0:wz) (i1:vP):Option wz :=
 (vS ([]:List Int) p0.2).bind λzs11 =>
 (loop (λz=>aD p0 i1 z.1 z.2.1 z.2.2) (false,0,[])).bind λd =>
 cond (!d.1)
 ((vS d.2 [i1]).bind λzs64 =>
 some (zs64,zs11))
 (some (d.2,zs11))
def kG:FL:=(298,⟨[.val true xw false,.val true wL false],[.val true xw (some true)],λa=>aL a.1 a.2⟩)::kF
theorem qz:Gd kG:=vH qy 298 Tryz.f298 [(0,⟨⟨(6,false,[dB])::(7,false,[dI])::us 23 9 [],[(268288,.box [.own 1000000000,.same 266240]),(1000000000,.root wL true)]⟩,
 ⟨[(6,false,[dB])],[(268288,.box [.own 1000000300,.same 266240]),(1000000300,.root wL true)]⟩,none⟩)] Tryz.func298
def fx (v0:wz) (r1:vP):Option (wz×Bool) :=
 (aS v0 (v0.2.length:Int)).bind λt10 =>
 cond (!t10)
 ((aU v0).bind λt13 =>
 some (t13,false))
 ((aL v0 r1).bind λt16 =>
 (ej t16 v0).bind λt18 =>
 some t18)
def kH:FL:=(268,⟨[.val true xw false,.val true wL false],[.val true xw (some true),.val false wD (some true)],λa=>fx a.1 a.2⟩)::kG
theorem qA:Gd kH:=vH qz 268 Tryz.f268 [] Tryz.func268
def gF (c0:vM) (ports1:Int):Option (vM×vP) :=
 (shl .i64 1 (IntKind.u64.wrap (ports1))).bind λt9 =>
 (aa c0 (vA ((vA (t9-1))+1))).bind λt14 =>
 (af t14.1 ([1,2,3,2]:List Int)).bind λt17 =>
 (aa t17.1 (vA ((vA (t9-1))+1))).bind λt23 =>
 some (t23.1,(t17.2,t14.2,xM .i64 t14.2 t23.2))
def kI:FL:=(269,⟨[.ptr wW none,.val false vG false],[.val true wL (some true)],λa=>gF a.1 a.2⟩)::kH
theorem qB:Gd kI:=vH qA 269 Tryz.f269 [] Tryz.func269
def em (ports1:Int) (i6:Int) (b0:List Int) (b1:Int) (b2:Int) (b0_1:List vP) (b1_1:List Int):Option ((Int×List Int×Int×Int×List vP×List Int)⊕(List Int×Int×Int×List vP×List Int)) :=
 cond (decide (i6>0))
 ((aa (b0,b1,b2) 4).bind λt16 =>
 cond (t16.2==0)
 ((aa t16.1 ports1).bind λt31 =>
 (aa t31.1 3).bind λt33 =>
 (fv (b0_1,b1_1) t31.2 (vA (1+t33.2))).bind λt35 =>
 some (.inl (vA (i6-1),t33.1.1,t33.1.2.1,t33.1.2.2,t35.1.1,t35.1.2)))
 (cond (t16.2==1)
 ((aa t16.1 2).bind λt43 =>
 (fw (b0_1,b1_1) (vA (2+t43.2))).bind λt45 =>
 some (.inl (vA (i6-1),t43.1.1,t43.1.2.1,t43.1.2.2,t45.1.1,t45.1.2)))
 ((gF t16.1 ports1).bind λt21 =>
 (fx (b0_1,b1_1) t21.2).bind λt22 =>
 some (.inl (vA (i6-1),t21.1.1,t21.1.2.1,t21.1.2.2,t22.1.1,t22.1.2)))))
 (some (.inr (b0,b1,b2,b0_1,b1_1)))
def cR (c0:vM) (ports1:Int):Option (vM×wz) :=
 (ft ports1).bind λt8 =>
 (aa c0 6).bind λt10 =>
 (loop (λz=>em ports1 z.1 z.2.1 z.2.2.1 z.2.2.2.1 z.2.2.2.2.1 z.2.2.2.2.2) (t10.2,t10.1.1,t10.1.2.1,t10.1.2.2,t8.1,t8.2)).bind λd =>
 some ((d.1,d.2.1,d.2.2.1),d.2.2.2)
def kJ:FL:=(160,⟨[.ptr wW none,.val false vG false],[.val true xw (some true)],λa=>cR a.1 a.2⟩)::kI
theorem qC:Gd kJ:=vH qB 160 Tryz.f160 [(0,⟨⟨[(6,false,[dI])],[(1,.box [.dat (.sl (.one (.int .u8))),dI,dI]),(265216,.box [.own 1000000000,.own 1000000001]),(1000000000,.root wL true),(1000000001,.root vG true)]⟩,
 ⟨[],[(1,.box [.dat (.sl (.one (.int .u8))),dI,dI]),(265216,.box [.own 1000000300,.own 1000000301]),(1000000300,.root wL true),(1000000301,.root vG true)]⟩,none⟩)] Tryz.func160
def bQ (c0:vM):Option (vM×Int) :=
 (af c0 ([11,12,13,14]:List Int)).bind λt5 =>
 some t5
def kK:FL:=(162,⟨[.ptr wW none],[.val false vG (some true)],λa=>bQ a⟩)::kJ
theorem qD:Gd kK:=vH qC 162 Tryz.f162 [] Tryz.func162
def eo (l0:List vD) (tag1:Int) (mac2:Int) (port3:Int):Option ((List vD)×Bool) :=
 (cS l0).bind λt16 =>
 (cond (!t16)
 (some true)
 ((cU (tag1,mac2,port3,0,true)).bind λt20 =>
 some (!t20))).bind λt22 =>
 (cond t22
 (some true)
 ((bR l0 tag1 mac2).bind λt27 =>
 (cond (decide (t27<0)) (some (decide ((l0.length:Int)>=12))) (some false)).bind λt33 =>
 some t33)).bind λt34 =>
 cond t34
 ((co l0).bind λt36 =>
 some (t36,false))
 ((cV l0 (tag1,mac2,port3,0,true)).bind λt39 =>
 some (t39,true))
def kL:FL:=(163,⟨[.val false (.one (.sl vX)) false,.val false vG false,.val false vG false,.val false vG false],[.val false (.one (.sl vX)) (some true),.val false wD (some true)],λa=>eo a.1 a.2.1 a.2.2.1 a.2.2.2⟩)::kK
theorem qE:Gd kL:=vH qD 163 Tryz.f163 [] Tryz.func163
def ep (t7:vM×Int) (t5:Int) (b0:List Int) (b1:Int) (b2:Int) (b0_1:Int) (b1_1:List UInt8) (b6:Int) (b7:Int) (b8:Int) (b9:Int) (b10:Int) (b3:List vD):Option ((Int×List Int×Int×Int×Int×List UInt8×Int×Int×Int×Int×Int×List vD)⊕(List Int×Int×Int×Int×List UInt8×Int×Int×Int×Int×Int×List vD)) :=
 cond (decide (t5>0))
 ((aa (b0,b1,b2) 3).bind λt35 =>
 (bQ t35.1).bind λt38 =>
 (aa t38.1 (vA (1+t7.2))).bind λt41 =>
 (cp b3 (vA (1+t35.2)) t38.2 t41.2).bind λt42 =>
 some (.inl (vA (t5-1),t41.1.1,t41.1.2.1,t41.1.2.2,b0_1,b1_1,b6,b7,b8,b9,b10,t42)))
 (some (.inr (b0,b1,b2,b0_1,b1_1,b6,b7,b8,b9,b10,b3)))
def cW (p0:vM):Option (vM×vw) :=
 (aa p0 4).bind λt7 =>
 (aa t7.1 5).bind λt10 =>
 (fu (vA (1+t10.2)) (vA (1+t7.2))).bind λt13 =>
 (bo t10.1 ([[],[121,97,114,100],[98,49]]:List (List UInt8))).bind λt16 =>
 (cQ t16.1 (vA (1+t7.2))).bind λt20 =>
 (cR t20.1 (vA (1+t7.2))).bind λt24 =>
 (aa t24.1 6).bind λt27 =>
 (loop (λz=>ep t7 z.1 z.2.1 z.2.2.1 z.2.2.2.1 z.2.2.2.2.1 z.2.2.2.2.2.1 z.2.2.2.2.2.2.1 z.2.2.2.2.2.2.2.1 z.2.2.2.2.2.2.2.2.1 z.2.2.2.2.2.2.2.2.2.1 z.2.2.2.2.2.2.2.2.2.2.1 z.2.2.2.2.2.2.2.2.2.2.2) (t27.2,t27.1.1,t27.1.2.1,t27.1.2.2,t13.1,t16.2,t13.2.2.2.2.2.2.1,t13.2.2.2.2.2.2.2.1,t13.2.2.2.2.2.2.2.2.1,t13.2.2.2.2.2.2.2.2.2.1,t13.2.2.2.2.2.2.2.2.2.2,t13.2.2.2.1)).bind λd =>
 (bn (d.1,d.2.1,d.2.2.1) 3).bind λt45 =>
 cond t45.2
 ((bQ t45.1).bind λt50 =>
 (aa t50.1 (vA (1+t7.2))).bind λt53 =>
 (eo d.2.2.2.2.2.2.2.2.2.2 1 t50.2 t53.2).bind λt54 =>
 (aa t53.1 5).bind λt59 =>
 (af t59.1 ([0,1,5,1000000]:List Int)).bind λt63 =>
 some (t63.1,(d.2.2.2.1,d.2.2.2.2.1,t20.2,t54.1,t24.2.1,t24.2.2,t59.2,d.2.2.2.2.2.2.1,d.2.2.2.2.2.2.2.1,d.2.2.2.2.2.2.2.2.1,t63.2)))
 ((aa t45.1 5).bind λt59_1 =>
 (af t59_1.1 ([0,1,5,1000000]:List Int)).bind λt63_1 =>
 some (t63_1.1,(d.2.2.2.1,d.2.2.2.2.1,t20.2,d.2.2.2.2.2.2.2.2.2.2,t24.2.1,t24.2.2,t59_1.2,d.2.2.2.2.2.2.1,d.2.2.2.2.2.2.2.1,d.2.2.2.2.2.2.2.2.1,t63_1.2)))
def kM:FL:=(74,⟨[.ptr wW none],[.val true vN (some true)],λa=>cW a⟩)::kL
theorem qF:Gd kM:=vH qE 74 Tryz.f74 [(0,⟨⟨[(5,false,[dI])],[(1,.box [.dat (.sl (.one (.int .u8))),dI,dI]),(530432,.box [dI,dS,.same 1051712,.own 1000000000,.same 1313856,.same 1313857,dI,dI,dI,dI,dI]),(1000000000,.root vX true)]⟩,
 ⟨[],[(1,.box [.dat (.sl (.one (.int .u8))),dI,dI]),(530432,.box [dI,dS,.same 1051712,.own 1000000300,.same 1313856,.same 1313857,dI,dI,dI,dI,dI]),(1000000300,.root vX true)]⟩,none⟩)] Tryz.func74
def eq (i4:Int) (b0:List Int) (b1:Int) (b2:Int) (out3:List Int):Option ((Int×List Int×Int×Int×List Int)⊕(List Int×Int×Int×List Int)) :=
 cond (decide (i4>0))
 ((af (b0,b1,b2) ([0,1,2,3,127,128,16384,100000]:List Int)).bind λt16 =>
 (vS out3 [t16.2]).bind λzs18 =>
 some (.inl (vA (i4-1),t16.1.1,t16.1.2.1,t16.1.2.2,zs18)))
 (some (.inr (b0,b1,b2,out3)))
def aM (c0:vM):Option (vM×List Int) :=
 (aa c0 6).bind λt7 =>
 (loop (λz=>eq z.1 z.2.1 z.2.2.1 z.2.2.2.1 z.2.2.2.2) (vA (1+t7.2),t7.1.1,t7.1.2.1,t7.1.2.2,([]:List Int))).bind λd =>
 some ((d.1,d.2.1,d.2.2.1),d.2.2.2)
def kN:FL:=(101,⟨[.ptr wW none],[.val false yl (some true)],λa=>aM a⟩)::kM
theorem qG:Gd kN:=vH qF 101 Tryz.f101 [(0,⟨⟨[(3,false,[.own 1000000000]),(4,false,[dI])],[(1,.box [.dat (.sl (.one (.int .u8))),dI,dI]),(1000000000,.root vG true)]⟩,
 ⟨[(3,false,[.own 1000000300])],[(1,.box [.dat (.sl (.one (.int .u8))),dI,dI]),(1000000300,.root vG true)]⟩,none⟩)] Tryz.func101
def ai (n0:Int):Option zj :=
 some (2,n0,[],[])
def kO:FL:=(197,⟨[.val false vG false],[.val true Aw (some true)],λa=>ai a⟩)::kN
theorem qH:Gd kO:=vH qG 197 Tryz.f197 [] Tryz.func197
def cX (c0:vM):Option (vM×Int) :=
 (aa c0 1000).bind λt5 =>
 (af t5.1 [0,1,(-1),127,128,(-128),(-129),255,256,32767,32768,(-32769),8388608,2147483647,(-2147483648),2147483648,(-2147483649),9223372036854775807,(-9223372036854775808),t5.2]).bind λt7 =>
 some t7
def kP:FL:=(199,⟨[.ptr wW none],[.val false vG (some true)],λa=>cX a⟩)::kO
theorem qI:Gd kP:=vH qH 199 Tryz.f199 [] Tryz.func199
def aE (c0:vM):Option (vM×zj) :=
 (aa c0 6).bind λt4 =>
 cond (t4.2==0)
 (some (t4.1,(5,0,[],[])))
 (cond (t4.2==1)
 (cond (t4.2==1)
 ((cX t4.1).bind λt12 =>
 (aw t12.2).bind λt13 =>
 (ai t13).bind λt14 =>
 some (t12.1,t14))
 (cond (t4.2==3)
 ((bo t4.1 ([[],[97],[121,97,114,100],[0]]:List (List UInt8))).bind λt19 =>
 some (t19.1,(4,0,t19.2,[])))
 (cond (t4.2==4)
 ((aM t4.1).bind λt24 =>
 some (t24.1,(6,0,[],t24.2)))
 ((af t4.1 ([128,130]:List Int)).bind λt28 =>
 some (t28.1,(t28.2,0,[],[]))))))
 (cond (t4.2==2)
 ((cX t4.1).bind λt12_1 =>
 (aw t12_1.2).bind λt13_1 =>
 (ai t13_1).bind λt14_1 =>
 some (t12_1.1,t14_1))
 (cond (t4.2==3)
 ((bo t4.1 ([[],[97],[121,97,114,100],[0]]:List (List UInt8))).bind λt19_1 =>
 some (t19_1.1,(4,0,t19_1.2,[])))
 (cond (t4.2==4)
 ((aM t4.1).bind λt24_1 =>
 some (t24_1.1,(6,0,[],t24_1.2)))
 ((af t4.1 ([128,130]:List Int)).bind λt28_1 =>
 some (t28_1.1,(t28_1.2,0,[],[])))))))
def kQ:FL:=(102,⟨[.ptr wW none],[.val true Aw (some true)],λa=>aE a⟩)::kP
theorem qJ:Gd kQ:=vH qI 102 Tryz.f102 [] Tryz.func102
def ah (l0:List Int):Option (List Int) :=
 (vS ([1,3,1]:List Int) l0).bind λzs5 =>
 some zs5
def kR:FL:=(274,⟨[.val false yl false],[.val false yl (some true)],λa=>ah a⟩)::kQ
theorem qK:Gd kR:=vH qJ 274 Tryz.f274 [] Tryz.func274
def am (out0:List vB) (name1:List Int) (n2:Int):Option (List vB) :=
 (ah name1).bind λt9 =>
 (ai n2).bind λt11 =>
 (vS out0 [(t9,t11.1,t11.2.1,t11.2.2.1,t11.2.2.2)]).bind λzs14 =>
 some zs14
def kS:FL:=(332,⟨[.val false (.one (.sl vU)) true,.val false yl false,.val false vG false],[.val false (.one (.sl vU)) (some true)],λa=>am a.1 a.2.1 a.2.2⟩)::kR
theorem qL:Gd kS:=vH qK 332 Tryz.f332 [] Tryz.func332
def gG (b0:vw) (c1:Int) (p2:Int):Option Int :=
 cond (c1==1)
 ((at? b0.2.2.1 p2).bind λx13 =>
 cond x13.1 (some 1) (some 0))
 (cond (c1==2)
 ((at? b0.2.2.1 p2).bind λx21 =>
 some x21.2.1)
 (cond (c1==3)
 ((fy b0.1 b0.2.2.1 p2).bind λt31 =>
 some t31)
 ((at? b0.2.2.2.2.2.1 p2).bind λx36 =>
 some x36)))
def kT:FL:=(333,⟨[.val true vN false,.val false vG false,.val false vG false],[.val false vG (some true)],λa=>gG a.1 a.2.1 a.2.2⟩)::kS
theorem qM:Gd kT:=vH qL 333 Tryz.f333 [] Tryz.func333
def jf (r0:vP) (c1:Int):Option Int :=
 cond (c1==1) (some 1) (cond (c1==2) (some r0.2.1) (some r0.2.2))
def kU:FL:=(334,⟨[.val true wL false,.val false vG false],[.val false vG (some true)],λa=>jf a.1 a.2⟩)::kT
theorem qN:Gd kU:=vH qM 334 Tryz.f334 [] Tryz.func334
def jg (p0:vw) (t4:Int) (t5:Int) (t3_1:List vB):Option ((Int×List vB)⊕(List vB)) :=
 cond (decide (t5<(p0.2.2.1.length:Int)))
 ((gG p0 t4 t5).bind λt59 =>
 (am t3_1 [2,t4,vA (t5+1)] t59).bind λt60 =>
 some (.inl (vA (t5+1),t60)))
 (some (.inr t3_1))
def jh (p0:vw) (t4:Int) (t3:List vB):Option ((Int×List vB)⊕(List vB)) :=
 cond (decide (t4<=4))
 ((loop (λz=>jg p0 t4 z.1 z.2) (0,t3)).bind λd =>
 some (.inl (vA (t4+1),d)))
 (some (.inr t3))
def ji (p0:vw) (t6:Int) (t7:Int) (t3_5:List vB):Option ((Int×List vB)⊕(List vB)) :=
 cond (decide (t7<(p0.2.2.2.2.1.length:Int)))
 ((at? p0.2.2.2.2.1 t7).bind λx79 =>
 (at? p0.2.2.2.2.1 t7).bind λx87 =>
 (jf x87 t6).bind λt90 =>
 (am t3_5 [3,t6,x79.1] t90).bind λt91 =>
 some (.inl (vA (t7+1),t91)))
 (some (.inr t3_5))
def fA (p0:vw) (t6:Int) (t3_4:List vB):Option ((Int×List vB)⊕(List vB)) :=
 cond (decide (t6<=3))
 ((loop (λz=>ji p0 t6 z.1 z.2) (0,t3_4)).bind λd_2 =>
 some (.inl (vA (t6+1),d_2)))
 (some (.inr t3_4))
def jj (p0:vw) (t8:Int) (t3_8:List vB):Option ((Int×List vB)⊕(List vB)) :=
 cond (decide (t8<(p0.2.2.2.1.length:Int)))
 ((at? p0.2.2.2.1 t8).bind λx103 =>
 (at? p0.2.2.2.1 t8).bind λx109 =>
 (at? p0.2.2.2.1 t8).bind λx116 =>
 (am t3_8 [4,1,x103.1,x109.2.1] (vA (x116.2.2.1+1))).bind λt120 =>
 some (.inl (vA (t8+1),t120)))
 (some (.inr t3_8))
def cY (p0:vw):Option (List vB) :=
 (aR p0).bind λt10 =>
 cond (!t10)
 (some ([]:List vB))
 ((ah ([1,1]:List Int)).bind λt14 =>
 (am ([(t14,4,0,p0.2.1,[])]) ([1,2]:List Int) p0.2.2.2.2.2.2.1).bind λt24 =>
 (am t24 ([1,3]:List Int) p0.2.2.2.2.2.2.2.1).bind λt29 =>
 (am t29 ([1,4]:List Int) p0.2.2.2.2.2.2.2.2.1).bind λt34 =>
 (am t34 ([1,5]:List Int) p0.2.2.2.2.2.2.2.2.2.1).bind λt39 =>
 (loop (λz=>jh p0 z.1 z.2) (1,t39)).bind λd_1 =>
 (loop (λz=>fA p0 z.1 z.2) (1,d_1)).bind λd_3 =>
 (loop (λz=>jj p0 z.1 z.2) (0,d_3)).bind λd_4 =>
 some d_4)
def kV:FL:=(273,⟨[.val true vN false],[.val false (.one (.sl vU)) (some true)],λa=>cY a⟩)::kU
theorem qO:Gd kV:=vH qN 273 Tryz.f273 [(0,⟨⟨[(3,false,[.own 1000000000]),(4,false,[dI])],[(1000000000,.root vU true)]⟩,
 ⟨[(3,false,[.own 1000000300])],[(1000000300,.root vU true)]⟩,none⟩),
 (2,⟨⟨[(3,false,[.own 1000002000]),(5,false,[dI])],[(1000002000,.root vU true)]⟩,
 ⟨[(3,false,[.own 1000002300])],[(1000002300,.root vU true)]⟩,none⟩),
 (4,⟨⟨[(3,false,[.own 1000004000]),(6,false,[dI])],[(1000004000,.root vU true)]⟩,
 ⟨[(3,false,[.own 1000004300])],[(1000004300,.root vU true)]⟩,none⟩),
 (6,⟨⟨[(3,false,[.own 1000006000]),(7,false,[dI])],[(1000006000,.root vU true)]⟩,
 ⟨[(3,false,[.own 1000006300])],[(1000006300,.root vU true)]⟩,none⟩),
 (8,⟨⟨[(3,false,[.own 1000008000]),(8,false,[dI])],[(1000008000,.root vU true)]⟩,
 ⟨[(3,false,[.own 1000008300])],[(1000008300,.root vU true)]⟩,none⟩)] Tryz.func273
def aq (c0:vM) (b1:vw):Option (vM×List Int) :=
 (cY b1).bind λt7 =>
 cond (decide ((t7.length:Int)>0))
 ((bn c0 4).bind λt13 =>
 cond (!t13.2)
 ((aa t13.1 (t7.length:Int)).bind λt21 =>
 (ix t7.length t21.2).bind λj22 =>
 (t7[j22]?).bind λx24 =>
 (vS ([]:List Int) x24.1).bind λzs25 =>
 some (t21.1,zs25))
 ((aa t13.1 8).bind λt27 =>
 cond (t27.2==0)
 (some (t27.1,([0]:List Int)))
 (cond (t27.2==1)
 (some (t27.1,([1,3,1]:List Int)))
 (cond (t27.2==2)
 ((ah ([2,2,9]:List Int)).bind λt37 =>
 some (t27.1,t37))
 (cond (t27.2==3)
 ((aa t27.1 9).bind λt41 =>
 (ah [3,1,vA (1+t41.2)]).bind λt44 =>
 some (t41.1,t44))
 (cond (t27.2==4)
 ((ah ([2,2]:List Int)).bind λt48 =>
 some (t27.1,t48))
 (cond (t27.2==5)
 ((ah ([9]:List Int)).bind λt52 =>
 some (t27.1,t52))
 (cond (t27.2==6)
 ((ah ([4,1,2,11]:List Int)).bind λt56 =>
 some (t27.1,t56))
 ((aM t27.1).bind λt58 =>
 some t58)))))))))
 ((aa c0 8).bind λt27_1 =>
 cond (t27_1.2==0)
 (some (t27_1.1,([0]:List Int)))
 (cond (t27_1.2==1)
 (some (t27_1.1,([1,3,1]:List Int)))
 (cond (t27_1.2==2)
 ((ah ([2,2,9]:List Int)).bind λt37_1 =>
 some (t27_1.1,t37_1))
 (cond (t27_1.2==3)
 ((aa t27_1.1 9).bind λt41_1 =>
 (ah [3,1,vA (1+t41_1.2)]).bind λt44_1 =>
 some (t41_1.1,t44_1))
 (cond (t27_1.2==4)
 ((ah ([2,2]:List Int)).bind λt48_1 =>
 some (t27_1.1,t48_1))
 (cond (t27_1.2==5)
 ((ah ([9]:List Int)).bind λt52_1 =>
 some (t27_1.1,t52_1))
 (cond (t27_1.2==6)
 ((ah ([4,1,2,11]:List Int)).bind λt56_1 =>
 some (t27_1.1,t56_1))
 ((aM t27_1.1).bind λt58_1 =>
 some t58_1))))))))
def kW:FL:=(165,⟨[.ptr wW none,.val true vN false],[.val false yl (some true)],λa=>aq a.1 a.2⟩)::kV
theorem qP:Gd kW:=vH qO 165 Tryz.f165 [] Tryz.func165
def gH (p0:vM) (i1:vw):Option (vM×vB) :=
 (aa p0 (vA ((i1.2.2.1.length:Int)+1))).bind λt12 =>
 (shl .i64 1 (IntKind.u64.wrap ((i1.2.2.1.length:Int)))).bind λt18 =>
 (aa t12.1 10).bind λt21 =>
 cond (t21.2==0)
 ((ah ([1,1]:List Int)).bind λt25 =>
 (bo t21.1 ([[110,101,119],[],[101,108,101,118,101,110,45,98,121,116,101]]:List (List UInt8))).bind λt28 =>
 some (t28.1,(t25,4,0,t28.2,[])))
 (cond (t21.2==1)
 (cond (t21.2==1)
 ((ah [2,2,vA (1+t12.2)]).bind λt36 =>
 (af t21.1 ([1,5,1000,0,1001]:List Int)).bind λt39 =>
 (ai t39.2).bind λt40 =>
 some (t39.1,(t36,t40.1,t40.2.1,t40.2.2.1,t40.2.2.2)))
 (cond (t21.2==3)
 ((ah [2,4,vA (1+t12.2)]).bind λt46 =>
 (aa t21.1 4).bind λt48 =>
 (ai (vA (1+t48.2))).bind λt50 =>
 some (t48.1,(t46,t50.1,t50.2.1,t50.2.2.1,t50.2.2.2)))
 (cond (t21.2==4)
 (cond (t21.2==4)
 ((aa t21.1 4).bind λt56 =>
 (ah [3,1,vA (1+t56.2)]).bind λt59 =>
 (af t56.1 ([4,4,6,1]:List Int)).bind λt62 =>
 (ai t62.2).bind λt63 =>
 some (t62.1,(t59,t63.1,t63.2.1,t63.2.2.1,t63.2.2.2)))
 (cond (t21.2==6)
 (cond (t21.2==6)
 ((aa t21.1 4).bind λt69 =>
 (ah [3,2,vA (1+t69.2)]).bind λt72 =>
 (aa t69.1 (vA ((vA (t18-1))+2))).bind λt76 =>
 (ai t76.2).bind λt77 =>
 some (t76.1,(t72,t77.1,t77.2.1,t77.2.2.1,t77.2.2.2)))
 (cond (t21.2==8)
 ((aa t21.1 4).bind λt82 =>
 (ah [3,3,vA (1+t82.2)]).bind λt85 =>
 (aa t82.1 (vA ((vA (t18-1))+1))).bind λt89 =>
 (ai t89.2).bind λt90 =>
 some (t89.1,(t85,t90.1,t90.2.1,t90.2.2.1,t90.2.2.2)))
 ((aq t21.1 i1).bind λt94 =>
 (aE t94.1).bind λt96 =>
 some (t96.1,(t94.2,t96.2.1,t96.2.2.1,t96.2.2.2.1,t96.2.2.2.2)))))
 (cond (t21.2==7)
 ((aa t21.1 4).bind λt69_1 =>
 (ah [3,2,vA (1+t69_1.2)]).bind λt72_1 =>
 (aa t69_1.1 (vA ((vA (t18-1))+2))).bind λt76_1 =>
 (ai t76_1.2).bind λt77_1 =>
 some (t76_1.1,(t72_1,t77_1.1,t77_1.2.1,t77_1.2.2.1,t77_1.2.2.2)))
 (cond (t21.2==8)
 ((aa t21.1 4).bind λt82_1 =>
 (ah [3,3,vA (1+t82_1.2)]).bind λt85_1 =>
 (aa t82_1.1 (vA ((vA (t18-1))+1))).bind λt89_1 =>
 (ai t89_1.2).bind λt90_1 =>
 some (t89_1.1,(t85_1,t90_1.1,t90_1.2.1,t90_1.2.2.1,t90_1.2.2.2)))
 ((aq t21.1 i1).bind λt94_1 =>
 (aE t94_1.1).bind λt96_1 =>
 some (t96_1.1,(t94_1.2,t96_1.2.1,t96_1.2.2.1,t96_1.2.2.2.1,t96_1.2.2.2.2)))))))
 (cond (t21.2==5)
 ((aa t21.1 4).bind λt56_1 =>
 (ah [3,1,vA (1+t56_1.2)]).bind λt59_1 =>
 (af t56_1.1 ([4,4,6,1]:List Int)).bind λt62_1 =>
 (ai t62_1.2).bind λt63_1 =>
 some (t62_1.1,(t59_1,t63_1.1,t63_1.2.1,t63_1.2.2.1,t63_1.2.2.2)))
 (cond (t21.2==6)
 (cond (t21.2==6)
 ((aa t21.1 4).bind λt69_2 =>
 (ah [3,2,vA (1+t69_2.2)]).bind λt72_2 =>
 (aa t69_2.1 (vA ((vA (t18-1))+2))).bind λt76_2 =>
 (ai t76_2.2).bind λt77_2 =>
 some (t76_2.1,(t72_2,t77_2.1,t77_2.2.1,t77_2.2.2.1,t77_2.2.2.2)))
 (cond (t21.2==8)
 ((aa t21.1 4).bind λt82_2 =>
 (ah [3,3,vA (1+t82_2.2)]).bind λt85_2 =>
 (aa t82_2.1 (vA ((vA (t18-1))+1))).bind λt89_2 =>
 (ai t89_2.2).bind λt90_2 =>
 some (t89_2.1,(t85_2,t90_2.1,t90_2.2.1,t90_2.2.2.1,t90_2.2.2.2)))
 ((aq t21.1 i1).bind λt94_2 =>
 (aE t94_2.1).bind λt96_2 =>
 some (t96_2.1,(t94_2.2,t96_2.2.1,t96_2.2.2.1,t96_2.2.2.2.1,t96_2.2.2.2.2)))))
 (cond (t21.2==7)
 ((aa t21.1 4).bind λt69_3 =>
 (ah [3,2,vA (1+t69_3.2)]).bind λt72_3 =>
 (aa t69_3.1 (vA ((vA (t18-1))+2))).bind λt76_3 =>
 (ai t76_3.2).bind λt77_3 =>
 some (t76_3.1,(t72_3,t77_3.1,t77_3.2.1,t77_3.2.2.1,t77_3.2.2.2)))
 (cond (t21.2==8)
 ((aa t21.1 4).bind λt82_3 =>
 (ah [3,3,vA (1+t82_3.2)]).bind λt85_3 =>
 (aa t82_3.1 (vA ((vA (t18-1))+1))).bind λt89_3 =>
 (ai t89_3.2).bind λt90_3 =>
 some (t89_3.1,(t85_3,t90_3.1,t90_3.2.1,t90_3.2.2.1,t90_3.2.2.2)))
 ((aq t21.1 i1).bind λt94_3 =>
 (aE t94_3.1).bind λt96_3 =>
 some (t96_3.1,(t94_3.2,t96_3.2.1,t96_3.2.2.1,t96_3.2.2.2.1,t96_3.2.2.2.2))))))))))
 (cond (t21.2==2)
 ((ah [2,2,vA (1+t12.2)]).bind λt36_1 =>
 (af t21.1 ([1,5,1000,0,1001]:List Int)).bind λt39_1 =>
 (ai t39_1.2).bind λt40_1 =>
 some (t39_1.1,(t36_1,t40_1.1,t40_1.2.1,t40_1.2.2.1,t40_1.2.2.2)))
 (cond (t21.2==3)
 ((ah [2,4,vA (1+t12.2)]).bind λt46_1 =>
 (aa t21.1 4).bind λt48_1 =>
 (ai (vA (1+t48_1.2))).bind λt50_1 =>
 some (t48_1.1,(t46_1,t50_1.1,t50_1.2.1,t50_1.2.2.1,t50_1.2.2.2)))
 (cond (t21.2==4)
 (cond (t21.2==4)
 ((aa t21.1 4).bind λt56_2 =>
 (ah [3,1,vA (1+t56_2.2)]).bind λt59_2 =>
 (af t56_2.1 ([4,4,6,1]:List Int)).bind λt62_2 =>
 (ai t62_2.2).bind λt63_2 =>
 some (t62_2.1,(t59_2,t63_2.1,t63_2.2.1,t63_2.2.2.1,t63_2.2.2.2)))
 (cond (t21.2==6)
 (cond (t21.2==6)
 ((aa t21.1 4).bind λt69_4 =>
 (ah [3,2,vA (1+t69_4.2)]).bind λt72_4 =>
 (aa t69_4.1 (vA ((vA (t18-1))+2))).bind λt76_4 =>
 (ai t76_4.2).bind λt77_4 =>
 some (t76_4.1,(t72_4,t77_4.1,t77_4.2.1,t77_4.2.2.1,t77_4.2.2.2)))
 (cond (t21.2==8)
 ((aa t21.1 4).bind λt82_4 =>
 (ah [3,3,vA (1+t82_4.2)]).bind λt85_4 =>
 (aa t82_4.1 (vA ((vA (t18-1))+1))).bind λt89_4 =>
 (ai t89_4.2).bind λt90_4 =>
 some (t89_4.1,(t85_4,t90_4.1,t90_4.2.1,t90_4.2.2.1,t90_4.2.2.2)))
 ((aq t21.1 i1).bind λt94_4 =>
 (aE t94_4.1).bind λt96_4 =>
 some (t96_4.1,(t94_4.2,t96_4.2.1,t96_4.2.2.1,t96_4.2.2.2.1,t96_4.2.2.2.2)))))
 (cond (t21.2==7)
 ((aa t21.1 4).bind λt69_5 =>
 (ah [3,2,vA (1+t69_5.2)]).bind λt72_5 =>
 (aa t69_5.1 (vA ((vA (t18-1))+2))).bind λt76_5 =>
 (ai t76_5.2).bind λt77_5 =>
 some (t76_5.1,(t72_5,t77_5.1,t77_5.2.1,t77_5.2.2.1,t77_5.2.2.2)))
 (cond (t21.2==8)
 ((aa t21.1 4).bind λt82_5 =>
 (ah [3,3,vA (1+t82_5.2)]).bind λt85_5 =>
 (aa t82_5.1 (vA ((vA (t18-1))+1))).bind λt89_5 =>
 (ai t89_5.2).bind λt90_5 =>
 some (t89_5.1,(t85_5,t90_5.1,t90_5.2.1,t90_5.2.2.1,t90_5.2.2.2)))
 ((aq t21.1 i1).bind λt94_5 =>
 (aE t94_5.1).bind λt96_5 =>
 some (t96_5.1,(t94_5.2,t96_5.2.1,t96_5.2.2.1,t96_5.2.2.2.1,t96_5.2.2.2.2)))))))
 (cond (t21.2==5)
 ((aa t21.1 4).bind λt56_3 =>
 (ah [3,1,vA (1+t56_3.2)]).bind λt59_3 =>
 (af t56_3.1 ([4,4,6,1]:List Int)).bind λt62_3 =>
 (ai t62_3.2).bind λt63_3 =>
 some (t62_3.1,(t59_3,t63_3.1,t63_3.2.1,t63_3.2.2.1,t63_3.2.2.2)))
 (cond (t21.2==6)
 (cond (t21.2==6)
 ((aa t21.1 4).bind λt69_6 =>
 (ah [3,2,vA (1+t69_6.2)]).bind λt72_6 =>
 (aa t69_6.1 (vA ((vA (t18-1))+2))).bind λt76_6 =>
 (ai t76_6.2).bind λt77_6 =>
 some (t76_6.1,(t72_6,t77_6.1,t77_6.2.1,t77_6.2.2.1,t77_6.2.2.2)))
 (cond (t21.2==8)
 ((aa t21.1 4).bind λt82_6 =>
 (ah [3,3,vA (1+t82_6.2)]).bind λt85_6 =>
 (aa t82_6.1 (vA ((vA (t18-1))+1))).bind λt89_6 =>
 (ai t89_6.2).bind λt90_6 =>
 some (t89_6.1,(t85_6,t90_6.1,t90_6.2.1,t90_6.2.2.1,t90_6.2.2.2)))
 ((aq t21.1 i1).bind λt94_6 =>
 (aE t94_6.1).bind λt96_6 =>
 some (t96_6.1,(t94_6.2,t96_6.2.1,t96_6.2.2.1,t96_6.2.2.2.1,t96_6.2.2.2.2)))))
 (cond (t21.2==7)
 ((aa t21.1 4).bind λt69_7 =>
 (ah [3,2,vA (1+t69_7.2)]).bind λt72_7 =>
 (aa t69_7.1 (vA ((vA (t18-1))+2))).bind λt76_7 =>
 (ai t76_7.2).bind λt77_7 =>
 some (t76_7.1,(t72_7,t77_7.1,t77_7.2.1,t77_7.2.2.1,t77_7.2.2.2)))
 (cond (t21.2==8)
 ((aa t21.1 4).bind λt82_7 =>
 (ah [3,3,vA (1+t82_7.2)]).bind λt85_7 =>
 (aa t82_7.1 (vA ((vA (t18-1))+1))).bind λt89_7 =>
 (ai t89_7.2).bind λt90_7 =>
 some (t89_7.1,(t85_7,t90_7.1,t90_7.2.1,t90_7.2.2.1,t90_7.2.2.2)))
 ((aq t21.1 i1).bind λt94_7 =>
 (aE t94_7.1).bind λt96_7 =>
 some (t96_7.1,(t94_7.2,t96_7.2.1,t96_7.2.2.1,t96_7.2.2.2.1,t96_7.2.2.2.2)))))))))))
def kX:FL:=(272,⟨[.ptr wW none,.val true vN false],[.val true vU (some true)],λa=>gH a.1 a.2⟩)::kW
theorem qQ:Gd kX:=vH qP 272 Tryz.f272 [] Tryz.func272
def cZ (b1:vw) (i6:Int) (b0:List Int) (b1_1:Int) (b2:Int) (out5:List vB):Option ((Int×List Int×Int×Int×List vB)⊕(List Int×Int×Int×List vB)) :=
 cond (decide (i6>0))
 ((gH (b0,b1_1,b2) b1).bind λt17 =>
 (vS out5 [t17.2]).bind λzs19 =>
 some (.inl (vA (i6-1),t17.1.1,t17.1.2.1,t17.1.2.2,zs19)))
 (some (.inr (b0,b1_1,b2,out5)))
def fB (c0:vM) (b1:vw):Option (vM×List vB) :=
 (aa c0 4).bind λt9 =>
 (loop (λz=>cZ b1 z.1 z.2.1 z.2.2.1 z.2.2.2.1 z.2.2.2.2) (t9.2,t9.1.1,t9.1.2.1,t9.1.2.2,([]:List vB))).bind λd =>
 some ((d.1,d.2.1,d.2.2.1),d.2.2.2)
def kY:FL:=(164,⟨[.ptr wW none,.val true vN false],[.val false (.one (.sl vU)) (some true)],λa=>fB a.1 a.2⟩)::kX
theorem qR:Gd kY:=vH qQ 164 Tryz.f164 [(0,⟨⟨[(5,false,[.own 1000000000]),(6,false,[dI])],[(1,.box [.dat (.sl (.one (.int .u8))),dI,dI]),(1000000000,.root vU true)]⟩,
 ⟨[(5,false,[.own 1000000300])],[(1,.box [.dat (.sl (.one (.int .u8))),dI,dI]),(1000000300,.root vU true)]⟩,none⟩)] Tryz.func164
def da (b1:vw) (i6:Int) (b0:List Int) (b1_1:Int) (b2:Int) (b0_1:Int) (b1_2:Int) (b2_1:Int) (b3:Int) (b4:List vB):Option ((Int×List Int×Int×Int×Int×Int×Int×Int×List vB)⊕(List Int×Int×Int×Int×Int×Int×Int×List vB)) :=
 cond (decide (i6>0))
 ((aq (b0,b1_1,b2) b1).bind λt31 =>
 (vS b4 ([(t31.2,5,0,[],[])])).bind λzs35 =>
 some (.inl (vA (i6-1),t31.1.1,t31.1.2.1,t31.1.2.2,b0_1,b1_2,b2_1,b3,zs35)))
 (some (.inr (b0,b1_1,b2,b0_1,b1_2,b2_1,b3,b4)))
def bS (c0:vM) (b1:vw):Option (vM×wd) :=
 (af c0 ([160,161,163,163,165]:List Int)).bind λt9 =>
 (aa t9.1 100).bind λt11 =>
 cond (t9.2==163)
 ((fB t11.1 b1).bind λt18 =>
 some (t18.1,(t9.2,t11.2,0,0,t18.2)))
 ((aa t11.1 4).bind λt22 =>
 (loop (λz=>da b1 z.1 z.2.1 z.2.2.1 z.2.2.2.1 z.2.2.2.2.1 z.2.2.2.2.2.1 z.2.2.2.2.2.2.1 z.2.2.2.2.2.2.2.1 z.2.2.2.2.2.2.2.2) (t22.2,t22.1.1,t22.1.2.1,t22.1.2.2,t9.2,t11.2,0,0,[])).bind λd =>
 cond (d.2.2.2.1==165)
 ((aa (d.1,d.2.1,d.2.2.1) 3).bind λt41 =>
 (aa t41.1 5).bind λt44 =>
 some (t44.1,(d.2.2.2.1,d.2.2.2.2.1,t41.2,t44.2,d.2.2.2.2.2.2.2)))
 (some ((d.1,d.2.1,d.2.2.1),d.2.2.2)))
def kZ:FL:=(75,⟨[.ptr wW none,.val true vN false],[.val true xU (some true)],λa=>bS a.1 a.2⟩)::kY
theorem qS:Gd kZ:=vH qR 75 Tryz.f75 [(0,⟨⟨[(6,false,[dI])],[(1,.box [.dat (.sl (.one (.int .u8))),dI,dI]),(269312,.box [dI,dI,dI,dI,.own 1000000000]),(1000000000,.root vU true)]⟩,
 ⟨[],[(1,.box [.dat (.sl (.one (.int .u8))),dI,dI]),(269312,.box [dI,dI,dI,dI,.own 1000000300]),(1000000300,.root vU true)]⟩,none⟩)] Tryz.func75
def gI (c0:vM):Option (vM×AO) :=
 (eh c0).bind λt5 =>
 (aa t5.1 12).bind λt7 =>
 cond (t7.2==0)
 ((af t7.1 ([0,99,100]:List Int)).bind λt12 =>
 some (t12.1,(t12.2,t5.2.2.1,t5.2.2.2.1,t5.2.2.2.2.1,t5.2.2.2.2.2)))
 (cond (t7.2==1)
 ((af t7.1 ([(-1),99999,100000,100001]:List Int)).bind λt18 =>
 some (t18.1,(t5.2.1,t18.2,t5.2.2.2.1,t5.2.2.2.2.1,t5.2.2.2.2.2)))
 (cond (t7.2==2)
 ((af t7.1 ([(-1),11]:List Int)).bind λt24 =>
 some (t24.1,(t5.2.1,t5.2.2.1,t24.2,t5.2.2.2.2.1,t5.2.2.2.2.2)))
 (cond (t7.2==3)
 ((af t7.1 ([(-1),7,8]:List Int)).bind λt30 =>
 some (t30.1,(t5.2.1,t5.2.2.1,t5.2.2.2.1,t5.2.2.2.2.1,t30.2)))
 (some (t7.1,t5.2)))))
def l6:FL:=(296,⟨[.ptr wW none],[.val true Ag (some true)],λa=>gI a⟩)::kZ
theorem qT:Gd l6:=vH qS 296 Tryz.f296 [] Tryz.func296
def gJ (c0:vM):Option (vM×List Pt) :=
 (aa c0 4).bind λt6 =>
 (cQ t6.1 (vA (1+t6.2))).bind λt8 =>
 (aa t8.1 12).bind λt10 =>
 cond (t10.2==0)
 ((gI t10.1).bind λt15 =>
 (ix t8.2.length 0).bind λj16 =>
 (t8.2[j16]?).bind λx =>
 some (t15.1,t8.2.set j16 (x.1,x.2.1,x.2.2.1,t15.2.1,t15.2.2.1,t15.2.2.2.1,t15.2.2.2.2.1,t15.2.2.2.2.2)))
 (cond (t10.2==1)
 ((af t10.1 ([0,1000,1001]:List Int)).bind λt23 =>
 (ix t8.2.length 0).bind λj24 =>
 (t8.2[j24]?).bind λx_1 =>
 some (t23.1,t8.2.set j24 (x_1.1,t23.2,x_1.2.2.1,x_1.2.2.2.1,x_1.2.2.2.2.1,x_1.2.2.2.2.2.1,x_1.2.2.2.2.2.2.1,x_1.2.2.2.2.2.2.2)))
 (cond (t10.2==2)
 ((ix t8.2.length 0).bind λj29 =>
 (t8.2[j29]?).bind λx_2 =>
 some (t10.1,t8.2.set j29 (false,x_2.2.1,x_2.2.2.1,x_2.2.2.2.1,x_2.2.2.2.2.1,x_2.2.2.2.2.2.1,x_2.2.2.2.2.2.2.1,x_2.2.2.2.2.2.2.2)))
 (some (t10.1,t8.2))))
def l7:FL:=(191,⟨[.ptr wW none],[.val false (.one (.sl xS)) (some true)],λa=>gJ a⟩)::l6
theorem qU:Gd l7:=vH qT 191 Tryz.f191 [] Tryz.func191
def es (i4:Int) (b0:List Int) (b1:Int) (b2:Int) (l3:List vD):Option ((Int×List Int×Int×Int×List vD)⊕(List Int×Int×Int×List vD)) :=
 cond (decide (i4>0))
 ((aa (b0,b1,b2) 6).bind λt13 =>
 cond (t13.2==0)
 ((aa t13.1 3).bind λt31 =>
 (bQ t31.1).bind λt34 =>
 (aa t34.1 4).bind λt36 =>
 (eo l3 (vA (1+t31.2)) t34.2 t36.2).bind λt37 =>
 some (.inl (vA (i4-1),t36.1.1,t36.1.2.1,t36.1.2.2,t37.1)))
 (cond (t13.2==1)
 ((de l3).bind λt43 =>
 some (.inl (vA (i4-1),t13.1.1,t13.1.2.1,t13.1.2.2,t43)))
 ((aa t13.1 3).bind λt16 =>
 (bQ t16.1).bind λt19 =>
 (aa t19.1 3).bind λt21 =>
 (aa t21.1 4).bind λt24 =>
 (cp l3 (vA (1+t16.2)) (vA (t19.2+t21.2)) t24.2).bind λt25 =>
 some (.inl (vA (i4-1),t24.1.1,t24.1.2.1,t24.1.2.2,t25)))))
 (some (.inr (b0,b1,b2,l3)))
def gK (c0:vM):Option (vM×List vD) :=
 (aa c0 10).bind λt7 =>
 (loop (λz=>es z.1 z.2.1 z.2.2.1 z.2.2.2.1 z.2.2.2.2) (t7.2,t7.1.1,t7.1.2.1,t7.1.2.2,([]:List vD))).bind λd =>
 some ((d.1,d.2.1,d.2.2.1),d.2.2.2)
def l8:FL:=(297,⟨[.ptr wW none],[.val false (.one (.sl vX)) (some true)],λa=>gK a⟩)::l7
theorem qV:Gd l8:=vH qU 297 Tryz.f297 [(0,⟨⟨[(3,false,[.own 1000000000]),(4,false,[dI])],[(1,.box [.dat (.sl (.one (.int .u8))),dI,dI]),(1000000000,.root vX true)]⟩,
 ⟨[(3,false,[.own 1000000300])],[(1,.box [.dat (.sl (.one (.int .u8))),dI,dI]),(1000000300,.root vX true)]⟩,none⟩)] Tryz.func297
def cq (i4:Int) (b0:List Int) (b1:Int) (b2:Int) (l3:List vD):Option ((Int×List Int×Int×Int×List vD)⊕(List Int×Int×Int×List vD)) :=
 (aa (b0,b1,b2) 3).bind λt31 =>
 cond (decide (i4<(vA (11+t31.2))))
 ((vS l3 [(50,vA (100+i4),1,0,false)]).bind λzs41 =>
 some (.inl (vA (i4+1),t31.1.1,t31.1.2.1,t31.1.2.2,zs41)))
 (some (.inr (t31.1.1,t31.1.2.1,t31.1.2.2,l3)))
def gL (c0:vM):Option (vM×List vD) :=
 (gK c0).bind λt6 =>
 (aa t6.1 12).bind λt8 =>
 cond (t8.2==0)
 ((af t8.1 ([0,1,99,100]:List Int)).bind λt14 =>
 (af t14.1 ([0,1,9999]:List Int)).bind λt17 =>
 (af t17.1 ([(-1),7,8]:List Int)).bind λt20 =>
 (af t20.1 ([(-1),4,5]:List Int)).bind λt23 =>
 (vS t6.2 [(t14.2,t17.2,t20.2,t23.2,false)]).bind λzs26 =>
 some (t23.1,zs26))
 (cond (t8.2==1)
 ((loop (λz=>cq z.1 z.2.1 z.2.2.1 z.2.2.2.1 z.2.2.2.2) (0,t8.1.1,t8.1.2.1,t8.1.2.2,t6.2)).bind λd =>
 some ((d.1,d.2.1,d.2.2.1),d.2.2.2))
 (some (t8.1,t6.2)))
def l9:FL:=(192,⟨[.ptr wW none],[.val false (.one (.sl vX)) (some true)],λa=>gL a⟩)::l8
theorem qW:Gd l9:=vH qV 192 Tryz.f192 [(1,⟨⟨[(3,false,[.own 1000001000]),(4,false,[dI])],[(1,.box [.dat (.sl (.one (.int .u8))),dI,dI]),(1000001000,.root vX true)]⟩,
 ⟨[(3,false,[.own 1000001300])],[(1,.box [.dat (.sl (.one (.int .u8))),dI,dI]),(1000001300,.root vX true)]⟩,none⟩)] Tryz.func192
def eu (i6:Int) (b0:List vP) (b1:List Int):Option ((Int×List vP×List Int)⊕(List vP×List Int)) :=
 cond (decide (i6<6))
 ((aL (b0,b1) (vA (10+i6),0,0)).bind λt54 =>
 some (.inl (vA (i6+1),t54.1,t54.2)))
 (some (.inr (b0,b1)))
def gM (c0:vM):Option (vM×wz×Int) :=
 (aa c0 4).bind λt8 =>
 (cR t8.1 (vA (1+t8.2))).bind λt12 =>
 (aa t12.1 12).bind λt14 =>
 cond (t14.2==0)
 ((af t14.1 ([0,1,9,100]:List Int)).bind λt21 =>
 (af t21.1 ([(-1),0,1,64]:List Int)).bind λt24 =>
 (aa t24.1 3).bind λt26 =>
 (vS t12.2.1 [(t21.2,t24.2,t26.2)]).bind λzs29 =>
 some (t26.1,(zs29,t12.2.2),vA (1+t8.2)))
 (cond (t14.2==1)
 ((af t14.1 ([0,7]:List Int)).bind λt37 =>
 (ix t12.2.2.length 0).bind λj38 =>
 (t12.2.2[j38]?).bind λx =>
 some (t37.1,(t12.2.1,t12.2.2.set j38 t37.2),vA (1+t8.2)))
 (cond (t14.2==2)
 ((af t14.1 ([0,6,7]:List Int)).bind λt43 =>
 some (t43.1,t12.2,t43.2))
 (cond (t14.2==3)
 ((loop (λz=>eu z.1 z.2.1 z.2.2) (0,t12.2.1,t12.2.2)).bind λd =>
 some (t14.1,d,vA (1+t8.2)))
 (some (t14.1,t12.2,vA (1+t8.2))))))
def lb:FL:=(193,⟨[.ptr wW none],[.val true xw (some true),.val false vG (some true)],λa=>gM a⟩)::l9
theorem qX:Gd lb:=vH qW 193 Tryz.f193 [(1,⟨⟨[(6,false,[dI])],[(528384,.box [.own 1000001000,.own 1000001001]),(1000001000,.root wL true),(1000001001,.root vG true)]⟩,
 ⟨[],[(528384,.box [.own 1000001300,.own 1000001301]),(1000001300,.root wL true),(1000001301,.root vG true)]⟩,none⟩)] Tryz.func193
def fC (c0:vM):Option (vM×vw) :=
 (cW c0).bind λt5 =>
 (aa t5.1 16).bind λt7 =>
 cond (t7.2==0)
 ((af t7.1 ([0,99,100]:List Int)).bind λt12 =>
 some (t12.1,(t12.2,t5.2.2.1,t5.2.2.2.1,t5.2.2.2.2.1,t5.2.2.2.2.2.1,t5.2.2.2.2.2.2.1,t5.2.2.2.2.2.2.2.1,t5.2.2.2.2.2.2.2.2.1,t5.2.2.2.2.2.2.2.2.2.1,t5.2.2.2.2.2.2.2.2.2.2.1,t5.2.2.2.2.2.2.2.2.2.2.2)))
 (cond (t7.2==1)
 ((bo t7.1 ([[116,101,110,45,98,121,116,101,115,45],[101,108,101,118,101,110,45,98,121,116,101]]:List (List UInt8))).bind λt18 =>
 some (t18.1,(t5.2.1,t18.2,t5.2.2.2.1,t5.2.2.2.2.1,t5.2.2.2.2.2.1,t5.2.2.2.2.2.2.1,t5.2.2.2.2.2.2.2.1,t5.2.2.2.2.2.2.2.2.1,t5.2.2.2.2.2.2.2.2.2.1,t5.2.2.2.2.2.2.2.2.2.2.1,t5.2.2.2.2.2.2.2.2.2.2.2)))
 (cond (t7.2==2)
 ((gJ t7.1).bind λt23 =>
 some (t23.1,(t5.2.1,t5.2.2.1,t23.2,t5.2.2.2.2.1,t5.2.2.2.2.2.1,t5.2.2.2.2.2.2.1,t5.2.2.2.2.2.2.2.1,t5.2.2.2.2.2.2.2.2.1,t5.2.2.2.2.2.2.2.2.2.1,t5.2.2.2.2.2.2.2.2.2.2.1,t5.2.2.2.2.2.2.2.2.2.2.2)))
 (cond (t7.2==3)
 ((gL t7.1).bind λt28 =>
 some (t28.1,(t5.2.1,t5.2.2.1,t5.2.2.2.1,t28.2,t5.2.2.2.2.2.1,t5.2.2.2.2.2.2.1,t5.2.2.2.2.2.2.2.1,t5.2.2.2.2.2.2.2.2.1,t5.2.2.2.2.2.2.2.2.2.1,t5.2.2.2.2.2.2.2.2.2.2.1,t5.2.2.2.2.2.2.2.2.2.2.2)))
 (cond (t7.2==4)
 ((gM t7.1).bind λt34 =>
 some (t34.1,(t5.2.1,t5.2.2.1,t5.2.2.2.1,t5.2.2.2.2.1,t34.2.1.1,t34.2.1.2,t5.2.2.2.2.2.2.2.1,t5.2.2.2.2.2.2.2.2.1,t5.2.2.2.2.2.2.2.2.2.1,t5.2.2.2.2.2.2.2.2.2.2.1,t5.2.2.2.2.2.2.2.2.2.2.2)))
 (cond (t7.2==5)
 ((af t7.1 ([(-1),1000000,1000001]:List Int)).bind λt42 =>
 some (t42.1,(t5.2.1,t5.2.2.1,t5.2.2.2.1,t5.2.2.2.2.1,t5.2.2.2.2.2.1,t5.2.2.2.2.2.2.1,t5.2.2.2.2.2.2.2.1,t5.2.2.2.2.2.2.2.2.1,t5.2.2.2.2.2.2.2.2.2.1,t42.2,t5.2.2.2.2.2.2.2.2.2.2.2)))
 (some (t7.1,t5.2)))))))
def lc:FL:=(98,⟨[.ptr wW none],[.val true vN (some true)],λa=>fC a⟩)::lb
theorem qY:Gd lc:=vH qX 98 Tryz.f98 [] Tryz.func98
def jk (b0:vw) (p1:wd):Option Bool :=
 (aR b0).bind λt6 =>
 (cond t6
 ((bP p1).bind λt9 =>
 some t9)
 (some false)).bind λt10 =>
 (cond t10 (some (p1.1 != 162)) (some false)).bind λt15 =>
 some t15
def ld:FL:=(82,⟨[.val true vN false,.val true xU false],[.val false wD (some true)],λa=>jk a.1 a.2⟩)::lc
theorem qZ:Gd ld:=vH qY 82 Tryz.f82 [] Tryz.func82
def ar (b0:List Int) (tag1:Int) (body2:List Int):Option (List Int) :=
 (vS ([]:List Int) b0).bind λzs10 =>
 (ae tag1 0 255).bind λt12 =>
 (cond (!t12) (some true) (some (decide ((body2.length:Int)>250)))).bind λt18 =>
 cond t18
 (some zs10)
 ((vS zs10 [IntKind.u8.wrap (tag1)]).bind λzs24 =>
 cond (decide ((body2.length:Int)>127))
 ((vS zs24 ([129]:List Int)).bind λzs30 =>
 (vS zs30 [IntKind.u8.wrap ((body2.length:Int))]).bind λzs36 =>
 (vS zs36 body2).bind λzs38 =>
 some zs38)
 ((vS zs24 [IntKind.u8.wrap ((body2.length:Int))]).bind λzs36_1 =>
 (vS zs36_1 body2).bind λzs38_1 =>
 some zs38_1))
def lf:FL:=(201,⟨[.val false xu false,.val false vG false,.val false xu false],[.val false xu (some true)],λa=>ar a.1 a.2.1 a.2.2⟩)::ld
theorem r7:Gd lf:=vH qZ 201 Tryz.f201 [] Tryz.func201
def cr (n0_1:Int) (out3:List Int):Option ((Int×List Int)⊕(List Int)) :=
 (cond (decide (n0_1<(-128))) (some true) (some (decide (n0_1>127)))).bind λt14 =>
 cond t14
 ((vS [IntKind.u8.wrap (n0_1.fdiv (2^8))] out3).bind λzs21 =>
 some (.inl (n0_1.fdiv (2^8),zs21)))
 (some (.inr out3))
def bp (n0:Int):Option (List Int) :=
 (aw n0).bind λt5 =>
 (loop (λz=>cr z.1 z.2) (t5,[IntKind.u8.wrap (t5)])).bind λd =>
 some d
def lg:FL:=(300,⟨[.val false vG false],[.val false xu (some true)],λa=>bp a⟩)::lf
theorem r8:Gd lg:=vH r7 300 Tryz.f300 [(0,⟨⟨[(0,false,[dI]),(3,false,[.own 1000000000]),(12,false,[.undef]),(13,false,[.undef])],[(1000000000,.root (.one (.int .u8)) true)]⟩,
 ⟨[(3,false,[.own 1000000300])],[(1000000300,.root (.one (.int .u8)) true)]⟩,none⟩)] Tryz.func300
def ct (n0_1:Int) (out3:List Int):Option ((Int×List Int)⊕(List Int)) :=
 cond (decide (n0_1>127))
 ((vS [IntKind.u8.wrap (CP .i64 (xM .i64 (n0_1.fdiv (2^7)) 127) 128)] out3).bind λzs18 =>
 some (.inl (n0_1.fdiv (2^7),zs18)))
 (some (.inr out3))
def ev (n0:Int):Option (List Int) :=
 (loop (λz=>ct z.1 z.2) (n0,[IntKind.u8.wrap (xM .i64 n0 127)])).bind λd =>
 some d
def lh:FL:=(365,⟨[.val false vG false],[.val false xu (some true)],λa=>ev a⟩)::lg
theorem r9:Gd lh:=vH r8 365 Tryz.f365 [(0,⟨⟨[(0,false,[dI]),(3,false,[.own 1000000000])],[(1000000000,.root (.one (.int .u8)) true)]⟩,
 ⟨[(3,false,[.own 1000000300])],[(1000000300,.root (.one (.int .u8)) true)]⟩,none⟩)] Tryz.func365
def dg (o0:List Int) (i4:Int) (b3:List Int):Option ((Int×List Int)⊕(List Int)) :=
 cond (decide (i4<(o0.length:Int)))
 ((at? o0 i4).bind λx19 =>
 (ev x19).bind λt21 =>
 (vS b3 t21).bind λzs22 =>
 some (.inl (vA (i4+1),zs22)))
 (some (.inr b3))
def fD (o0:List Int):Option (List Int) :=
 (bO o0).bind λt7 =>
 cond (!t7)
 (some ([]:List Int))
 ((loop (λz=>dg o0 z.1 z.2) (0,([]:List Int))).bind λd =>
 some d)
def lj:FL:=(348,⟨[.val false yl false],[.val false xu (some true)],λa=>fD a⟩)::lh
theorem ra:Gd lj:=vH r9 348 Tryz.f348 [(0,⟨⟨[(3,false,[.own 1000000000]),(4,false,[dI])],[(1000000000,.root (.one (.int .u8)) true)]⟩,
 ⟨[(3,false,[.own 1000000300])],[(1000000300,.root (.one (.int .u8)) true)]⟩,none⟩)] Tryz.func348
def gN (b0:List Int) (v1:zj):Option (List Int) :=
 (bB v1).bind λt7 =>
 cond (!t7)
 ((vS ([]:List Int) b0).bind λzs11 =>
 some zs11)
 (cond (v1.1==2)
 ((bp v1.2.1).bind λt19 =>
 (ar b0 v1.1 t19).bind λt34 =>
 some t34)
 (cond (v1.1==4)
 ((ar b0 v1.1 (yv v1.2.2.1)).bind λt34_1 =>
 some t34_1)
 (cond (v1.1==6)
 ((fD v1.2.2.2).bind λt29 =>
 (ar b0 v1.1 t29).bind λt34_2 =>
 some t34_2)
 ((ar b0 v1.1 ([]:List Int)).bind λt34_3 =>
 some t34_3))))
def lk:FL:=(347,⟨[.val false xu false,.val true Aw false],[.val false xu (some true)],λa=>gN a.1 a.2⟩)::lj
theorem rb:Gd lk:=vH ra 347 Tryz.f347 [] Tryz.func347
def dh (l0:List vB) (i4:Int) (b3:List Int):Option ((Int×List Int)⊕(List Int)) :=
 cond (decide (i4<(l0.length:Int)))
 ((at? l0 i4).bind λx16 =>
 (fD x16.1).bind λt19 =>
 (ar ([]:List Int) 6 t19).bind λt20 =>
 (at? l0 i4).bind λx23 =>
 (gN t20 x23.2).bind λt26 =>
 (ar b3 48 t26).bind λt29 =>
 some (.inl (vA (i4+1),t29)))
 (some (.inr b3))
def gO (l0:List vB):Option (List Int) :=
 (loop (λz=>dh l0 z.1 z.2) (0,([]:List Int))).bind λd =>
 some d
def ll:FL:=(299,⟨[.val false (.one (.sl vU)) false],[.val false xu (some true)],λa=>gO a⟩)::lk
theorem re:Gd ll:=vH rb 299 Tryz.f299 [(0,⟨⟨[(3,false,[.own 1000000000]),(4,false,[dI])],[(1000000000,.root (.one (.int .u8)) true)]⟩,
 ⟨[(3,false,[.own 1000000300])],[(1000000300,.root (.one (.int .u8)) true)]⟩,none⟩)] Tryz.func299
def jl (p0:wd):Option ((List Int)×Bool) :=
 (gO p0.2.2.2.2).bind λt8 =>
 cond (decide ((t8.length:Int)>250))
 (some (([]:List Int),false))
 ((bp p0.2.1).bind λt16 =>
 (ar ([]:List Int) 2 t16).bind λt17 =>
 (bp p0.2.2.1).bind λt20 =>
 (ar t17 2 t20).bind λt21 =>
 (bp p0.2.2.2.1).bind λt24 =>
 (ar t21 2 t24).bind λt25 =>
 (ar t25 48 t8).bind λt28 =>
 let t3:=decide ((t28.length:Int)<=250)
 some (t28,t3))
def lm:FL:=(200,⟨[.val true xU false],[.val false xu (some true),.val false wD (some true)],λa=>jl a⟩)::ll
theorem rf:Gd lm:=vH re 200 Tryz.f200 [] Tryz.func200
def fE (p0:wd):Option (List Int) :=
 (bP p0).bind λt6 =>
 cond (!t6)
 (some ([]:List Int))
 ((jl p0).bind λt11 =>
 cond (!t11.2)
 (some ([]:List Int))
 ((ar ([]:List Int) p0.1 t11.1).bind λt21 =>
 some t21))
def ln:FL:=(104,⟨[.val true xU false],[.val false xu (some true)],λa=>fE a⟩)::lm
theorem rj:Gd ln:=vH rf 104 Tryz.f104 [] Tryz.func104
def ez (p0:wd):Option Bool :=
 (fE p0).bind λt4 =>
 (ae (t4.length:Int) 1 120).bind λt6 =>
 some t6
def lp:FL:=(25,⟨[.val true xU false],[.val false wD (some true)],λa=>ez a⟩)::ln
theorem rk:Gd lp:=vH rj 25 Tryz.f25 [] Tryz.func25
def cu (bulk1:Bool) (b0:Int) (b1:Int) (b2:Int) (b3:Int) (b4:List vB):Option ((Int×Int×Int×Int×List vB)⊕(Int×Int×Int×Int×List vB)) :=
 (cond bulk1
 ((ez (b0,b1,b2,b3,b4)).bind λt8 =>
 some (!t8))
 (some false)).bind λt10 =>
 (cond t10 (some (decide ((b4.length:Int)>0))) (some false)).bind λt16 =>
 cond t16
 ((xR b4.length 0 (vA ((b4.length:Int)-1))).bind λp =>
 some (.inl (b0,b1,b2,b3,(b4.take p.2).drop p.1)))
 (some (.inr (b0,b1,b2,b3,b4)))
def dj (p0:wd) (bulk1:Bool):Option wd :=
 (loop (λz=>cu bulk1 z.1 z.2.1 z.2.2.1 z.2.2.2.1 z.2.2.2.2) p0).bind λd =>
 (ez d).bind λt26 =>
 cond t26 (some d) (some (162,d.2.1,7,0,[]))
def lq:FL:=(87,⟨[.val true xU true,.val false wD false],[.val true xU (some true)],λa=>dj a.1 a.2⟩)::lp
theorem rl:Gd lq:=vH rk 87 Tryz.f87 [(0,⟨⟨us 7 3 (us 12 4 []),[(1024,.box [dI,dI,dI,dI,.own 1000000000]),(1000000000,.root vU true)]⟩,
 ⟨[],[(1024,.box [dI,dI,dI,dI,.own 1000000300]),(1000000300,.root vU true)]⟩,none⟩)] Tryz.func87
def rm (a0:List Int) (b1:List Int) (i5:Int):Option (Int⊕(Unit⊕Bool)) :=
 cond (decide (i5<(a0.length:Int)))
 ((at? a0 i5).bind λx19 =>
 (at? b1 i5).bind λx23 =>
 cond (x19 != x23) (some (.inr (.inr false))) (some (.inl (vA (i5+1)))))
 (some (.inr (.inl ())))
def dk (a0:List Int) (b1:List Int):Option Bool :=
 cond ((a0.length:Int) != (b1.length:Int))
 (some false)
 ((loop (λz=>rm a0 b1 z) 0).bind (Sum.elim (λd =>
 some true) (λr=>some r)))
def lr:FL:=(289,⟨[.val false yl false,.val false yl false],[.val false wD (some true)],λa=>dk a.1 a.2⟩)::lq
theorem rn:Gd lr:=vH rl 289 Tryz.f289 [(0,⟨⟨[(5,false,[dI])],[]⟩,
 ⟨[],[]⟩,some ⟨[(4,false,[dB])],[]⟩⟩)] Tryz.func289
def jm (o0:List Int) (head1:List Int):Option Bool :=
 (cond (decide ((o0.length:Int)>(head1.length:Int)))
 ((cut o0 0 (head1.length:Int)).bind λt14 =>
 (dk t14 head1).bind λt16 =>
 some t16)
 (some false)).bind λt17 =>
 some t17
def lu:FL:=(369,⟨[.val false yl false,.val false yl false],[.val false wD (some true)],λa=>jm a.1 a.2⟩)::lr
theorem rp:Gd lu:=vH rn 369 Tryz.f369 [] Tryz.func369
def fF (o0:List Int):Option ((List Int)×Bool) :=
 (jm o0 ([1,3,1]:List Int)).bind λt6 =>
 cond (!t6)
 (some (([]:List Int),false))
 ((cut o0 3 (o0.length:Int)).bind λt10 =>
 some (t10,true))
def lv:FL:=(362,⟨[.val false yl false],[.val false yl none,.val false wD (some true)],λa=>fF a⟩)::lu
theorem rq:Gd lv:=vH rp 362 Tryz.f362 [] Tryz.func362
def gP (p0:vw) (i1:List Int):Option Bool :=
 (fF i1).bind λt9 =>
 cond (!t9.2)
 (some false)
 (cond ((t9.1.length:Int)==2)
 ((at? t9.1 0).bind λx18 =>
 (cond (x18==1)
 ((at? t9.1 1).bind λx23 =>
 some (x23==1))
 (some false)).bind λt26 =>
 some t26)
 (cond ((t9.1.length:Int) != 3)
 (some false)
 ((at? t9.1 0).bind λx31 =>
 cond (x31==2)
 ((at? t9.1 1).bind λx36 =>
 (cond (x36==2)
 (some true)
 ((at? t9.1 1).bind λx41 =>
 some (x41==4))).bind λt44 =>
 (cond t44
 ((at? t9.1 2).bind λx47 =>
 (ae x47 1 (p0.2.2.1.length:Int)).bind λt52 =>
 some t52)
 (some false)).bind λt53 =>
 some t53)
 (cond (x31==3)
 ((at? t9.1 1).bind λx57 =>
 (cond (x57==1)
 ((at? t9.1 2).bind λx62 =>
 (ae x62 1 99).bind λt64 =>
 some t64)
 (some false)).bind λt65 =>
 (cond t65
 (some true)
 ((at? t9.1 1).bind λx68 =>
 (cond (x68==2)
 (some true)
 ((at? t9.1 1).bind λx73 =>
 some (x73==3))).bind λt76 =>
 (cond t76
 ((at? t9.1 2).bind λx81 =>
 (aC (p0.2.2.2.2.1,p0.2.2.2.2.2.1) x81).bind λt83 =>
 some (decide (t83>=0)))
 (some false)).bind λt85 =>
 some t85)).bind λt86 =>
 some t86)
 (some false)))))
def lw:FL:=(338,⟨[.val true vN false,.val false yl false],[.val false wD (some true)],λa=>gP a.1 a.2⟩)::lv
theorem rr:Gd lw:=vH rq 338 Tryz.f338 [] Tryz.func338
def gQ (p0:vw) (i1:List Int):Option Bool :=
 (fF i1).bind λt9 =>
 cond (!t9.2)
 (some false)
 (cond ((t9.1.length:Int)==2)
 ((at? t9.1 0).bind λx19 =>
 (cond (x19==1)
 ((at? t9.1 1).bind λx24 =>
 (ae x24 2 5).bind λt26 =>
 some t26)
 (some false)).bind λt27 =>
 some t27)
 (cond ((t9.1.length:Int)==3)
 ((at? t9.1 0).bind λx31 =>
 (cond (x31==2)
 ((at? t9.1 1).bind λx36 =>
 (cond (x36==1)
 (some true)
 ((at? t9.1 1).bind λx41 =>
 some (x41==3))).bind λt44 =>
 some t44)
 (some false)).bind λt45 =>
 (cond t45
 ((at? t9.1 2).bind λx48 =>
 (ae x48 1 (p0.2.2.1.length:Int)).bind λt53 =>
 some t53)
 (some false)).bind λt54 =>
 some t54)
 (cond ((t9.1.length:Int)==4)
 ((at? t9.1 0).bind λx58 =>
 (cond (x58==4)
 ((at? t9.1 1).bind λx63 =>
 some (x63==1))
 (some false)).bind λt66 =>
 (cond t66
 ((at? t9.1 2).bind λx71 =>
 (at? t9.1 3).bind λx74 =>
 (bR p0.2.2.2.1 x71 x74).bind λt76 =>
 some (decide (t76>=0)))
 (some false)).bind λt78 =>
 some t78)
 (some false))))
def lz:FL:=(339,⟨[.val true vN false,.val false yl false],[.val false wD (some true)],λa=>gQ a.1 a.2⟩)::lw
theorem ru:Gd lz:=vH rr 339 Tryz.f339 [] Tryz.func339
def jn (b0:vw) (c1:Int) (p2:Int) (n3:Int):Option (vw×Int) :=
 cond (c1==2)
 ((ae n3 1 1000).bind λt13 =>
 cond (!t13)
 (some (b0,2))
 ((ix b0.2.2.1.length p2).bind λj20 =>
 (b0.2.2.1[j20]?).bind λx =>
 some ((b0.1,b0.2.1,b0.2.2.1.set j20 (x.1,n3,x.2.2.1,x.2.2.2.1,x.2.2.2.2.1,x.2.2.2.2.2.1,x.2.2.2.2.2.2.1,x.2.2.2.2.2.2.2),b0.2.2.2.1,b0.2.2.2.2.1,b0.2.2.2.2.2.1,b0.2.2.2.2.2.2.1,b0.2.2.2.2.2.2.2.1,b0.2.2.2.2.2.2.2.2.1,b0.2.2.2.2.2.2.2.2.2.1,b0.2.2.2.2.2.2.2.2.2.2),0)))
 ((ix b0.2.2.2.2.2.1.length p2).bind λj28 =>
 (b0.2.2.2.2.2.1[j28]?).bind λx_1 =>
 some ((b0.1,b0.2.1,b0.2.2.1,b0.2.2.2.1,b0.2.2.2.2.1,b0.2.2.2.2.2.1.set j28 n3,b0.2.2.2.2.2.2.1,b0.2.2.2.2.2.2.2.1,b0.2.2.2.2.2.2.2.2.1,b0.2.2.2.2.2.2.2.2.2.1,b0.2.2.2.2.2.2.2.2.2.2),0))
def lA:FL:=(340,⟨[.val true vN true,.val false vG false,.val false vG false,.val false vG false],[.val true vN (some true),.val false vG (some true)],λa=>jn a.1 a.2.1 a.2.2.1 a.2.2.2⟩)::lz
theorem rz:Gd lA:=vH ru 340 Tryz.f340 [] Tryz.func340
def jo (b0:vw) (id1:Int) (n2:Int):Option (vw×Int) :=
 (aC (b0.2.2.2.2.1,b0.2.2.2.2.2.1) id1).bind λt12 =>
 (cond (n2==4) (some (decide (t12<0))) (some false)).bind λt19 =>
 (cond t19 (some (decide ((b0.2.2.2.2.1.length:Int)<6))) (some false)).bind λt26 =>
 cond t26
 ((aL (b0.2.2.2.2.1,b0.2.2.2.2.2.1) (id1,0,0)).bind λt31 =>
 some ((b0.1,b0.2.1,b0.2.2.1,b0.2.2.2.1,t31.1,t31.2,b0.2.2.2.2.2.2.1,b0.2.2.2.2.2.2.2.1,b0.2.2.2.2.2.2.2.2.1,b0.2.2.2.2.2.2.2.2.2.1,b0.2.2.2.2.2.2.2.2.2.2),0))
 ((cond (n2==6) (some (decide (t12>=0))) (some false)).bind λt40 =>
 cond t40
 ((xR b0.2.2.2.2.1.length 0 t12).bind λp =>
 (vS ([]:List vP) ((b0.2.2.2.2.1.take p.2).drop p.1)).bind λzs47 =>
 (xR b0.2.2.2.2.1.length (vA (t12+1)) (b0.2.2.2.2.1.length:Int)).bind λp_1 =>
 (vS zs47 ((b0.2.2.2.2.1.take p_1.2).drop p_1.1)).bind λzs54 =>
 some ((b0.1,b0.2.1,b0.2.2.1,b0.2.2.2.1,zs54,b0.2.2.2.2.2.1,b0.2.2.2.2.2.2.1,b0.2.2.2.2.2.2.2.1,b0.2.2.2.2.2.2.2.2.1,b0.2.2.2.2.2.2.2.2.2.1,b0.2.2.2.2.2.2.2.2.2.2),0))
 (some (b0,2)))
def lB:FL:=(363,⟨[.val true vN true,.val false vG false,.val false vG false],[.val true vN (some true),.val false vG (some true)],λa=>jo a.1 a.2.1 a.2.2⟩)::lA
theorem rA:Gd lB:=vH rz 363 Tryz.f363 [] Tryz.func363
def gR (b0:vw) (c1:Int) (id2:Int) (n3:Int):Option (vw×Int) :=
 cond (c1==1)
 ((jo b0 id2 n3).bind λt16 =>
 some t16)
 ((shl .i64 1 (IntKind.u64.wrap ((b0.2.2.1.length:Int)))).bind λt24 =>
 (ae n3 0 (vA (t24-1))).bind λt26 =>
 cond (!t26)
 (some (b0,2))
 ((aC (b0.2.2.2.2.1,b0.2.2.2.2.2.1) id2).bind λt35 =>
 (ix b0.2.2.2.2.1.length t35).bind λj36 =>
 (b0.2.2.2.2.1[j36]?).bind λx37 =>
 cond (c1==2)
 ((aL (b0.2.2.2.2.1,b0.2.2.2.2.2.1) (x37.1,n3,x37.2.2)).bind λt47 =>
 some ((b0.1,b0.2.1,b0.2.2.1,b0.2.2.2.1,t47.1,t47.2,b0.2.2.2.2.2.2.1,b0.2.2.2.2.2.2.2.1,b0.2.2.2.2.2.2.2.2.1,b0.2.2.2.2.2.2.2.2.2.1,b0.2.2.2.2.2.2.2.2.2.2),0))
 ((aL (b0.2.2.2.2.1,b0.2.2.2.2.2.1) (x37.1,x37.2.1,n3)).bind λt47_1 =>
 some ((b0.1,b0.2.1,b0.2.2.1,b0.2.2.2.1,t47_1.1,t47_1.2,b0.2.2.2.2.2.2.1,b0.2.2.2.2.2.2.2.1,b0.2.2.2.2.2.2.2.2.1,b0.2.2.2.2.2.2.2.2.2.1,b0.2.2.2.2.2.2.2.2.2.2),0))))
def lC:FL:=(341,⟨[.val true vN true,.val false vG false,.val false vG false,.val false vG false],[.val true vN (some true),.val false vG (some true)],λa=>gR a.1 a.2.1 a.2.2.1 a.2.2.2⟩)::lB
theorem rB:Gd lC:=vH rA 341 Tryz.f341 [] Tryz.func341
def fG (p0:vw) (i1:vB):Option (vw×Int) :=
 (ak p0).bind λt9 =>
 (gP p0 i1.1).bind λt13 =>
 cond (!t13)
 ((gQ p0 i1.1).bind λt18 =>
 cond t18 (some (t9,4)) (some (t9,3)))
 ((cut i1.1 3 (i1.1.length:Int)).bind λt23 =>
 (at? t23 0).bind λx25 =>
 cond (x25==1)
 (cond (i1.2.1 != 4)
 (some (t9,1))
 (let t34:=decide ((i1.2.2.2.1.length:Int)>10)
 cond t34
 (some (t9,2))
 (some ((t9.1,i1.2.2.2.1,t9.2.2.1,t9.2.2.2.1,t9.2.2.2.2.1,t9.2.2.2.2.2.1,t9.2.2.2.2.2.2.1,t9.2.2.2.2.2.2.2.1,t9.2.2.2.2.2.2.2.2.1,t9.2.2.2.2.2.2.2.2.2.1,t9.2.2.2.2.2.2.2.2.2.2),0))))
 (cond (i1.2.1 != 2)
 (some (t9,1))
 ((at? t23 0).bind λx52 =>
 cond (x52==2)
 ((at? t23 1).bind λx57 =>
 (at? t23 2).bind λx60 =>
 (jn t9 x57 (vA (x60-1)) i1.2.2.1).bind λt66 =>
 some t66)
 ((at? t23 1).bind λx71 =>
 (at? t23 2).bind λx74 =>
 (gR t9 x71 x74 i1.2.2.1).bind λt79 =>
 some t79))))
def lD:FL:=(290,⟨[.val true vN false,.val true vU false],[.val true vN (some true),.val false vG (some true)],λa=>fG a.1 a.2⟩)::lC
theorem rC:Gd lD:=vH rB 290 Tryz.f290 [] Tryz.func290
def fH (p0:vw) (i1:List vB) (t8:Int) (t9:Int) (b0_2:Int) (b1_2:List UInt8) (b6_2:Int) (b7_2:Int) (b8_2:Int) (b9_2:Int) (b10_2:Int):Option ((Int×Int×List UInt8×Int×Int×Int×Int×Int)⊕((Int×List UInt8×Int×Int×Int×Int×Int)⊕(Int×Int×Int×List UInt8×Int×Int×Int×Int×Int×List Pt×List vD×List vP×List Int))) :=
 cond (decide (t9<t8))
 ((at? i1 t9).bind λx36 =>
 (at? i1 t8).bind λx41 =>
 (dk x36.1 x41.1).bind λt44 =>
 cond t44
 ((ak p0).bind λt46 =>
 some (.inr (.inr (5,vA (t8+1),t46.1,t46.2.1,t46.2.2.2.2.2.2.1,t46.2.2.2.2.2.2.2.1,t46.2.2.2.2.2.2.2.2.1,t46.2.2.2.2.2.2.2.2.2.1,t46.2.2.2.2.2.2.2.2.2.2,t46.2.2.1,t46.2.2.2.1,t46.2.2.2.2.1,t46.2.2.2.2.2.1))))
 (some (.inl (vA (t9+1),b0_2,b1_2,b6_2,b7_2,b8_2,b9_2,b10_2))))
 (some (.inr (.inl (b0_2,b1_2,b6_2,b7_2,b8_2,b9_2,b10_2))))
def gS (p0:vw) (i1:List vB) (t8:Int) (b0:Int) (b1:List UInt8) (b6:Int) (b7:Int) (b8:Int) (b9:Int) (b10:Int) (b0_1:Int) (b1_1:List UInt8) (b6_1:Int) (b7_1:Int) (b8_1:Int) (b9_1:Int) (b10_1:Int) (b2:List Pt) (b3:List vD) (b4:List vP) (b5:List Int) (b2_1:List Pt) (b3_1:List vD) (b4_1:List vP) (b5_1:List Int):Option ((Int×Int×List UInt8×Int×Int×Int×Int×Int×Int×List UInt8×Int×Int×Int×Int×Int×List Pt×List vD×List vP×List Int×List Pt×List vD×List vP×List Int)⊕((Int×List UInt8×Int×Int×Int×Int×Int×Int×List UInt8×Int×Int×Int×Int×Int×List Pt×List vD×List vP×List Int×List Pt×List vD×List vP×List Int)⊕(Int×Int×Int×List UInt8×Int×Int×Int×Int×Int×List Pt×List vD×List vP×List Int))) :=
 cond (decide (t8<(i1.length:Int)))
 ((loop (λz=>fH p0 i1 t8 z.1 z.2.1 z.2.2.1 z.2.2.2.1 z.2.2.2.2.1 z.2.2.2.2.2.1 z.2.2.2.2.2.2.1 z.2.2.2.2.2.2.2) (0,b0,b1,b6,b7,b8,b9,b10)).bind (Sum.elim (λd =>
 (at? i1 t8).bind λx53 =>
 (fG (b0_1,b1_1,b2_1,b3_1,b4_1,b5_1,b6_1,b7_1,b8_1,b9_1,b10_1) x53).bind λt55 =>
 cond (t55.2 != 0)
 ((ak p0).bind λt61 =>
 some (.inr (.inr (t55.2,vA (t8+1),t61.1,t61.2.1,t61.2.2.2.2.2.2.1,t61.2.2.2.2.2.2.2.1,t61.2.2.2.2.2.2.2.2.1,t61.2.2.2.2.2.2.2.2.2.1,t61.2.2.2.2.2.2.2.2.2.2,t61.2.2.1,t61.2.2.2.1,t61.2.2.2.2.1,t61.2.2.2.2.2.1))))
 (some (.inl (vA (t8+1),d.1,d.2.1,d.2.2.1,d.2.2.2.1,d.2.2.2.2.1,d.2.2.2.2.2.1,d.2.2.2.2.2.2,t55.1.1,t55.1.2.1,t55.1.2.2.2.2.2.2.1,t55.1.2.2.2.2.2.2.2.1,t55.1.2.2.2.2.2.2.2.2.1,t55.1.2.2.2.2.2.2.2.2.2.1,t55.1.2.2.2.2.2.2.2.2.2.2,b2,b3,b4,b5,t55.1.2.2.1,t55.1.2.2.2.1,t55.1.2.2.2.2.1,t55.1.2.2.2.2.2.1)))) (λr=>some (.inr (.inr r)))))
 (some (.inr (.inl (b0,b1,b6,b7,b8,b9,b10,b0_1,b1_1,b6_1,b7_1,b8_1,b9_1,b10_1,b2,b3,b4,b5,b2_1,b3_1,b4_1,b5_1))))
def gT (p0:vw) (i1:List vB):Option (vw×Int×Int) :=
 (ak p0).bind λt13 =>
 (aR p0).bind λt15 =>
 (cond (!t15) (some (decide ((i1.length:Int)>0))) (some false)).bind λt21 =>
 cond t21
 (some (t13,3,1))
 ((loop (λz=>gS p0 i1 z.1 z.2.1 z.2.2.1 z.2.2.2.1 z.2.2.2.2.1 z.2.2.2.2.2.1 z.2.2.2.2.2.2.1 z.2.2.2.2.2.2.2.1 z.2.2.2.2.2.2.2.2.1 z.2.2.2.2.2.2.2.2.2.1 z.2.2.2.2.2.2.2.2.2.2.1 z.2.2.2.2.2.2.2.2.2.2.2.1 z.2.2.2.2.2.2.2.2.2.2.2.2.1 z.2.2.2.2.2.2.2.2.2.2.2.2.2.1 z.2.2.2.2.2.2.2.2.2.2.2.2.2.2.1 z.2.2.2.2.2.2.2.2.2.2.2.2.2.2.2.1 z.2.2.2.2.2.2.2.2.2.2.2.2.2.2.2.2.1 z.2.2.2.2.2.2.2.2.2.2.2.2.2.2.2.2.2.1 z.2.2.2.2.2.2.2.2.2.2.2.2.2.2.2.2.2.2.1 z.2.2.2.2.2.2.2.2.2.2.2.2.2.2.2.2.2.2.2.1 z.2.2.2.2.2.2.2.2.2.2.2.2.2.2.2.2.2.2.2.2.1 z.2.2.2.2.2.2.2.2.2.2.2.2.2.2.2.2.2.2.2.2.2.1 z.2.2.2.2.2.2.2.2.2.2.2.2.2.2.2.2.2.2.2.2.2.2) (0,0,[],0,0,0,0,0,t13.1,t13.2.1,t13.2.2.2.2.2.2.1,t13.2.2.2.2.2.2.2.1,t13.2.2.2.2.2.2.2.2.1,t13.2.2.2.2.2.2.2.2.2.1,t13.2.2.2.2.2.2.2.2.2.2,[],[],[],[],t13.2.2.1,t13.2.2.2.1,t13.2.2.2.2.1,t13.2.2.2.2.2.1)).bind (Sum.elim (λd_1 =>
 cond ((i1.length:Int)==0)
 (some ((d_1.2.2.2.2.2.2.2.1,d_1.2.2.2.2.2.2.2.2.1,d_1.2.2.2.2.2.2.2.2.2.2.2.2.2.2.2.2.2.2.1,d_1.2.2.2.2.2.2.2.2.2.2.2.2.2.2.2.2.2.2.2.1,d_1.2.2.2.2.2.2.2.2.2.2.2.2.2.2.2.2.2.2.2.2.1,d_1.2.2.2.2.2.2.2.2.2.2.2.2.2.2.2.2.2.2.2.2.2,d_1.2.2.2.2.2.2.2.2.2.1,d_1.2.2.2.2.2.2.2.2.2.2.1,d_1.2.2.2.2.2.2.2.2.2.2.2.1,d_1.2.2.2.2.2.2.2.2.2.2.2.2.1,d_1.2.2.2.2.2.2.2.2.2.2.2.2.2.1),0,0))
 ((aS d_1.2.2.2.2.2.2.2.2.2.2.2.2.2.2.2.2.2.2.2.2 (d_1.2.2.2.2.2.2.2.2.2.2.2.2.2.2.2.2.2.2.1.length:Int)).bind λt75 =>
 cond (!t75)
 ((ak p0).bind λt78 =>
 some (t78,5,(i1.length:Int)))
 ((bC (d_1.2.2.2.2.2.2.2.1,d_1.2.2.2.2.2.2.2.2.1,d_1.2.2.2.2.2.2.2.2.2.2.2.2.2.2.2.2.2.2.1,d_1.2.2.2.2.2.2.2.2.2.2.2.2.2.2.2.2.2.2.2.1,d_1.2.2.2.2.2.2.2.2.2.2.2.2.2.2.2.2.2.2.2.2.1,d_1.2.2.2.2.2.2.2.2.2.2.2.2.2.2.2.2.2.2.2.2.2,d_1.2.2.2.2.2.2.2.2.2.1,d_1.2.2.2.2.2.2.2.2.2.2.1,d_1.2.2.2.2.2.2.2.2.2.2.2.1,d_1.2.2.2.2.2.2.2.2.2.2.2.2.1,d_1.2.2.2.2.2.2.2.2.2.2.2.2.2.1)).bind λt82 =>
 some (t82,0,0)))) (λr_1=>some ((r_1.2.2.1,r_1.2.2.2.1,r_1.2.2.2.2.2.2.2.2.2.1,r_1.2.2.2.2.2.2.2.2.2.2.1,r_1.2.2.2.2.2.2.2.2.2.2.2.1,r_1.2.2.2.2.2.2.2.2.2.2.2.2,r_1.2.2.2.2.1,r_1.2.2.2.2.2.1,r_1.2.2.2.2.2.2.1,r_1.2.2.2.2.2.2.2.1,r_1.2.2.2.2.2.2.2.2.1),r_1.1,r_1.2.1))))
def lE:FL:=(177,⟨[.val true vN false,.val false (.one (.sl vU)) false],[.val true vN (some true),.val false vG (some true),.val false vG (some true)],λa=>gT a.1 a.2⟩)::lD
theorem rD:Gd lE:=vH rC 177 Tryz.f177 [(0,⟨⟨[(8,false,[dI])],[(2048,.box [dI,dS,.own 1000000000,.own 1000000001,.own 1000000002,.own 1000000003,dI,dI,dI,dI,dI]),(265216,.box [dI,dS,.own 1000000004,.own 1000000005,.own 1000000006,.own 1000000007,dI,dI,dI,dI,dI]),(1000000000,.root xS true),(1000000001,.root vX true),(1000000002,.root wL true),(1000000003,.root vG true),(1000000004,.root xS true),(1000000005,.root vX true),(1000000006,.root wL true),(1000000007,.root vG true)]⟩,
 ⟨[],[(2048,.box [dI,dS,.own 1000000300,.own 1000000301,.own 1000000302,.own 1000000303,dI,dI,dI,dI,dI]),(265216,.box [dI,dS,.own 1000000304,.own 1000000305,.own 1000000306,.own 1000000307,dI,dI,dI,dI,dI]),(1000000300,.root xS true),(1000000301,.root vX true),(1000000302,.root wL true),(1000000303,.root vG true),(1000000304,.root xS true),(1000000305,.root vX true),(1000000306,.root wL true),(1000000307,.root vG true)]⟩,some ⟨[(5,false,[dI]),(6,false,[dI])],[(2048,.box [dI,dS,.own 1000000600,.own 1000000601,.own 1000000602,.own 1000000603,dI,dI,dI,dI,dI]),(1000000600,.root xS true),(1000000601,.root vX true),(1000000602,.root wL true),(1000000603,.root vG true)]⟩⟩),
 (2,⟨⟨[(9,false,[dI])],[(2048,.box [dI,dS,.same 1000000000,.same 1000000001,.same 1000000002,.same 1000000003,dI,dI,dI,dI,dI])]⟩,
 ⟨[],[(2048,.box [dI,dS,.same 1000000000,.same 1000000001,.same 1000000002,.same 1000000003,dI,dI,dI,dI,dI])]⟩,some ⟨[(5,false,[dI]),(6,false,[dI])],[(2048,.box [dI,dS,.own 1000002600,.own 1000002601,.own 1000002602,.own 1000002603,dI,dI,dI,dI,dI]),(1000002600,.root xS true),(1000002601,.root vX true),(1000002602,.root wL true),(1000002603,.root vG true)]⟩⟩)] Tryz.func177
def fJ (b0:vw) (p1:wd):Option (vw×wd) :=
 (cO p1.2.2.2.2).bind λt14 =>
 (gT b0 p1.2.2.2.2).bind λt20 =>
 (ez (162,p1.2.1,t20.2.1,t20.2.2,t14)).bind λt29 =>
 (cond (!t29) (some true) (some (t20.2.1 != 0))).bind λt34 =>
 cond t34
 ((ak b0).bind λt36 =>
 (dj (162,p1.2.1,t20.2.1,t20.2.2,t14) false).bind λt38 =>
 some (t36,t38))
 (some (t20.1,(162,p1.2.1,t20.2.1,t20.2.2,t14)))
def lF:FL:=(84,⟨[.val true vN false,.val true xU false],[.val true vN (some true),.val true xU (some true)],λa=>fJ a.1 a.2⟩)::lE
theorem rE:Gd lF:=vH rD 84 Tryz.f84 [] Tryz.func84
def rF (a0:List Int) (b1:List Int) (i5:Int):Option (Int⊕(Unit⊕Bool)) :=
 (cond (decide (i5<(a0.length:Int))) (some (decide (i5<(b1.length:Int)))) (some false)).bind λt15 =>
 cond t15
 ((at? a0 i5).bind λx20 =>
 (at? b1 i5).bind λx24 =>
 cond (x20 != x24)
 ((at? a0 i5).bind λx29 =>
 (at? b1 i5).bind λx33 =>
 some (.inr (.inr (decide (x29<x33)))))
 (some (.inl (vA (i5+1)))))
 (some (.inr (.inl ())))
def jp (a0:List Int) (b1:List Int):Option Bool :=
 (loop (λz=>rF a0 b1 z) 0).bind (Sum.elim (λd =>
 let t4:=decide ((a0.length:Int)<(b1.length:Int))
 some t4) (λr=>some r))
def lG:FL:=(343,⟨[.val false yl false,.val false yl false],[.val false wD (some true)],λa=>jp a.1 a.2⟩)::lF
theorem rG:Gd lG:=vH rE 343 Tryz.f343 [(0,⟨⟨(5,false,[dI])::us 11 4 [],[]⟩,
 ⟨[],[]⟩,some ⟨[(4,false,[dB])],[]⟩⟩)] Tryz.func343
def jq (o1:List Int) (t8:List vB) (i6:Int) (b1:Int) (b2:Int) (b3:List UInt8) (b0_1:List Int) (b4:List Int):Option ((Int×Int×Int×List UInt8×List Int×List Int)⊕((Int×Int×List UInt8×List Int×List Int)⊕(List Int×Int×Int×List UInt8×List Int))) :=
 cond (decide (i6<(t8.length:Int)))
 ((ix t8.length i6).bind λj18 =>
 (t8[j18]?).bind λx20 =>
 (jp o1 x20.1).bind λt21 =>
 cond t21
 ((ix t8.length i6).bind λj24 =>
 (t8[j24]?).bind λx25 =>
 some (.inr (.inr x25)))
 (some (.inl (vA (i6+1),b1,b2,b3,b0_1,b4))))
 (some (.inr (.inl (b1,b2,b3,b0_1,b4))))
def gU (b0:vw) (o1:List Int):Option vB :=
 (cY b0).bind λt8 =>
 (loop (λz=>jq o1 t8 z.1 z.2.1 z.2.2.1 z.2.2.2.1 z.2.2.2.2.1 z.2.2.2.2.2) (0,0,0,[],[],[])).bind (Sum.elim (λd =>
 (vS ([]:List Int) o1).bind λzs28 =>
 some (zs28,130,0,[],[])) (λr=>some r))
def lH:FL:=(292,⟨[.val true vN false,.val false yl false],[.val true vU none],λa=>gU a.1 a.2⟩)::lG
theorem rH:Gd lH:=vH rG 292 Tryz.f292 [(0,⟨⟨[(6,false,[dI])],[(2048,.box [.own 1000000000,dI,dI,dS,.own 1000000001]),(1000000000,.root vG true),(1000000001,.root vG true)]⟩,
 ⟨[],[(2048,.box [.own 1000000300,dI,dI,dS,.own 1000000301]),(1000000300,.root vG true),(1000000301,.root vG true)]⟩,some ⟨[],[(2048,.box [.dat (.sl vG),dI,dI,dS,.dat (.sl vG)])]⟩⟩)] Tryz.func292
def fK (b0:vw) (from1:List vB) (i6:Int) (out5:List vB):Option ((Int×List vB)⊕(List vB)) :=
 cond (decide (i6<(from1.length:Int)))
 ((at? from1 i6).bind λx16 =>
 cond (x16.2.1==130)
 ((at? from1 i6).bind λx24 =>
 (vS out5 [x24]).bind λzs27 =>
 some (.inl (vA (i6+1),zs27)))
 ((at? from1 i6).bind λx32 =>
 (gU b0 x32.1).bind λt35 =>
 (vS out5 [t35]).bind λzs37 =>
 some (.inl (vA (i6+1),zs37))))
 (some (.inr out5))
def bD (b0:vw) (from1:List vB):Option (List vB) :=
 (loop (λz=>fK b0 from1 z.1 z.2) (0,([]:List vB))).bind λd =>
 some d
def lI:FL:=(178,⟨[.val true vN false,.val false (.one (.sl vU)) false],[.val false (.one (.sl vU)) (some false)],λa=>bD a.1 a.2⟩)::lH
theorem rI:Gd lI:=vH rH 178 Tryz.f178 [(0,⟨⟨[(5,false,[.own 1000000000]),(6,false,[dI])],[(1000000000,.root vU false)]⟩,
 ⟨[(5,false,[.own 1000000300])],[(1000000300,.root vU false)]⟩,none⟩)] Tryz.func178
def fL (l0:List vB) (i4:Int) (out3:List vB):Option ((Int×List vB)⊕(List vB)) :=
 cond (decide (i4<(l0.length:Int)))
 ((at? l0 i4).bind λx15 =>
 (vS out3 ([(x15.1,5,0,[],[])])).bind λzs21 =>
 some (.inl (vA (i4+1),zs21)))
 (some (.inr out3))
def dl (l0:List vB):Option (List vB) :=
 (loop (λz=>fL l0 z.1 z.2) (0,([]:List vB))).bind λd =>
 some d
def lJ:FL:=(179,⟨[.val false (.one (.sl vU)) false],[.val false (.one (.sl vU)) (some false)],λa=>dl a⟩)::lI
theorem rJ:Gd lJ:=vH rI 179 Tryz.f179 [(0,⟨⟨[(3,false,[.own 1000000000]),(4,false,[dI])],[(1000000000,.root vU false)]⟩,
 ⟨[(3,false,[.own 1000000300])],[(1000000300,.root vU false)]⟩,none⟩)] Tryz.func179
def bT (b0:vw) (p1:wd) (told8:List vB) (i9:Int) (out7:List vB):Option ((List vB×Int×List vB)⊕(List vB)) :=
 (cond (decide (i9<p1.2.2.2.1)) (some (decide ((told8.length:Int)>0))) (some false)).bind λt39 =>
 (cond t39 (some (decide ((out7.length:Int)<10))) (some false)).bind λt44 =>
 cond t44
 ((bD b0 told8).bind λt49 =>
 (vS out7 t49).bind λzs52 =>
 some (.inl (t49,vA (i9+1),zs52)))
 (some (.inr out7))
def rK (b0:vw) (p1:wd) (told8_1:List vB) (i9_1:Int) (out7_2:List vB):Option ((List vB×Int×List vB)⊕(List vB)) :=
 (cond (decide (i9_1<p1.2.2.2.1)) (some (decide ((told8_1.length:Int)>0))) (some false)).bind λt39_1 =>
 (cond t39_1 (some (decide ((out7_2.length:Int)<10))) (some false)).bind λt44_1 =>
 cond t44_1
 ((bD b0 told8_1).bind λt49_1 =>
 (vS out7_2 t49_1).bind λzs52_1 =>
 some (.inl (t49_1,vA (i9_1+1),zs52_1)))
 (some (.inr out7_2))
def gV (b0:vw) (p1:wd):Option (List vB) :=
 cond (decide (p1.2.2.1>(p1.2.2.2.2.length:Int)))
 (let k5:=(p1.2.2.2.2.length:Int)
 (dl p1.2.2.2.2).bind λt22 =>
 (xR t22.length 0 k5).bind λp =>
 (bD b0 ((t22.take p.2).drop p.1)).bind λt27 =>
 (cut t22 k5 (t22.length:Int)).bind λt30 =>
 (loop (λz=>bT b0 p1 z.1 z.2.1 z.2.2) (t30,0,t27)).bind λd =>
 cond (decide ((d.length:Int)>10))
 ((xR d.length 0 10).bind λp_1 =>
 some ((d.take p_1.2).drop p_1.1))
 (some d))
 ((dl p1.2.2.2.2).bind λt22_1 =>
 (xR t22_1.length 0 p1.2.2.1).bind λp_2 =>
 (bD b0 ((t22_1.take p_2.2).drop p_2.1)).bind λt27_1 =>
 (cut t22_1 p1.2.2.1 (t22_1.length:Int)).bind λt30_1 =>
 (loop (λz=>rK b0 p1 z.1 z.2.1 z.2.2) (t30_1,0,t27_1)).bind λd_1 =>
 cond (decide ((d_1.length:Int)>10))
 ((xR d_1.length 0 10).bind λp_3 =>
 some ((d_1.take p_3.2).drop p_3.1))
 (some d_1))
def lK:FL:=(180,⟨[.val true vN false,.val true xU false],[.val false (.one (.sl vU)) (some false)],λa=>gV a.1 a.2⟩)::lJ
theorem rL:Gd lK:=vH rJ 180 Tryz.f180 [(0,⟨⟨(7,false,[.own 1000000000])::(8,false,[.dat (.sl vU)])::(9,false,[dI])::us 36 3 (us 41 3 []),[(1000000000,.root vU false)]⟩,
 ⟨[(7,false,[.own 1000000300])],[(1000000300,.root vU false)]⟩,none⟩)] Tryz.func180
def jr (o1:List Int) (t8:List vB) (i6:Int) (b0_1:Int) (b1:Int) (b2:List UInt8) (b3:List Int):Option ((Int×Int×Int×List UInt8×List Int)⊕((Int×Int×List UInt8×List Int)⊕(Int×Int×List UInt8×List Int))) :=
 cond (decide (i6<(t8.length:Int)))
 ((ix t8.length i6).bind λj17 =>
 (t8[j17]?).bind λx19 =>
 (dk x19.1 o1).bind λt21 =>
 cond t21
 ((ix t8.length i6).bind λj24 =>
 (t8[j24]?).bind λx26 =>
 some (.inr (.inr x26.2)))
 (some (.inl (vA (i6+1),b0_1,b1,b2,b3))))
 (some (.inr (.inl (b0_1,b1,b2,b3))))
def gW (b0:vw) (o1:List Int):Option zj :=
 (cY b0).bind λt8 =>
 (loop (λz=>jr o1 t8 z.1 z.2.1 z.2.2.1 z.2.2.2.1 z.2.2.2.2) (0,0,0,[],[])).bind (Sum.elim (λd =>
 some (128,0,[],[])) (λr=>some r))
def lL:FL:=(181,⟨[.val true vN false,.val false yl false],[.val true Aw none],λa=>gW a.1 a.2⟩)::lK
theorem rM:Gd lL:=vH rL 181 Tryz.f181 [(0,⟨⟨[(6,false,[dI])],[(2048,.box [dI,dI,dS,.own 1000000000]),(1000000000,.root vG true)]⟩,
 ⟨[],[(2048,.box [dI,dI,dS,.own 1000000300]),(1000000300,.root vG true)]⟩,some ⟨[],[(2048,.box [dI,dI,dS,.dat (.sl vG)])]⟩⟩)] Tryz.func181
def eA (b0:vw) (p1:wd) (i6:Int) (out5:List vB):Option ((Int×List vB)⊕(List vB)) :=
 cond (decide (i6<(p1.2.2.2.2.length:Int)))
 ((at? p1.2.2.2.2 i6).bind λx34 =>
 (vS ([]:List Int) x34.1).bind λzs37 =>
 (at? p1.2.2.2.2 i6).bind λx42 =>
 (gW b0 x42.1).bind λt45 =>
 (vS out5 [(zs37,t45.1,t45.2.1,t45.2.2.1,t45.2.2.2)]).bind λzs48 =>
 some (.inl (vA (i6+1),zs48)))
 (some (.inr out5))
def gX (b0:vw) (p1:wd):Option (List vB) :=
 cond (p1.1==161)
 ((dl p1.2.2.2.2).bind λt14 =>
 (bD b0 t14).bind λt15 =>
 some t15)
 (cond (p1.1==165)
 ((gV b0 p1).bind λt20 =>
 some t20)
 ((loop (λz=>eA b0 p1 z.1 z.2) (0,([]:List vB))).bind λd =>
 some d))
def lM:FL:=(86,⟨[.val true vN false,.val true xU false],[.val false (.one (.sl vU)) (some false)],λa=>gX a.1 a.2⟩)::lL
theorem rN:Gd lM:=vH rM 86 Tryz.f86 [(1,⟨⟨[(5,false,[.own 1000001000]),(6,false,[dI])],[(1000001000,.root vU false)]⟩,
 ⟨[(5,false,[.own 1000001300])],[(1000001300,.root vU false)]⟩,none⟩)] Tryz.func86
def gY (b0:vw) (p1:wd):Option (vw×wd×Bool) :=
 (jk b0 p1).bind λt12 =>
 cond (!t12)
 ((ak b0).bind λt15 =>
 some (t15,(0,0,0,0,[]),false))
 (cond (p1.1==163)
 ((fJ b0 p1).bind λt23 =>
 some (t23.1,t23.2,true))
 ((gX b0 p1).bind λt32 =>
 (cO t32).bind λt33 =>
 (ak b0).bind λt36 =>
 (dj (162,p1.2.1,0,0,t33) (p1.1==165)).bind λt41 =>
 some (t36,t41,true)))
def lN:FL:=(14,⟨[.val true vN false,.val true xU false],[.val true vN (some true),.val true xU (some true),.val false wD (some true)],λa=>gY a.1 a.2⟩)::lM
theorem rO:Gd lN:=vH rN 14 Tryz.f14 [] Tryz.func14
def dq (p0:List Int) (i1:Int):Option (Int×(List Int)×Int×Bool) :=
 (cond (decide (i1<0)) (some true) (some (decide (i1>=(p0.length:Int))))).bind λt17 =>
 (cond t17 (some true) (some (decide ((vA (i1+1))>=(p0.length:Int))))).bind λt24 =>
 cond t24
 (some (0,([]:List Int),0,false))
 ((at? p0 (vA (i1+1))).bind λx29 =>
 cond (decide ((vA (x29))>127))
 ((cond ((vA (x29)) != 129) (some true) (some (decide ((vA (i1+2))>=(p0.length:Int))))).bind λt43 =>
 (cond t43
 (some true)
 ((at? p0 (vA (i1+2))).bind λx47 =>
 some (decide (x47<128)))).bind λt50 =>
 cond t50
 (some (0,([]:List Int),0,false))
 ((at? p0 (vA (i1+2))).bind λx54 =>
 (cond (decide ((vA (x54))>250))
 (some true)
 (some (decide ((vA (x54))>(vA ((p0.length:Int)-(vA ((vA (i1+2))+1)))))))).bind λt68 =>
 cond t68
 (some (0,([]:List Int),0,false))
 ((at? p0 i1).bind λx72 =>
 (cut p0 (vA ((vA (i1+2))+1)) (vA ((vA ((vA (i1+2))+1))+(vA (x54))))).bind λt81 =>
 (vS ([]:List Int) t81).bind λzs82 =>
 let t6:=vA ((vA ((vA (i1+2))+1))+(vA (x54)))
 some (vA (x72),zs82,t6,true))))
 ((cond (decide ((vA (x29))>250))
 (some true)
 (some (decide ((vA (x29))>(vA ((p0.length:Int)-(vA (i1+2)))))))).bind λt68_1 =>
 cond t68_1
 (some (0,([]:List Int),0,false))
 ((at? p0 i1).bind λx72_1 =>
 (cut p0 (vA (i1+2)) (vA ((vA (i1+2))+(vA (x29))))).bind λt81_1 =>
 (vS ([]:List Int) t81_1).bind λzs82_1 =>
 let t6_1:=vA ((vA (i1+2))+(vA (x29)))
 some (vA (x72_1),zs82_1,t6_1,true))))
def lO:FL:=(237,⟨[.val false xu false,.val false vG false],[.val false vG (some true),.val false xu (some true),.val false vG (some true),.val false wD (some true)],λa=>dq a.1 a.2⟩)::lN
theorem rP:Gd lO:=vH rO 237 Tryz.f237 [] Tryz.func237
def bU (r0:Cl) (tag1:Int):Option (Cl×List Int) :=
 (dq r0.1 r0.2.1).bind λt18 =>
 (cond r0.2.2 (some true) (some (!t18.2.2.2))).bind λt30 =>
 (cond t30 (some true) (some (t18.1 != tag1))).bind λt35 =>
 cond t35
 (some ((r0.1,r0.2.1,true),([]:List Int)))
 (some ((r0.1,t18.2.2.1,r0.2.2),t18.2.1))
def lP:FL:=(239,⟨[.ptr Ck none,.val false vG false],[.val false xu (some true)],λa=>bU a.1 a.2⟩)::lO
theorem rQ:Gd lP:=vH rP 239 Tryz.f239 [] Tryz.func239
def eB (b0:List Int) (n4:Int) (i5:Int):Option ((Int×Int)⊕Int) :=
 cond (decide (i5<(b0.length:Int)))
 ((at? b0 i5).bind λx28 =>
 let n4_1:=CP .i64 (vA (n4*2^8)) (vA (x28))
 some (.inl (n4_1,vA (i5+1))))
 (some (.inr n4))
def eC (b0:List Int) (n4_3:Int) (i5_1:Int):Option ((Int×Int)⊕Int) :=
 cond (decide (i5_1<(b0.length:Int)))
 ((at? b0 i5_1).bind λx28_1 =>
 let n4_4:=CP .i64 (vA (n4_3*2^8)) (vA (x28_1))
 some (.inl (n4_4,vA (i5_1+1))))
 (some (.inr n4_3))
def fM (b0:List Int):Option (Int×Bool) :=
 (ae (b0.length:Int) 1 4).bind λt8 =>
 cond (!t8)
 (some (0,false))
 ((at? b0 0).bind λx11 =>
 cond (decide ((vA (x11))>127))
 ((loop (λz=>eB b0 z.1 z.2) (vA ((vA (x11))-256),1)).bind λd =>
 (bp d).bind λt33 =>
 cond ((t33.length:Int) != (b0.length:Int)) (some (0,false)) (some (d,true)))
 ((loop (λz=>eC b0 z.1 z.2) (vA (x11),1)).bind λd_1 =>
 (bp d_1).bind λt33_1 =>
 cond ((t33_1.length:Int) != (b0.length:Int)) (some (0,false)) (some (d_1,true))))
def lQ:FL:=(320,⟨[.val false xu false],[.val false vG (some true),.val false wD (some true)],λa=>fM a⟩)::lP
theorem rR:Gd lQ:=vH rQ 320 Tryz.f320 [(0,⟨⟨[(4,false,[dI]),(5,false,[dI])],[]⟩,
 ⟨[(4,false,[dI])],[]⟩,none⟩)] Tryz.func320
def dt (r0:Cl):Option (Cl×Int) :=
 (bU r0 2).bind λt7 =>
 (fM t7.2).bind λt8 =>
 (cond t7.1.2.2 (some true) (some (!t8.2))).bind λt19 =>
 some ((t7.1.1,t7.1.2.1,t19),t8.1)
def lR:FL:=(238,⟨[.ptr Ck none],[.val false vG (some true)],λa=>dt a⟩)::lQ
theorem rS:Gd lR:=vH rR 238 Tryz.f238 [] Tryz.func238
def aN (p0:List Int) (t5_1:Int) (t6:Int) (t7:Int) (t8:Bool):Option ((Int×Int×Int×Bool)⊕(Int×Int×Int×Bool)) :=
 (cond t8 (some (decide (t5_1<(p0.length:Int)))) (some false)).bind λt25 =>
 (cond t25 (some (decide (t7<4))) (some false)).bind λt29 =>
 cond t29
 ((at? p0 t5_1).bind λx34 =>
 let t6_1:=CP .i64 (vA (t6*2^7)) (vA (xM .u8 x34 127))
 (at? p0 t5_1).bind λx41 =>
 some (.inl (vA (t5_1+1),t6_1,vA (t7+1),decide (x41>127))))
 (some (.inr (t5_1,t6,t7,t8)))
def au (p0:List Int) (t5:Int) (t4:List Int):Option ((Int×List Int)⊕((Int×List Int)⊕(Bool×List Int))) :=
 (cond (decide (t5<(p0.length:Int))) (some (decide ((t4.length:Int)<=10))) (some false)).bind λt18 =>
 cond t18
 ((loop (λz=>aN p0 z.1 z.2.1 z.2.2.1 z.2.2.2) (t5,0,0,true)).bind λd =>
 (cond d.2.2.2
 (some true)
 ((ev d.2.1).bind λt51 =>
 some ((t51.length:Int) != d.2.2.1))).bind λt55 =>
 cond t55
 (some (.inr (.inr (false,([]:List Int)))))
 ((vS t4 [d.2.1]).bind λzs60 =>
 some (.inl (d.1,zs60))))
 (some (.inr (.inl (t5,t4))))
def cw (p0:List Int):Option ((List Int)×Bool) :=
 (loop (λz=>au p0 z.1 z.2) (0,([]:List Int))).bind (Sum.elim (λd_1 =>
 (cond (d_1.1 != (p0.length:Int))
 (some true)
 ((bO d_1.2).bind λt67 =>
 some (!t67))).bind λt69 =>
 cond t69 (some (([]:List Int),false)) (some (d_1.2,true))) (λr=>some (r.2,r.1)))
def lS:FL:=(353,⟨[.val false xu false],[.val false yl (some true),.val false wD (some true)],λa=>cw a⟩)::lR
theorem rT:Gd lS:=vH rS 353 Tryz.f353 [(0,⟨⟨(4,false,[.own 1000000000])::(5,false,[dI])::us 15 3 (us 21 4 (us 27 2 (us 50 5 []))),[(1000000000,.root vG true)]⟩,
 ⟨[(4,false,[.own 1000000300]),(5,false,[dI])],[(1000000300,.root vG true)]⟩,some ⟨[(2,false,[.own 1000000600]),(3,false,[dB])],[(1000000600,.root vG true)]⟩⟩),
 (2,⟨⟨(5,false,[dI])::(6,false,[dI])::(7,false,[dI])::(8,false,[dB])::us 21 4 (us 27 2 []),[]⟩,
 ⟨(5,false,[dI])::(6,false,[dI])::(7,false,[dI])::(8,false,[dB])::us 21 4 (us 27 2 []),[]⟩,none⟩)] Tryz.func353
def gZ (b0:List Int) (at1:Int):Option (zj×Int×Bool) :=
 (dq b0 at1).bind λt16 =>
 cond (t16.1==2)
 ((fM t16.2.1).bind λt31 =>
 (cond (!t16.2.2.2) (some true) (some (!t31.2))).bind λt53 =>
 (cond t53
 (some true)
 ((bB (t16.1,t31.1,[],[])).bind λt56 =>
 some (!t56))).bind λt58 =>
 cond t58
 (some ((0,0,[],[]),0,false))
 (some ((t16.1,t31.1,[],[]),t16.2.2.1,true)))
 (cond (t16.1==4)
 ((cond (!t16.2.2.2) (some true) (some (!true))).bind λt53_1 =>
 (cond t53_1
 (some true)
 ((bB (t16.1,0,xc t16.2.1,[])).bind λt56_1 =>
 some (!t56_1))).bind λt58_1 =>
 cond t58_1
 (some ((0,0,[],[]),0,false))
 (some ((t16.1,0,xc t16.2.1,[]),t16.2.2.1,true)))
 (cond (t16.1==6)
 ((cw t16.2.1).bind λt44 =>
 (cond (!t16.2.2.2) (some true) (some (!t44.2))).bind λt53_2 =>
 (cond t53_2
 (some true)
 ((bB (t16.1,0,[],t44.1)).bind λt56_2 =>
 some (!t56_2))).bind λt58_2 =>
 cond t58_2
 (some ((0,0,[],[]),0,false))
 (some ((t16.1,0,[],t44.1),t16.2.2.1,true)))
 (let is12:=(t16.2.1.length:Int)==0
 (cond (!t16.2.2.2) (some true) (some (!is12))).bind λt53_3 =>
 (cond t53_3
 (some true)
 ((bB (t16.1,0,[],[])).bind λt56_3 =>
 some (!t56_3))).bind λt58_3 =>
 cond t58_3
 (some ((0,0,[],[]),0,false))
 (some ((t16.1,0,[],[]),t16.2.2.1,true)))))
def lT:FL:=(354,⟨[.val false xu false,.val false vG false],[.val true Aw (some true),.val false vG (some true),.val false wD (some true)],λa=>gZ a.1 a.2⟩)::lS
theorem rU:Gd lT:=vH rT 354 Tryz.f354 [] Tryz.func354
def hC (b0:List Int):Option (vB×Bool) :=
 (bU (b0,0,false) 6).bind λt15 =>
 (cw t15.2).bind λt16 =>
 (gZ b0 t15.1.2.1).bind λt25 =>
 (cond t15.1.2.2 (some true) (some (!t16.2))).bind λt36 =>
 (cond t36 (some true) (some (!t25.2.2))).bind λt40 =>
 (cond t40 (some true) (some (t25.2.1 != (b0.length:Int)))).bind λt46 =>
 cond t46
 (some (([],0,0,[],[]),false))
 (some ((t16.1,t25.1.1,t25.1.2.1,t25.1.2.2.1,t25.1.2.2.2),true))
def lU:FL:=(321,⟨[.val false xu false],[.val true vU (some true),.val false wD (some true)],λa=>hC a⟩)::lT
theorem rV:Gd lU:=vH rU 321 Tryz.f321 [] Tryz.func321
def av (b0:List Int) (b1:Int) (b2:Bool) (b0_1:Int) (b1_1:Int) (b2_1:Int) (b3:Int) (b0_2:List Int) (b1_2:Int) (b2_2:Bool) (b4:List vB):Option ((List Int×Int×Bool×Int×Int×Int×Int×List Int×Int×Bool×List vB)⊕(List Int×Int×Bool×Int×Int×Int×Int×List Int×Int×Bool×List vB)) :=
 (cond (!b2) (some (decide (b1_2<(b0_2.length:Int)))) (some false)).bind λt54 =>
 (cond t54 (some (decide ((b4.length:Int)<=10))) (some false)).bind λt60 =>
 cond t60
 ((bU (b0_2,b1_2,b2_2) 48).bind λt63 =>
 (hC t63.2).bind λt64 =>
 (cond t63.1.2.2 (some true) (some (!t64.2))).bind λt75 =>
 (vS b4 [t64.1]).bind λzs82 =>
 some (.inl (b0,b1,t75,b0_1,b1_1,b2_1,b3,t63.1.1,t63.1.2.1,t63.1.2.2,zs82)))
 (some (.inr (b0,b1,b2,b0_1,b1_1,b2_1,b3,b0_2,b1_2,b2_2,b4)))
def hN (p0:List Int):Option (wd×Bool) :=
 (dq p0 0).bind λt15 =>
 (dt (t15.2.1,0,false)).bind λt26 =>
 (dt t26.1).bind λt29 =>
 (dt t29.1).bind λt32 =>
 (bU t32.1 48).bind λt35 =>
 (loop (λz=>av z.1 z.2.1 z.2.2.1 z.2.2.2.1 z.2.2.2.2.1 z.2.2.2.2.2.1 z.2.2.2.2.2.2.1 z.2.2.2.2.2.2.2.1 z.2.2.2.2.2.2.2.2.1 z.2.2.2.2.2.2.2.2.2.1 z.2.2.2.2.2.2.2.2.2.2) (t35.1.1,t35.1.2.1,t35.1.2.2,t15.1,t26.2,t29.2,t32.2,t35.2,0,false,[])).bind λd =>
 (cond (!t15.2.2.2) (some true) (some (t15.2.2.1 != (p0.length:Int)))).bind λt91 =>
 (cond t91 (some true) (some d.2.2.1)).bind λt97 =>
 (cond t97 (some true) (some (d.2.1 != (t15.2.1.length:Int)))).bind λt106 =>
 (cond t106
 (some true)
 (some (d.2.2.2.2.2.2.2.2.1 != (d.2.2.2.2.2.2.2.1.length:Int)))).bind λt118 =>
 (cond t118
 (some true)
 ((bP (d.2.2.2.1,d.2.2.2.2.1,d.2.2.2.2.2.1,d.2.2.2.2.2.2.1,d.2.2.2.2.2.2.2.2.2.2)).bind λt121 =>
 some (!t121))).bind λt123 =>
 cond t123
 (some ((0,0,0,0,[]),false))
 (some ((d.2.2.2.1,d.2.2.2.2.1,d.2.2.2.2.2.1,d.2.2.2.2.2.2.1,d.2.2.2.2.2.2.2.2.2.2),true))
def lV:FL:=(240,⟨[.val false xu false],[.val true xU (some true),.val false wD (some true)],λa=>hN a⟩)::lU
theorem rW:Gd lV:=vH rV 240 Tryz.f240 [(0,⟨⟨us 44 10 (us 56 4 (us 73 2 [])),[(527360,.box [.dat (.sl (.one (.int .u8))),dI,dB]),(789504,.box [dI,dI,dI,dI,.own 1000000000]),(1839104,.box [.dat (.sl (.one (.int .u8))),dI,dB]),(1000000000,.root vU true)]⟩,
 ⟨[],[(527360,.box [.dat (.sl (.one (.int .u8))),dI,dB]),(789504,.box [dI,dI,dI,dI,.own 1000000300]),(1839104,.box [.dat (.sl (.one (.int .u8))),dI,dB]),(1000000300,.root vU true)]⟩,none⟩)] Tryz.func240
def fN (p0:List UInt8) (i1:List Int):Option (wd×Int) :=
 (dq i1 0).bind λt17 =>
 (dt (t17.2.1,0,false)).bind λt26 =>
 (bU t26.1 4).bind λt28 =>
 (cond (!t17.2.2.2) (some true) (some (t17.1 != 48))).bind λt34 =>
 (cond t34 (some true) (some (t17.2.2.1 != (i1.length:Int)))).bind λt40 =>
 (cond t40 (some true) (some t28.1.2.2)).bind λt46 =>
 cond t46
 (some ((0,0,0,0,[]),1))
 (cond (t26.2 != 1)
 (some ((0,0,0,0,[]),2))
 (cond (!((xc t28.2)==p0))
 (some ((0,0,0,0,[]),3))
 ((cut t17.2.1 t28.1.2.1 (t17.2.1.length:Int)).bind λt62 =>
 (hN t62).bind λt63 =>
 cond (!t63.2) (some ((0,0,0,0,[]),1)) (some (t63.1,0)))))
def lW:FL:=(136,⟨[.val false KN false,.val false xu false],[.val true xU (some true),.val false vG (some true)],λa=>fN a.1 a.2⟩)::lV
theorem rX:Gd lW:=vH rW 136 Tryz.f136 [] Tryz.func136
def fO (a0:vO) (k1:Int):Option vO :=
 (ix a0.2.2.2.2.2.2.2.2.2.2.2.2.1.length k1).bind λj9 =>
 (a0.2.2.2.2.2.2.2.2.2.2.2.2.1[j9]?).bind λx =>
 (ak (a0.1,a0.2.1,a0.2.2.1,a0.2.2.2.1,a0.2.2.2.2.1,a0.2.2.2.2.2.1,a0.2.2.2.2.2.2.1,a0.2.2.2.2.2.2.2.1,a0.2.2.2.2.2.2.2.2.1,a0.2.2.2.2.2.2.2.2.2.1,a0.2.2.2.2.2.2.2.2.2.2.1)).bind λt20 =>
 (ix (a0.2.2.2.2.2.2.2.2.2.2.2.2.1.set j9 (x.1,x.2.1,1,x.2.2.2.1,x.2.2.2.2.1,x.2.2.2.2.2.1,x.2.2.2.2.2.2.1,x.2.2.2.2.2.2.2.1,x.2.2.2.2.2.2.2.2.1,x.2.2.2.2.2.2.2.2.2.1,x.2.2.2.2.2.2.2.2.2.2.1,x.2.2.2.2.2.2.2.2.2.2.2.1,x.2.2.2.2.2.2.2.2.2.2.2.2.1,x.2.2.2.2.2.2.2.2.2.2.2.2.2.1,x.2.2.2.2.2.2.2.2.2.2.2.2.2.2.1,x.2.2.2.2.2.2.2.2.2.2.2.2.2.2.2.1,x.2.2.2.2.2.2.2.2.2.2.2.2.2.2.2.2.1,x.2.2.2.2.2.2.2.2.2.2.2.2.2.2.2.2.2.1,x.2.2.2.2.2.2.2.2.2.2.2.2.2.2.2.2.2.2.1,x.2.2.2.2.2.2.2.2.2.2.2.2.2.2.2.2.2.2.2.1,x.2.2.2.2.2.2.2.2.2.2.2.2.2.2.2.2.2.2.2.2)).length k1).bind λj21 =>
 ((a0.2.2.2.2.2.2.2.2.2.2.2.2.1.set j9 (x.1,x.2.1,1,x.2.2.2.1,x.2.2.2.2.1,x.2.2.2.2.2.1,x.2.2.2.2.2.2.1,x.2.2.2.2.2.2.2.1,x.2.2.2.2.2.2.2.2.1,x.2.2.2.2.2.2.2.2.2.1,x.2.2.2.2.2.2.2.2.2.2.1,x.2.2.2.2.2.2.2.2.2.2.2.1,x.2.2.2.2.2.2.2.2.2.2.2.2.1,x.2.2.2.2.2.2.2.2.2.2.2.2.2.1,x.2.2.2.2.2.2.2.2.2.2.2.2.2.2.1,x.2.2.2.2.2.2.2.2.2.2.2.2.2.2.2.1,x.2.2.2.2.2.2.2.2.2.2.2.2.2.2.2.2.1,x.2.2.2.2.2.2.2.2.2.2.2.2.2.2.2.2.2.1,x.2.2.2.2.2.2.2.2.2.2.2.2.2.2.2.2.2.2.1,x.2.2.2.2.2.2.2.2.2.2.2.2.2.2.2.2.2.2.2.1,x.2.2.2.2.2.2.2.2.2.2.2.2.2.2.2.2.2.2.2.2))[j21]?).bind λx_1 =>
 (ix ((a0.2.2.2.2.2.2.2.2.2.2.2.2.1.set j9 (x.1,x.2.1,1,x.2.2.2.1,x.2.2.2.2.1,x.2.2.2.2.2.1,x.2.2.2.2.2.2.1,x.2.2.2.2.2.2.2.1,x.2.2.2.2.2.2.2.2.1,x.2.2.2.2.2.2.2.2.2.1,x.2.2.2.2.2.2.2.2.2.2.1,x.2.2.2.2.2.2.2.2.2.2.2.1,x.2.2.2.2.2.2.2.2.2.2.2.2.1,x.2.2.2.2.2.2.2.2.2.2.2.2.2.1,x.2.2.2.2.2.2.2.2.2.2.2.2.2.2.1,x.2.2.2.2.2.2.2.2.2.2.2.2.2.2.2.1,x.2.2.2.2.2.2.2.2.2.2.2.2.2.2.2.2.1,x.2.2.2.2.2.2.2.2.2.2.2.2.2.2.2.2.2.1,x.2.2.2.2.2.2.2.2.2.2.2.2.2.2.2.2.2.2.1,x.2.2.2.2.2.2.2.2.2.2.2.2.2.2.2.2.2.2.2.1,x.2.2.2.2.2.2.2.2.2.2.2.2.2.2.2.2.2.2.2.2)).set j21 (x_1.1,x_1.2.1,x_1.2.2.1,x_1.2.2.2.1,x_1.2.2.2.2.1,x_1.2.2.2.2.2.1,x_1.2.2.2.2.2.2.1,x_1.2.2.2.2.2.2.2.1,t20.1,t20.2.1,t20.2.2.1,t20.2.2.2.1,t20.2.2.2.2.1,t20.2.2.2.2.2.1,t20.2.2.2.2.2.2.1,t20.2.2.2.2.2.2.2.1,t20.2.2.2.2.2.2.2.2.1,t20.2.2.2.2.2.2.2.2.2.1,t20.2.2.2.2.2.2.2.2.2.2,x_1.2.2.2.2.2.2.2.2.2.2.2.2.2.2.2.2.2.2.2.1,x_1.2.2.2.2.2.2.2.2.2.2.2.2.2.2.2.2.2.2.2.2)).length k1).bind λj28 =>
 (((a0.2.2.2.2.2.2.2.2.2.2.2.2.1.set j9 (x.1,x.2.1,1,x.2.2.2.1,x.2.2.2.2.1,x.2.2.2.2.2.1,x.2.2.2.2.2.2.1,x.2.2.2.2.2.2.2.1,x.2.2.2.2.2.2.2.2.1,x.2.2.2.2.2.2.2.2.2.1,x.2.2.2.2.2.2.2.2.2.2.1,x.2.2.2.2.2.2.2.2.2.2.2.1,x.2.2.2.2.2.2.2.2.2.2.2.2.1,x.2.2.2.2.2.2.2.2.2.2.2.2.2.1,x.2.2.2.2.2.2.2.2.2.2.2.2.2.2.1,x.2.2.2.2.2.2.2.2.2.2.2.2.2.2.2.1,x.2.2.2.2.2.2.2.2.2.2.2.2.2.2.2.2.1,x.2.2.2.2.2.2.2.2.2.2.2.2.2.2.2.2.2.1,x.2.2.2.2.2.2.2.2.2.2.2.2.2.2.2.2.2.2.1,x.2.2.2.2.2.2.2.2.2.2.2.2.2.2.2.2.2.2.2.1,x.2.2.2.2.2.2.2.2.2.2.2.2.2.2.2.2.2.2.2.2)).set j21 (x_1.1,x_1.2.1,x_1.2.2.1,x_1.2.2.2.1,x_1.2.2.2.2.1,x_1.2.2.2.2.2.1,x_1.2.2.2.2.2.2.1,x_1.2.2.2.2.2.2.2.1,t20.1,t20.2.1,t20.2.2.1,t20.2.2.2.1,t20.2.2.2.2.1,t20.2.2.2.2.2.1,t20.2.2.2.2.2.2.1,t20.2.2.2.2.2.2.2.1,t20.2.2.2.2.2.2.2.2.1,t20.2.2.2.2.2.2.2.2.2.1,t20.2.2.2.2.2.2.2.2.2.2,x_1.2.2.2.2.2.2.2.2.2.2.2.2.2.2.2.2.2.2.2.1,x_1.2.2.2.2.2.2.2.2.2.2.2.2.2.2.2.2.2.2.2.2))[j28]?).bind λx_2 =>
 some (a0.1,a0.2.1,a0.2.2.1,a0.2.2.2.1,a0.2.2.2.2.1,a0.2.2.2.2.2.1,a0.2.2.2.2.2.2.1,a0.2.2.2.2.2.2.2.1,a0.2.2.2.2.2.2.2.2.1,a0.2.2.2.2.2.2.2.2.2.1,a0.2.2.2.2.2.2.2.2.2.2.1,a0.2.2.2.2.2.2.2.2.2.2.2.1,((a0.2.2.2.2.2.2.2.2.2.2.2.2.1.set j9 (x.1,x.2.1,1,x.2.2.2.1,x.2.2.2.2.1,x.2.2.2.2.2.1,x.2.2.2.2.2.2.1,x.2.2.2.2.2.2.2.1,x.2.2.2.2.2.2.2.2.1,x.2.2.2.2.2.2.2.2.2.1,x.2.2.2.2.2.2.2.2.2.2.1,x.2.2.2.2.2.2.2.2.2.2.2.1,x.2.2.2.2.2.2.2.2.2.2.2.2.1,x.2.2.2.2.2.2.2.2.2.2.2.2.2.1,x.2.2.2.2.2.2.2.2.2.2.2.2.2.2.1,x.2.2.2.2.2.2.2.2.2.2.2.2.2.2.2.1,x.2.2.2.2.2.2.2.2.2.2.2.2.2.2.2.2.1,x.2.2.2.2.2.2.2.2.2.2.2.2.2.2.2.2.2.1,x.2.2.2.2.2.2.2.2.2.2.2.2.2.2.2.2.2.2.1,x.2.2.2.2.2.2.2.2.2.2.2.2.2.2.2.2.2.2.2.1,x.2.2.2.2.2.2.2.2.2.2.2.2.2.2.2.2.2.2.2.2)).set j21 (x_1.1,x_1.2.1,x_1.2.2.1,x_1.2.2.2.1,x_1.2.2.2.2.1,x_1.2.2.2.2.2.1,x_1.2.2.2.2.2.2.1,x_1.2.2.2.2.2.2.2.1,t20.1,t20.2.1,t20.2.2.1,t20.2.2.2.1,t20.2.2.2.2.1,t20.2.2.2.2.2.1,t20.2.2.2.2.2.2.1,t20.2.2.2.2.2.2.2.1,t20.2.2.2.2.2.2.2.2.1,t20.2.2.2.2.2.2.2.2.2.1,t20.2.2.2.2.2.2.2.2.2.2,x_1.2.2.2.2.2.2.2.2.2.2.2.2.2.2.2.2.2.2.2.1,x_1.2.2.2.2.2.2.2.2.2.2.2.2.2.2.2.2.2.2.2.2)).set j28 (x_2.1,x_2.2.1,x_2.2.2.1,x_2.2.2.2.1,x_2.2.2.2.2.1,x_2.2.2.2.2.2.1,x_2.2.2.2.2.2.2.1,x_2.2.2.2.2.2.2.2.1,x_2.2.2.2.2.2.2.2.2.1,x_2.2.2.2.2.2.2.2.2.2.1,x_2.2.2.2.2.2.2.2.2.2.2.1,x_2.2.2.2.2.2.2.2.2.2.2.2.1,x_2.2.2.2.2.2.2.2.2.2.2.2.2.1,x_2.2.2.2.2.2.2.2.2.2.2.2.2.2.1,x_2.2.2.2.2.2.2.2.2.2.2.2.2.2.2.1,x_2.2.2.2.2.2.2.2.2.2.2.2.2.2.2.2.1,x_2.2.2.2.2.2.2.2.2.2.2.2.2.2.2.2.2.1,x_2.2.2.2.2.2.2.2.2.2.2.2.2.2.2.2.2.2.1,x_2.2.2.2.2.2.2.2.2.2.2.2.2.2.2.2.2.2.2.1,0,x_2.2.2.2.2.2.2.2.2.2.2.2.2.2.2.2.2.2.2.2.2),a0.2.2.2.2.2.2.2.2.2.2.2.2.2.1,a0.2.2.2.2.2.2.2.2.2.2.2.2.2.2)
def lX:FL:=(322,⟨[.ptr wO (some false),.val false vG false],[],λa=>fO a.1 a.2⟩)::lW
theorem rY:Gd lX:=vH rX 322 Tryz.f322 [] Tryz.func322
def eD (a0:vO) (k1:Int):Option vO :=
 (xR a0.2.2.2.2.2.2.2.2.2.2.2.2.1.length 0 k1).bind λp =>
 (vS ([]:List wM) ((a0.2.2.2.2.2.2.2.2.2.2.2.2.1.take p.2).drop p.1)).bind λzs12 =>
 (xR a0.2.2.2.2.2.2.2.2.2.2.2.2.1.length (vA (k1+1)) (a0.2.2.2.2.2.2.2.2.2.2.2.2.1.length:Int)).bind λp_1 =>
 (vS zs12 ((a0.2.2.2.2.2.2.2.2.2.2.2.2.1.take p_1.2).drop p_1.1)).bind λzs20 =>
 some (a0.1,a0.2.1,a0.2.2.1,a0.2.2.2.1,a0.2.2.2.2.1,a0.2.2.2.2.2.1,a0.2.2.2.2.2.2.1,a0.2.2.2.2.2.2.2.1,a0.2.2.2.2.2.2.2.2.1,a0.2.2.2.2.2.2.2.2.2.1,a0.2.2.2.2.2.2.2.2.2.2.1,a0.2.2.2.2.2.2.2.2.2.2.2.1,zs20,a0.2.2.2.2.2.2.2.2.2.2.2.2.2.1,a0.2.2.2.2.2.2.2.2.2.2.2.2.2.2)
def lY:FL:=(323,⟨[.ptr wO (some false),.val false vG false],[],λa=>eD a.1 a.2⟩)::lX
theorem rZ:Gd lY:=vH rY 323 Tryz.f323 [] Tryz.func323
def eE (p0:vO) (i1:Int):Option vO :=
 (ix p0.2.2.2.2.2.2.2.2.2.2.2.2.1.length i1).bind λj16 =>
 (p0.2.2.2.2.2.2.2.2.2.2.2.2.1[j16]?).bind λx18 =>
 (fN p0.2.2.2.2.2.2.2.2.2.2.2.1 x18.2.1).bind λt19 =>
 (cond (t19.2==0) (some (t19.1.1 != 162)) (some false)).bind λt28 =>
 cond t28
 ((ix p0.2.2.2.2.2.2.2.2.2.2.2.2.1.length i1).bind λj35 =>
 (p0.2.2.2.2.2.2.2.2.2.2.2.2.1[j35]?).bind λx =>
 (fO (p0.1,p0.2.1,p0.2.2.1,p0.2.2.2.1,p0.2.2.2.2.1,p0.2.2.2.2.2.1,p0.2.2.2.2.2.2.1,p0.2.2.2.2.2.2.2.1,p0.2.2.2.2.2.2.2.2.1,p0.2.2.2.2.2.2.2.2.2.1,p0.2.2.2.2.2.2.2.2.2.2.1,p0.2.2.2.2.2.2.2.2.2.2.2.1,p0.2.2.2.2.2.2.2.2.2.2.2.2.1.set j35 (x.1,x.2.1,x.2.2.1,t19.1.1,t19.1.2.1,t19.1.2.2.1,t19.1.2.2.2.1,t19.1.2.2.2.2,x.2.2.2.2.2.2.2.2.1,x.2.2.2.2.2.2.2.2.2.1,x.2.2.2.2.2.2.2.2.2.2.1,x.2.2.2.2.2.2.2.2.2.2.2.1,x.2.2.2.2.2.2.2.2.2.2.2.2.1,x.2.2.2.2.2.2.2.2.2.2.2.2.2.1,x.2.2.2.2.2.2.2.2.2.2.2.2.2.2.1,x.2.2.2.2.2.2.2.2.2.2.2.2.2.2.2.1,x.2.2.2.2.2.2.2.2.2.2.2.2.2.2.2.2.1,x.2.2.2.2.2.2.2.2.2.2.2.2.2.2.2.2.2.1,x.2.2.2.2.2.2.2.2.2.2.2.2.2.2.2.2.2.2.1,x.2.2.2.2.2.2.2.2.2.2.2.2.2.2.2.2.2.2.2.1,x.2.2.2.2.2.2.2.2.2.2.2.2.2.2.2.2.2.2.2.2),p0.2.2.2.2.2.2.2.2.2.2.2.2.2.1,p0.2.2.2.2.2.2.2.2.2.2.2.2.2.2) i1).bind λt39 =>
 some t39)
 (cond (t19.2==3)
 ((aK p0.2.2.2.2.2.2.2.2.1).bind λt48 =>
 (eD (p0.1,p0.2.1,p0.2.2.1,p0.2.2.2.1,p0.2.2.2.2.1,p0.2.2.2.2.2.1,p0.2.2.2.2.2.2.1,p0.2.2.2.2.2.2.2.1,t48,p0.2.2.2.2.2.2.2.2.2.1,p0.2.2.2.2.2.2.2.2.2.2.1,p0.2.2.2.2.2.2.2.2.2.2.2.1,p0.2.2.2.2.2.2.2.2.2.2.2.2.1,p0.2.2.2.2.2.2.2.2.2.2.2.2.2.1,p0.2.2.2.2.2.2.2.2.2.2.2.2.2.2) i1).bind λt64 =>
 some t64)
 ((aK p0.2.2.2.2.2.2.2.1).bind λt58 =>
 (eD (p0.1,p0.2.1,p0.2.2.1,p0.2.2.2.1,p0.2.2.2.2.1,p0.2.2.2.2.2.1,p0.2.2.2.2.2.2.1,t58,p0.2.2.2.2.2.2.2.2.1,p0.2.2.2.2.2.2.2.2.2.1,p0.2.2.2.2.2.2.2.2.2.2.1,p0.2.2.2.2.2.2.2.2.2.2.2.1,p0.2.2.2.2.2.2.2.2.2.2.2.2.1,p0.2.2.2.2.2.2.2.2.2.2.2.2.2.1,p0.2.2.2.2.2.2.2.2.2.2.2.2.2.2) i1).bind λt64_1 =>
 some t64_1))
def lZ:FL:=(242,⟨[.ptr wO (some false),.val false vG false],[],λa=>eE a.1 a.2⟩)::lY
theorem s5:Gd lZ:=vH rZ 242 Tryz.f242 [] Tryz.func242
def eF (a0:vO) (k1:Int) (p2:wd):Option (vO×List wU) :=
 (ix a0.2.2.2.2.2.2.2.2.2.2.2.2.1.length k1).bind λj13 =>
 (a0.2.2.2.2.2.2.2.2.2.2.2.2.1[j13]?).bind λx15 =>
 (eD a0 k1).bind λt21 =>
 some (t21,[(x15.1,p2.1,p2.2.1,p2.2.2.1,p2.2.2.2.1,p2.2.2.2.2)])
def m5:FL:=(244,⟨[.ptr wO (some false),.val false vG false,.val true xU false],[.val false (.one (.sl zw)) (some false)],λa=>eF a.1 a.2.1 a.2.2⟩)::lZ
theorem s6:Gd m5:=vH s5 244 Tryz.f244 [] Tryz.func244
def hP (p0:vO) (i1:Int):Option (vO×List wU) :=
 (ix p0.2.2.2.2.2.2.2.2.2.2.2.2.1.length i1).bind λj14 =>
 (p0.2.2.2.2.2.2.2.2.2.2.2.2.1[j14]?).bind λx15 =>
 cond (p0.2.2.2.2.2.2.2.2.2.2.1==x15.2.2.2.2.2.2.2.2.2.2.2.2.2.2.2.2.2.2.1)
 ((fJ (p0.1,p0.2.1,p0.2.2.1,p0.2.2.2.1,p0.2.2.2.2.1,p0.2.2.2.2.2.1,p0.2.2.2.2.2.2.1,p0.2.2.2.2.2.2.2.1,p0.2.2.2.2.2.2.2.2.1,p0.2.2.2.2.2.2.2.2.2.1,p0.2.2.2.2.2.2.2.2.2.2.1) (x15.2.2.2.1,x15.2.2.2.2.1,x15.2.2.2.2.2.1,x15.2.2.2.2.2.2.1,x15.2.2.2.2.2.2.2.1)).bind λt32 =>
 (eF (t32.1.1,t32.1.2.1,t32.1.2.2.1,t32.1.2.2.2.1,t32.1.2.2.2.2.1,t32.1.2.2.2.2.2.1,t32.1.2.2.2.2.2.2.1,t32.1.2.2.2.2.2.2.2.1,t32.1.2.2.2.2.2.2.2.2.1,t32.1.2.2.2.2.2.2.2.2.2.1,t32.1.2.2.2.2.2.2.2.2.2.2,p0.2.2.2.2.2.2.2.2.2.2.2.1,p0.2.2.2.2.2.2.2.2.2.2.2.2.1,p0.2.2.2.2.2.2.2.2.2.2.2.2.2.1,p0.2.2.2.2.2.2.2.2.2.2.2.2.2.2) i1 t32.2).bind λt42 =>
 some t42)
 (cond (decide (x15.2.2.2.2.2.2.2.2.2.2.2.2.2.2.2.2.2.2.2.2>=3))
 ((cO x15.2.2.2.2.2.2.2.1).bind λt52 =>
 (dj (162,x15.2.2.2.2.1,6,1,t52) false).bind λt57 =>
 (eF p0 i1 t57).bind λt58 =>
 some t58)
 ((ix p0.2.2.2.2.2.2.2.2.2.2.2.2.1.length i1).bind λj67 =>
 (p0.2.2.2.2.2.2.2.2.2.2.2.2.1[j67]?).bind λx =>
 (fO (p0.1,p0.2.1,p0.2.2.1,p0.2.2.2.1,p0.2.2.2.2.1,p0.2.2.2.2.2.1,p0.2.2.2.2.2.2.1,p0.2.2.2.2.2.2.2.1,p0.2.2.2.2.2.2.2.2.1,p0.2.2.2.2.2.2.2.2.2.1,p0.2.2.2.2.2.2.2.2.2.2.1,p0.2.2.2.2.2.2.2.2.2.2.2.1,p0.2.2.2.2.2.2.2.2.2.2.2.2.1.set j67 (x.1,x.2.1,x.2.2.1,x.2.2.2.1,x.2.2.2.2.1,x.2.2.2.2.2.1,x.2.2.2.2.2.2.1,x.2.2.2.2.2.2.2.1,x.2.2.2.2.2.2.2.2.1,x.2.2.2.2.2.2.2.2.2.1,x.2.2.2.2.2.2.2.2.2.2.1,x.2.2.2.2.2.2.2.2.2.2.2.1,x.2.2.2.2.2.2.2.2.2.2.2.2.1,x.2.2.2.2.2.2.2.2.2.2.2.2.2.1,x.2.2.2.2.2.2.2.2.2.2.2.2.2.2.1,x.2.2.2.2.2.2.2.2.2.2.2.2.2.2.2.1,x.2.2.2.2.2.2.2.2.2.2.2.2.2.2.2.2.1,x.2.2.2.2.2.2.2.2.2.2.2.2.2.2.2.2.2.1,x.2.2.2.2.2.2.2.2.2.2.2.2.2.2.2.2.2.2.1,x.2.2.2.2.2.2.2.2.2.2.2.2.2.2.2.2.2.2.2.1,vA (x15.2.2.2.2.2.2.2.2.2.2.2.2.2.2.2.2.2.2.2.2+1)),p0.2.2.2.2.2.2.2.2.2.2.2.2.2.1,p0.2.2.2.2.2.2.2.2.2.2.2.2.2.2) i1).bind λt71 =>
 some (t71,([]:List wU))))
def m6:FL:=(243,⟨[.ptr wO (some false),.val false vG false],[.val false (.one (.sl zw)) (some false)],λa=>hP a.1 a.2⟩)::m5
theorem s7:Gd m6:=vH s6 243 Tryz.f243 [] Tryz.func243
def hU (p0:vO) (i1:Int):Option (vO×List wU) :=
 (ix p0.2.2.2.2.2.2.2.2.2.2.2.2.1.length i1).bind λj14 =>
 (p0.2.2.2.2.2.2.2.2.2.2.2.2.1[j14]?).bind λx15 =>
 cond (x15.2.2.1==0)
 ((eE p0 i1).bind λt35 =>
 some (t35,([]:List wU)))
 ((cond (x15.2.2.1==1)
 (some (decide (x15.2.2.2.2.2.2.2.2.2.2.2.2.2.2.2.2.2.2.2.1<(x15.2.2.2.2.2.2.2.1.length:Int))))
 (some false)).bind λt48 =>
 cond t48
 ((ix p0.2.2.2.2.2.2.2.2.2.2.2.2.1.length i1).bind λj57 =>
 (p0.2.2.2.2.2.2.2.2.2.2.2.2.1[j57]?).bind λx =>
 some ((p0.1,p0.2.1,p0.2.2.1,p0.2.2.2.1,p0.2.2.2.2.1,p0.2.2.2.2.2.1,p0.2.2.2.2.2.2.1,p0.2.2.2.2.2.2.2.1,p0.2.2.2.2.2.2.2.2.1,p0.2.2.2.2.2.2.2.2.2.1,p0.2.2.2.2.2.2.2.2.2.2.1,p0.2.2.2.2.2.2.2.2.2.2.2.1,p0.2.2.2.2.2.2.2.2.2.2.2.2.1.set j57 (x.1,x.2.1,x.2.2.1,x.2.2.2.1,x.2.2.2.2.1,x.2.2.2.2.2.1,x.2.2.2.2.2.2.1,x.2.2.2.2.2.2.2.1,x.2.2.2.2.2.2.2.2.1,x.2.2.2.2.2.2.2.2.2.1,x.2.2.2.2.2.2.2.2.2.2.1,x.2.2.2.2.2.2.2.2.2.2.2.1,x.2.2.2.2.2.2.2.2.2.2.2.2.1,x.2.2.2.2.2.2.2.2.2.2.2.2.2.1,x.2.2.2.2.2.2.2.2.2.2.2.2.2.2.1,x.2.2.2.2.2.2.2.2.2.2.2.2.2.2.2.1,x.2.2.2.2.2.2.2.2.2.2.2.2.2.2.2.2.1,x.2.2.2.2.2.2.2.2.2.2.2.2.2.2.2.2.2.1,x.2.2.2.2.2.2.2.2.2.2.2.2.2.2.2.2.2.2.1,vA (x15.2.2.2.2.2.2.2.2.2.2.2.2.2.2.2.2.2.2.2.1+1),x.2.2.2.2.2.2.2.2.2.2.2.2.2.2.2.2.2.2.2.2),p0.2.2.2.2.2.2.2.2.2.2.2.2.2.1,p0.2.2.2.2.2.2.2.2.2.2.2.2.2.2),([]:List wU)))
 (cond (x15.2.2.1==1)
 ((ix p0.2.2.2.2.2.2.2.2.2.2.2.2.1.length i1).bind λj68 =>
 (p0.2.2.2.2.2.2.2.2.2.2.2.2.1[j68]?).bind λx_1 =>
 some ((p0.1,p0.2.1,p0.2.2.1,p0.2.2.2.1,p0.2.2.2.2.1,p0.2.2.2.2.2.1,p0.2.2.2.2.2.2.1,p0.2.2.2.2.2.2.2.1,p0.2.2.2.2.2.2.2.2.1,p0.2.2.2.2.2.2.2.2.2.1,p0.2.2.2.2.2.2.2.2.2.2.1,p0.2.2.2.2.2.2.2.2.2.2.2.1,p0.2.2.2.2.2.2.2.2.2.2.2.2.1.set j68 (x_1.1,x_1.2.1,2,x_1.2.2.2.1,x_1.2.2.2.2.1,x_1.2.2.2.2.2.1,x_1.2.2.2.2.2.2.1,x_1.2.2.2.2.2.2.2.1,x_1.2.2.2.2.2.2.2.2.1,x_1.2.2.2.2.2.2.2.2.2.1,x_1.2.2.2.2.2.2.2.2.2.2.1,x_1.2.2.2.2.2.2.2.2.2.2.2.1,x_1.2.2.2.2.2.2.2.2.2.2.2.2.1,x_1.2.2.2.2.2.2.2.2.2.2.2.2.2.1,x_1.2.2.2.2.2.2.2.2.2.2.2.2.2.2.1,x_1.2.2.2.2.2.2.2.2.2.2.2.2.2.2.2.1,x_1.2.2.2.2.2.2.2.2.2.2.2.2.2.2.2.2.1,x_1.2.2.2.2.2.2.2.2.2.2.2.2.2.2.2.2.2.1,x_1.2.2.2.2.2.2.2.2.2.2.2.2.2.2.2.2.2.2.1,x_1.2.2.2.2.2.2.2.2.2.2.2.2.2.2.2.2.2.2.2.1,x_1.2.2.2.2.2.2.2.2.2.2.2.2.2.2.2.2.2.2.2.2),p0.2.2.2.2.2.2.2.2.2.2.2.2.2.1,p0.2.2.2.2.2.2.2.2.2.2.2.2.2.2),([]:List wU)))
 (cond (x15.2.2.2.1==163)
 ((hP p0 i1).bind λt77 =>
 some t77)
 ((gY (x15.2.2.2.2.2.2.2.2.1,x15.2.2.2.2.2.2.2.2.2.1,x15.2.2.2.2.2.2.2.2.2.2.1,x15.2.2.2.2.2.2.2.2.2.2.2.1,x15.2.2.2.2.2.2.2.2.2.2.2.2.1,x15.2.2.2.2.2.2.2.2.2.2.2.2.2.1,x15.2.2.2.2.2.2.2.2.2.2.2.2.2.2.1,x15.2.2.2.2.2.2.2.2.2.2.2.2.2.2.2.1,x15.2.2.2.2.2.2.2.2.2.2.2.2.2.2.2.2.1,x15.2.2.2.2.2.2.2.2.2.2.2.2.2.2.2.2.2.1,x15.2.2.2.2.2.2.2.2.2.2.2.2.2.2.2.2.2.2.1) (x15.2.2.2.1,x15.2.2.2.2.1,x15.2.2.2.2.2.1,x15.2.2.2.2.2.2.1,x15.2.2.2.2.2.2.2.1)).bind λt21 =>
 (eF p0 i1 t21.2.1).bind λt28 =>
 some t28))))
def m7:FL:=(140,⟨[.ptr wO (some false),.val false vG false],[.val false (.one (.sl zw)) (some false)],λa=>hU a.1 a.2⟩)::m6
theorem s8:Gd m7:=vH s7 140 Tryz.f140 [] Tryz.func140
def bq (a0:vO) (k1:Int):Option (vO×List wU) :=
 (cP a0).bind λt9 =>
 (cN a0).bind λt11 =>
 (cond (!t11)
 (some true)
 ((ae k1 0 (vA ((a0.2.2.2.2.2.2.2.2.2.2.2.2.1.length:Int)-1))).bind λt19 =>
 some (!t19))).bind λt21 =>
 cond t21
 (some (t9,([]:List wU)))
 ((hU t9 k1).bind λt25 =>
 some t25)
def m8:FL:=(47,⟨[.val true wO false,.val false vG false],[.val true wO (some false),.val false (.one (.sl zw)) (some false)],λa=>bq a.1 a.2⟩)::m7
theorem s9:Gd m8:=vH s8 47 Tryz.f47 [] Tryz.func47
def hZ (b0:vw) (word1:List UInt8):Option vO :=
 (aR b0).bind λt6 =>
 (cond (!t6) (some true) (some (decide ((word1.length:Int)>20)))).bind λt12 =>
 cond t12
 (some (0,[],[],[],[],[],0,0,0,0,0,[],[],0,0))
 ((ak b0).bind λt15 =>
 some (t15.1,t15.2.1,t15.2.2.1,t15.2.2.2.1,t15.2.2.2.2.1,t15.2.2.2.2.2.1,t15.2.2.2.2.2.2.1,t15.2.2.2.2.2.2.2.1,t15.2.2.2.2.2.2.2.2.1,t15.2.2.2.2.2.2.2.2.2.1,t15.2.2.2.2.2.2.2.2.2.2,word1,[],0,0))
def m9:FL:=(58,⟨[.val true vN false,.val false KN false],[.val true wO (some true)],λa=>hZ a.1 a.2⟩)::m8
theorem sa:Gd m9:=vH s9 58 Tryz.f58 [] Tryz.func58
def du (i4:Int) (b0:List Int) (b1:Int) (b2:Int) (b0_1:Int) (b1_1:Int) (b2_1:Int) (b3:Int) (b4:List vB):Option ((Int×List Int×Int×Int×Int×Int×Int×Int×List vB)⊕(List Int×Int×Int×Int×Int×Int×Int×List vB)) :=
 cond (decide (i4>0))
 ((aM (b0,b1,b2)).bind λt35 =>
 (aE t35.1).bind λt37 =>
 (vS b4 [(t35.2,t37.2.1,t37.2.2.1,t37.2.2.2.1,t37.2.2.2.2)]).bind λzs40 =>
 some (.inl (vA (i4-1),t37.1.1,t37.1.2.1,t37.1.2.2,b0_1,b1_1,b2_1,b3,zs40)))
 (some (.inr (b0,b1,b2,b0_1,b1_1,b2_1,b3,b4)))
def dv (i4_1:Int) (b0_4:List Int) (b1_4:Int) (b2_4:Int) (b0_5:Int) (b1_5:Int) (b2_5:Int) (b3_2:Int) (b4_2:List vB):Option ((Int×List Int×Int×Int×Int×Int×Int×Int×List vB)⊕(List Int×Int×Int×Int×Int×Int×Int×List vB)) :=
 cond (decide (i4_1>0))
 ((aM (b0_4,b1_4,b2_4)).bind λt35_1 =>
 (aE t35_1.1).bind λt37_1 =>
 (vS b4_2 [(t35_1.2,t37_1.2.1,t37_1.2.2.1,t37_1.2.2.2.1,t37_1.2.2.2.2)]).bind λzs40_1 =>
 some (.inl (vA (i4_1-1),t37_1.1.1,t37_1.1.2.1,t37_1.1.2.2,b0_5,b1_5,b2_5,b3_2,zs40_1)))
 (some (.inr (b0_4,b1_4,b2_4,b0_5,b1_5,b2_5,b3_2,b4_2)))
def i0 (c0:vM):Option (vM×wd) :=
 (af c0 ([160,161,162,163,165]:List Int)).bind λt7 =>
 (cX t7.1).bind λt9 =>
 (aw t9.2).bind λt10 =>
 (cond (t7.2==162) (some true) (some (t7.2==165))).bind λt19 =>
 cond t19
 ((aa t9.1 4).bind λt21 =>
 (aa t21.1 5).bind λt24 =>
 (aa t24.1 4).bind λt27 =>
 (loop (λz=>du z.1 z.2.1 z.2.2.1 z.2.2.2.1 z.2.2.2.2.1 z.2.2.2.2.2.1 z.2.2.2.2.2.2.1 z.2.2.2.2.2.2.2.1 z.2.2.2.2.2.2.2.2) (t27.2,t27.1.1,t27.1.2.1,t27.1.2.2,t7.2,t10,t21.2,t24.2,[])).bind λd =>
 some ((d.1,d.2.1,d.2.2.1),d.2.2.2))
 ((aa t9.1 4).bind λt27_1 =>
 (loop (λz=>dv z.1 z.2.1 z.2.2.1 z.2.2.2.1 z.2.2.2.2.1 z.2.2.2.2.2.1 z.2.2.2.2.2.2.1 z.2.2.2.2.2.2.2.1 z.2.2.2.2.2.2.2.2) (t27_1.2,t27_1.1.1,t27_1.1.2.1,t27_1.1.2.2,t7.2,t10,0,0,[])).bind λd_1 =>
 some ((d_1.1,d_1.2.1,d_1.2.2.1),d_1.2.2.2))
def ma:FL:=(194,⟨[.ptr wW none],[.val true xU (some true)],λa=>i0 a⟩)::m9
theorem sc:Gd ma:=vH sa 194 Tryz.f194 [(0,⟨⟨[(4,false,[dI])],[(1,.box [.dat (.sl (.one (.int .u8))),dI,dI]),(270336,.box [dI,dI,dI,dI,.own 1000000000]),(1000000000,.root vU true)]⟩,
 ⟨[],[(1,.box [.dat (.sl (.one (.int .u8))),dI,dI]),(270336,.box [dI,dI,dI,dI,.own 1000000300]),(1000000300,.root vU true)]⟩,none⟩)] Tryz.func194
def ia (c0:vM) (b1:List Int):Option (vM×List Int) :=
 cond ((b1.length:Int)==0)
 (some (c0,b1))
 ((aa c0 5).bind λt10 =>
 cond (t10.2==0)
 ((aa t10.1 (b1.length:Int)).bind λt17 =>
 (af t17.1 ([0,1,2,4,5,6,48,127,128,129,160,255]:List Int)).bind λt20 =>
 (ix b1.length t17.2).bind λj22 =>
 (b1[j22]?).bind λx =>
 some (t20.1,b1.set j22 (IntKind.u8.wrap (t20.2))))
 (cond (t10.2==1)
 ((vS b1 ([3]:List Int)).bind λzs27 =>
 some (t10.1,zs27))
 (cond (t10.2==2)
 ((aa t10.1 (b1.length:Int)).bind λt34 =>
 (xR b1.length 0 t34.2).bind λp =>
 some (t34.1,(b1.take p.2).drop p.1))
 (some (t10.1,b1)))))
def mb:FL:=(231,⟨[.ptr wW none,.val false xu true],[.val false xu none],λa=>ia a.1 a.2⟩)::ma
theorem sd:Gd mb:=vH sc 231 Tryz.f231 [] Tryz.func231
def dw (word0:List UInt8) (p1:wd):Option (List Int) :=
 (fE p1).bind λt8 =>
 (cond ((t8.length:Int)==0) (some true) (some (decide ((word0.length:Int)>20)))).bind λt16 =>
 cond t16
 (some ([]:List Int))
 ((bp 1).bind λt19 =>
 (ar ([]:List Int) 2 t19).bind λt20 =>
 (ar t20 4 (yv word0)).bind λt23 =>
 (vS t23 t8).bind λzs25 =>
 cond (decide ((zs25.length:Int)>250))
 (some ([]:List Int))
 ((ar ([]:List Int) 48 zs25).bind λt32 =>
 some t32))
def mc:FL:=(232,⟨[.val false KN false,.val true xU false],[.val false xu (some true)],λa=>dw a.1 a.2⟩)::mb
theorem se:Gd mc:=vH sd 232 Tryz.f232 [] Tryz.func232
def bV (c0:vM) (b1:vw):Option (vM×List Int) :=
 (aa c0 10).bind λt6 =>
 cond (t6.2==0)
 ((bS t6.1 b1).bind λt12 =>
 (dw [121,97,114,100] t12.2).bind λt13 =>
 (ia t12.1 t13).bind λt14 =>
 some t14)
 (cond (t6.2==1)
 ((bS t6.1 b1).bind λt19 =>
 (dw [111,116,104,101,114] t19.2).bind λt20 =>
 some (t19.1,t20))
 (cond (t6.2==2)
 ((i0 t6.1).bind λt24 =>
 (dw [121,97,114,100] t24.2).bind λt25 =>
 some (t24.1,t25))
 ((bS t6.1 b1).bind λt28 =>
 (dw [121,97,114,100] t28.2).bind λt29 =>
 some (t28.1,t29))))
def md:FL:=(128,⟨[.ptr wW none,.val true vN false],[.val false xu none],λa=>bV a.1 a.2⟩)::mc
theorem sf:Gd md:=vH se 128 Tryz.f128 [] Tryz.func128
def ib (i6:Int) (b0:List Int) (b1:Int) (b2:Int) (b0_1:Int) (b1_1:List UInt8) (b6:Int) (b7:Int) (b8:Int) (b9:Int) (b10:Int) (b11:List UInt8) (b13:Int) (b14:Int) (b2_1:List Pt) (b3:List vD) (b4:List vP) (b5:List Int) (b12:List wM):Option ((Int×List Int×Int×Int×Int×List UInt8×Int×Int×Int×Int×Int×List UInt8×Int×Int×List Pt×List vD×List vP×List Int×List wM)⊕(List Int×Int×Int×Int×List UInt8×Int×Int×Int×Int×Int×List UInt8×Int×Int×List Pt×List vD×List vP×List Int×List wM)) :=
 cond (decide (i6>0))
 ((aa (b0,b1,b2) 6).bind λt19 =>
 cond (t19.2==0)
 (cond (t19.2==0)
 ((bV t19.1 (b0_1,b1_1,b2_1,b3,b4,b5,b6,b7,b8,b9,b10)).bind λt38 =>
 (bm (b0_1,b1_1,b2_1,b3,b4,b5,b6,b7,b8,b9,b10,b11,b12,b13,b14) t38.2).bind λt39 =>
 some (.inl (vA (i6-1),t38.1.1,t38.1.2.1,t38.1.2.2,t39.1,t39.2.1,t39.2.2.2.2.2.2.1,t39.2.2.2.2.2.2.2.1,t39.2.2.2.2.2.2.2.2.1,t39.2.2.2.2.2.2.2.2.2.1,t39.2.2.2.2.2.2.2.2.2.2.1,t39.2.2.2.2.2.2.2.2.2.2.2.1,t39.2.2.2.2.2.2.2.2.2.2.2.2.2.1,t39.2.2.2.2.2.2.2.2.2.2.2.2.2.2,t39.2.2.1,t39.2.2.2.1,t39.2.2.2.2.1,t39.2.2.2.2.2.1,t39.2.2.2.2.2.2.2.2.2.2.2.2.1)))
 (cond (t19.2==2)
 ((bW (b0_1,b1_1,b2_1,b3,b4,b5,b6,b7,b8,b9,b10)).bind λt44 =>
 some (.inl (vA (i6-1),t19.1.1,t19.1.2.1,t19.1.2.2,t44.1,t44.2.1,t44.2.2.2.2.2.2.1,t44.2.2.2.2.2.2.2.1,t44.2.2.2.2.2.2.2.2.1,t44.2.2.2.2.2.2.2.2.2.1,t44.2.2.2.2.2.2.2.2.2.2,b11,b13,b14,t44.2.2.1,t44.2.2.2.1,t44.2.2.2.2.1,t44.2.2.2.2.2.1,b12)))
 ((aa t19.1 (vA ((b12.length:Int)+1))).bind λt27 =>
 (bq (b0_1,b1_1,b2_1,b3,b4,b5,b6,b7,b8,b9,b10,b11,b12,b13,b14) t27.2).bind λt28 =>
 some (.inl (vA (i6-1),t27.1.1,t27.1.2.1,t27.1.2.2,t28.1.1,t28.1.2.1,t28.1.2.2.2.2.2.2.1,t28.1.2.2.2.2.2.2.2.1,t28.1.2.2.2.2.2.2.2.2.1,t28.1.2.2.2.2.2.2.2.2.2.1,t28.1.2.2.2.2.2.2.2.2.2.2.1,t28.1.2.2.2.2.2.2.2.2.2.2.2.1,t28.1.2.2.2.2.2.2.2.2.2.2.2.2.2.1,t28.1.2.2.2.2.2.2.2.2.2.2.2.2.2.2,t28.1.2.2.1,t28.1.2.2.2.1,t28.1.2.2.2.2.1,t28.1.2.2.2.2.2.1,t28.1.2.2.2.2.2.2.2.2.2.2.2.2.1)))))
 (cond (t19.2==1)
 ((bV t19.1 (b0_1,b1_1,b2_1,b3,b4,b5,b6,b7,b8,b9,b10)).bind λt38_1 =>
 (bm (b0_1,b1_1,b2_1,b3,b4,b5,b6,b7,b8,b9,b10,b11,b12,b13,b14) t38_1.2).bind λt39_1 =>
 some (.inl (vA (i6-1),t38_1.1.1,t38_1.1.2.1,t38_1.1.2.2,t39_1.1,t39_1.2.1,t39_1.2.2.2.2.2.2.1,t39_1.2.2.2.2.2.2.2.1,t39_1.2.2.2.2.2.2.2.2.1,t39_1.2.2.2.2.2.2.2.2.2.1,t39_1.2.2.2.2.2.2.2.2.2.2.1,t39_1.2.2.2.2.2.2.2.2.2.2.2.1,t39_1.2.2.2.2.2.2.2.2.2.2.2.2.2.1,t39_1.2.2.2.2.2.2.2.2.2.2.2.2.2.2,t39_1.2.2.1,t39_1.2.2.2.1,t39_1.2.2.2.2.1,t39_1.2.2.2.2.2.1,t39_1.2.2.2.2.2.2.2.2.2.2.2.2.1)))
 (cond (t19.2==2)
 ((bW (b0_1,b1_1,b2_1,b3,b4,b5,b6,b7,b8,b9,b10)).bind λt44_1 =>
 some (.inl (vA (i6-1),t19.1.1,t19.1.2.1,t19.1.2.2,t44_1.1,t44_1.2.1,t44_1.2.2.2.2.2.2.1,t44_1.2.2.2.2.2.2.2.1,t44_1.2.2.2.2.2.2.2.2.1,t44_1.2.2.2.2.2.2.2.2.2.1,t44_1.2.2.2.2.2.2.2.2.2.2,b11,b13,b14,t44_1.2.2.1,t44_1.2.2.2.1,t44_1.2.2.2.2.1,t44_1.2.2.2.2.2.1,b12)))
 ((aa t19.1 (vA ((b12.length:Int)+1))).bind λt27_1 =>
 (bq (b0_1,b1_1,b2_1,b3,b4,b5,b6,b7,b8,b9,b10,b11,b12,b13,b14) t27_1.2).bind λt28_1 =>
 some (.inl (vA (i6-1),t27_1.1.1,t27_1.1.2.1,t27_1.1.2.2,t28_1.1.1,t28_1.1.2.1,t28_1.1.2.2.2.2.2.2.1,t28_1.1.2.2.2.2.2.2.2.1,t28_1.1.2.2.2.2.2.2.2.2.1,t28_1.1.2.2.2.2.2.2.2.2.2.1,t28_1.1.2.2.2.2.2.2.2.2.2.2.1,t28_1.1.2.2.2.2.2.2.2.2.2.2.2.1,t28_1.1.2.2.2.2.2.2.2.2.2.2.2.2.2.1,t28_1.1.2.2.2.2.2.2.2.2.2.2.2.2.2.2,t28_1.1.2.2.1,t28_1.1.2.2.2.1,t28_1.1.2.2.2.2.1,t28_1.1.2.2.2.2.2.1,t28_1.1.2.2.2.2.2.2.2.2.2.2.2.2.1))))))
 (some (.inr (b0,b1,b2,b0_1,b1_1,b6,b7,b8,b9,b10,b11,b13,b14,b2_1,b3,b4,b5,b12)))
def ic (c0:vM) (most1:Int):Option (vM×vO) :=
 (cW c0).bind λt8 =>
 (hZ t8.2 [121,97,114,100]).bind λt9 =>
 (aa t8.1 (vA (most1+1))).bind λt13 =>
 (loop (λz=>ib z.1 z.2.1 z.2.2.1 z.2.2.2.1 z.2.2.2.2.1 z.2.2.2.2.2.1 z.2.2.2.2.2.2.1 z.2.2.2.2.2.2.2.1 z.2.2.2.2.2.2.2.2.1 z.2.2.2.2.2.2.2.2.2.1 z.2.2.2.2.2.2.2.2.2.2.1 z.2.2.2.2.2.2.2.2.2.2.2.1 z.2.2.2.2.2.2.2.2.2.2.2.2.1 z.2.2.2.2.2.2.2.2.2.2.2.2.2.1 z.2.2.2.2.2.2.2.2.2.2.2.2.2.2.1 z.2.2.2.2.2.2.2.2.2.2.2.2.2.2.2.1 z.2.2.2.2.2.2.2.2.2.2.2.2.2.2.2.2.1 z.2.2.2.2.2.2.2.2.2.2.2.2.2.2.2.2.2.1 z.2.2.2.2.2.2.2.2.2.2.2.2.2.2.2.2.2.2) (t13.2,t13.1.1,t13.1.2.1,t13.1.2.2,t9.1,t9.2.1,t9.2.2.2.2.2.2.1,t9.2.2.2.2.2.2.2.1,t9.2.2.2.2.2.2.2.2.1,t9.2.2.2.2.2.2.2.2.2.1,t9.2.2.2.2.2.2.2.2.2.2.1,t9.2.2.2.2.2.2.2.2.2.2.2.1,t9.2.2.2.2.2.2.2.2.2.2.2.2.2.1,t9.2.2.2.2.2.2.2.2.2.2.2.2.2.2,t9.2.2.1,t9.2.2.2.1,t9.2.2.2.2.1,t9.2.2.2.2.2.1,t9.2.2.2.2.2.2.2.2.2.2.2.2.1)).bind λd =>
 some ((d.1,d.2.1,d.2.2.1),(d.2.2.2.1,d.2.2.2.2.1,d.2.2.2.2.2.2.2.2.2.2.2.2.2.1,d.2.2.2.2.2.2.2.2.2.2.2.2.2.2.1,d.2.2.2.2.2.2.2.2.2.2.2.2.2.2.2.1,d.2.2.2.2.2.2.2.2.2.2.2.2.2.2.2.2.1,d.2.2.2.2.2.1,d.2.2.2.2.2.2.1,d.2.2.2.2.2.2.2.1,d.2.2.2.2.2.2.2.2.1,d.2.2.2.2.2.2.2.2.2.1,d.2.2.2.2.2.2.2.2.2.2.1,d.2.2.2.2.2.2.2.2.2.2.2.2.2.2.2.2.2,d.2.2.2.2.2.2.2.2.2.2.2.1,d.2.2.2.2.2.2.2.2.2.2.2.2.1))
def me:FL:=(126,⟨[.ptr wW none,.val false vG false],[.val true wO (some false)],λa=>ic a.1 a.2⟩)::md
theorem sg:Gd me:=vH sf 126 Tryz.f126 [(0,⟨⟨[(6,false,[dI])],[(1,.box [.dat (.sl (.one (.int .u8))),dI,dI]),(266240,.box [dI,dS,.own 1000000000,.own 1000000001,.own 1000000002,.own 1000000003,dI,dI,dI,dI,dI,dS,.own 1000000004,dI,dI]),(1000000000,.root xS false),(1000000001,.root vX false),(1000000002,.root wL false),(1000000003,.root vG false),(1000000004,.root A0 false)]⟩,
 ⟨[],[(1,.box [.dat (.sl (.one (.int .u8))),dI,dI]),(266240,.box [dI,dS,.own 1000000300,.own 1000000301,.own 1000000302,.own 1000000303,dI,dI,dI,dI,dI,dS,.own 1000000304,dI,dI]),(1000000300,.root xS false),(1000000301,.root vX false),(1000000302,.root wL false),(1000000303,.root vG false),(1000000304,.root A0 false)]⟩,none⟩)] Tryz.func126
def ie (t6:Int) (b0:Int) (b1:List UInt8) (b6:Int) (b7:Int) (b8:Int) (b9:Int) (b10:Int) (b11:List UInt8) (b13:Int) (b14:Int) (b2:List Pt) (b3:List vD) (b4:List vP) (b5:List Int) (b12:List wM):Option ((Int×Int×List UInt8×Int×Int×Int×Int×Int×List UInt8×Int×Int×List Pt×List vD×List vP×List Int×List wM)⊕(Int×List UInt8×Int×Int×Int×Int×Int×List UInt8×Int×Int×List Pt×List vD×List vP×List Int×List wM)) :=
 cond (decide (t6<6))
 ((bm (b0,b1,b2,b3,b4,b5,b6,b7,b8,b9,b10,b11,b12,b13,b14) ([1]:List Int)).bind λt63 =>
 some (.inl (vA (t6+1),t63.1,t63.2.1,t63.2.2.2.2.2.2.1,t63.2.2.2.2.2.2.2.1,t63.2.2.2.2.2.2.2.2.1,t63.2.2.2.2.2.2.2.2.2.1,t63.2.2.2.2.2.2.2.2.2.2.1,t63.2.2.2.2.2.2.2.2.2.2.2.1,t63.2.2.2.2.2.2.2.2.2.2.2.2.2.1,t63.2.2.2.2.2.2.2.2.2.2.2.2.2.2,t63.2.2.1,t63.2.2.2.1,t63.2.2.2.2.1,t63.2.2.2.2.2.1,t63.2.2.2.2.2.2.2.2.2.2.2.2.1)))
 (some (.inr (b0,b1,b6,b7,b8,b9,b10,b11,b13,b14,b2,b3,b4,b5,b12)))
def eG (p0:vM) (i1:Int):Option (vM×vO) :=
 (ic p0 i1).bind λt9 =>
 (aa t9.1 16).bind λt11 =>
 cond (t11.2==0)
 ((fC t11.1).bind λt15 =>
 some (t15.1,(t15.2.1,t15.2.2.1,t15.2.2.2.1,t15.2.2.2.2.1,t15.2.2.2.2.2.1,t15.2.2.2.2.2.2.1,t15.2.2.2.2.2.2.2.1,t15.2.2.2.2.2.2.2.2.1,t15.2.2.2.2.2.2.2.2.2.1,t15.2.2.2.2.2.2.2.2.2.2.1,t15.2.2.2.2.2.2.2.2.2.2.2,t9.2.2.2.2.2.2.2.2.2.2.2.2.1,t9.2.2.2.2.2.2.2.2.2.2.2.2.2.1,t9.2.2.2.2.2.2.2.2.2.2.2.2.2.2.1,t9.2.2.2.2.2.2.2.2.2.2.2.2.2.2.2)))
 (cond (t11.2==1)
 ((af t11.1 ([(-1),0,1000000,1000001]:List Int)).bind λt21 =>
 some (t21.1,(t9.2.1,t9.2.2.1,t9.2.2.2.1,t9.2.2.2.2.1,t9.2.2.2.2.2.1,t9.2.2.2.2.2.2.1,t9.2.2.2.2.2.2.2.1,t9.2.2.2.2.2.2.2.2.1,t9.2.2.2.2.2.2.2.2.2.1,t9.2.2.2.2.2.2.2.2.2.2.1,t9.2.2.2.2.2.2.2.2.2.2.2.1,t9.2.2.2.2.2.2.2.2.2.2.2.2.1,t9.2.2.2.2.2.2.2.2.2.2.2.2.2.1,t9.2.2.2.2.2.2.2.2.2.2.2.2.2.2.1,t21.2)))
 (cond (t11.2==2)
 ((af t11.1 ([(-1),1000000]:List Int)).bind λt27 =>
 some (t27.1,(t9.2.1,t9.2.2.1,t9.2.2.2.1,t9.2.2.2.2.1,t9.2.2.2.2.2.1,t9.2.2.2.2.2.2.1,t9.2.2.2.2.2.2.2.1,t9.2.2.2.2.2.2.2.2.1,t9.2.2.2.2.2.2.2.2.2.1,t9.2.2.2.2.2.2.2.2.2.2.1,t9.2.2.2.2.2.2.2.2.2.2.2.1,t9.2.2.2.2.2.2.2.2.2.2.2.2.1,t9.2.2.2.2.2.2.2.2.2.2.2.2.2.1,t27.2,t9.2.2.2.2.2.2.2.2.2.2.2.2.2.2.2)))
 (cond (t11.2==3)
 ((aa t11.1 2).bind λt36 =>
 (aa t36.1 4).bind λt39 =>
 (aa t39.1 3).bind λt41 =>
 (aa t41.1 5).bind λt44 =>
 (bS t44.1 (t9.2.1,t9.2.2.1,t9.2.2.2.1,t9.2.2.2.2.1,t9.2.2.2.2.2.1,t9.2.2.2.2.2.2.1,t9.2.2.2.2.2.2.2.1,t9.2.2.2.2.2.2.2.2.1,t9.2.2.2.2.2.2.2.2.2.1,t9.2.2.2.2.2.2.2.2.2.2.1,t9.2.2.2.2.2.2.2.2.2.2.2.1)).bind λt48 =>
 (cW t48.1).bind λt50 =>
 (vS t9.2.2.2.2.2.2.2.2.2.2.2.2.2.1 ([(vA (t9.2.2.2.2.2.2.2.2.2.2.2.2.2.2.2+t36.2),[],t39.2,t48.2.1,t48.2.2.1,t48.2.2.2.1,t48.2.2.2.2.1,t48.2.2.2.2.2,t50.2.1,t50.2.2.1,t50.2.2.2.1,t50.2.2.2.2.1,t50.2.2.2.2.2.1,t50.2.2.2.2.2.2.1,t50.2.2.2.2.2.2.2.1,t50.2.2.2.2.2.2.2.2.1,t50.2.2.2.2.2.2.2.2.2.1,t50.2.2.2.2.2.2.2.2.2.2.1,t50.2.2.2.2.2.2.2.2.2.2.2,vA (t41.2-1),t44.2)])).bind λzs53 =>
 some (t50.1,(t9.2.1,t9.2.2.1,t9.2.2.2.1,t9.2.2.2.2.1,t9.2.2.2.2.2.1,t9.2.2.2.2.2.2.1,t9.2.2.2.2.2.2.2.1,t9.2.2.2.2.2.2.2.2.1,t9.2.2.2.2.2.2.2.2.2.1,t9.2.2.2.2.2.2.2.2.2.2.1,t9.2.2.2.2.2.2.2.2.2.2.2.1,t9.2.2.2.2.2.2.2.2.2.2.2.2.1,zs53,t9.2.2.2.2.2.2.2.2.2.2.2.2.2.2.1,t9.2.2.2.2.2.2.2.2.2.2.2.2.2.2.2)))
 (cond (t11.2==4)
 ((loop (λz=>ie z.1 z.2.1 z.2.2.1 z.2.2.2.1 z.2.2.2.2.1 z.2.2.2.2.2.1 z.2.2.2.2.2.2.1 z.2.2.2.2.2.2.2.1 z.2.2.2.2.2.2.2.2.1 z.2.2.2.2.2.2.2.2.2.1 z.2.2.2.2.2.2.2.2.2.2.1 z.2.2.2.2.2.2.2.2.2.2.2.1 z.2.2.2.2.2.2.2.2.2.2.2.2.1 z.2.2.2.2.2.2.2.2.2.2.2.2.2.1 z.2.2.2.2.2.2.2.2.2.2.2.2.2.2.1 z.2.2.2.2.2.2.2.2.2.2.2.2.2.2.2) (0,t9.2.1,t9.2.2.1,t9.2.2.2.2.2.2.2.1,t9.2.2.2.2.2.2.2.2.1,t9.2.2.2.2.2.2.2.2.2.1,t9.2.2.2.2.2.2.2.2.2.2.1,t9.2.2.2.2.2.2.2.2.2.2.2.1,t9.2.2.2.2.2.2.2.2.2.2.2.2.1,t9.2.2.2.2.2.2.2.2.2.2.2.2.2.2.1,t9.2.2.2.2.2.2.2.2.2.2.2.2.2.2.2,t9.2.2.2.1,t9.2.2.2.2.1,t9.2.2.2.2.2.1,t9.2.2.2.2.2.2.1,t9.2.2.2.2.2.2.2.2.2.2.2.2.2.1)).bind λd =>
 some (t11.1,(d.1,d.2.1,d.2.2.2.2.2.2.2.2.2.2.1,d.2.2.2.2.2.2.2.2.2.2.2.1,d.2.2.2.2.2.2.2.2.2.2.2.2.1,d.2.2.2.2.2.2.2.2.2.2.2.2.2.1,d.2.2.1,d.2.2.2.1,d.2.2.2.2.1,d.2.2.2.2.2.1,d.2.2.2.2.2.2.1,d.2.2.2.2.2.2.2.1,d.2.2.2.2.2.2.2.2.2.2.2.2.2.2,d.2.2.2.2.2.2.2.2.1,d.2.2.2.2.2.2.2.2.2.1)))
 (some (t11.1,t9.2))))))
def mf:FL:=(137,⟨[.ptr wW none,.val false vG false],[.val true wO none],λa=>eG a.1 a.2⟩)::me
theorem si:Gd mf:=vH sg 137 Tryz.f137 [(1,⟨⟨[(6,false,[dI])],[(266240,.box [dI,dS,.own 1000001000,.own 1000001001,.own 1000001002,.own 1000001003,dI,dI,dI,dI,dI,dS,.own 1000001004,dI,dI]),(1000001000,.root xS false),(1000001001,.root vX false),(1000001002,.root wL false),(1000001003,.root vG false),(1000001004,.root A0 false)]⟩,
 ⟨[],[(266240,.box [dI,dS,.own 1000001300,.own 1000001301,.own 1000001302,.own 1000001303,dI,dI,dI,dI,dI,dS,.own 1000001304,dI,dI]),(1000001300,.root xS false),(1000001301,.root vX false),(1000001302,.root wL false),(1000001303,.root vG false),(1000001304,.root A0 false)]⟩,none⟩)] Tryz.func137
def dx (n1:Int) (i6:Int) (b0:List Int) (b1:Int) (b2:Int) (out5:List Int):Option ((Int×List Int×Int×Int×List Int)⊕(List Int×Int×Int×List Int)) :=
 cond (decide (i6<n1))
 ((cn (b0,b1,b2)).bind λt15 =>
 (vS out5 [IntKind.u8.wrap (t15.2)]).bind λzs18 =>
 some (.inl (vA (i6+1),t15.1.1,t15.1.2.1,t15.1.2.2,zs18)))
 (some (.inr (b0,b1,b2,out5)))
def fP (c0:vM) (n1:Int):Option (vM×List Int) :=
 (loop (λz=>dx n1 z.1 z.2.1 z.2.2.1 z.2.2.2.1 z.2.2.2.2) (0,c0.1,c0.2.1,c0.2.2,([]:List Int))).bind λd =>
 some ((d.1,d.2.1,d.2.2.1),d.2.2.2)
def mg:FL:=(355,⟨[.ptr wW none,.val false vG false],[.val false xu (some true)],λa=>fP a.1 a.2⟩)::mf
theorem sj:Gd mg:=vH si 355 Tryz.f355 [(0,⟨⟨[(5,false,[.own 1000000000]),(6,false,[dI])],[(1,.box [.dat (.sl (.one (.int .u8))),dI,dI]),(1000000000,.root (.one (.int .u8)) true)]⟩,
 ⟨[(5,false,[.own 1000000300])],[(1,.box [.dat (.sl (.one (.int .u8))),dI,dI]),(1000000300,.root (.one (.int .u8)) true)]⟩,none⟩)] Tryz.func355
def js (c0:vM):Option (vM×List Int) :=
 (af c0 ([0,1,2,5,9]:List Int)).bind λt6 =>
 (fP t6.1 t6.2).bind λt7 =>
 some t7
def mh:FL:=(324,⟨[.ptr wW none],[.val false xu (some true)],λa=>js a⟩)::mg
theorem sk:Gd mh:=vH sj 324 Tryz.f324 [] Tryz.func324
def ig (c0:vM):Option (vM×ym) :=
 (af c0 ([0,11,12,13,14,11,12]:List Int)).bind λt5 =>
 (bQ t5.1).bind λt7 =>
 (af t7.1 ([0,0,0,1,2,3]:List Int)).bind λt10 =>
 (js t10.1).bind λt12 =>
 some (t12.1,(t5.2,t7.2,t10.2,t12.2))
def mi:FL:=(251,⟨[.ptr wW none],[.val true zn (some true)],λa=>ig a⟩)::mh
theorem sm:Gd mi:=vH sk 251 Tryz.f251 [] Tryz.func251
def eH (c0:vM) (b1:vw):Option (vM×Act) :=
 (af c0 ([1,1,2,2,2,2,2,3,4,5,6]:List Int)).bind λt8 =>
 cond (t8.2==1)
 ((bV t8.1 b1).bind λt16 =>
 some (t16.1,(t8.2,0,false,t16.2,0,0,0,[],0,0,0,0,0)))
 (cond (t8.2==2)
 ((af t8.1 ([0,0,1,2]:List Int)).bind λt22 =>
 some (t22.1,(t8.2,t22.2,false,[],0,0,0,[],0,0,0,0,0)))
 (cond (t8.2==3)
 ((aa t8.1 4).bind λt27 =>
 (ig t27.1).bind λt30 =>
 some (t30.1,(t8.2,t27.2,false,[],t30.2.1,t30.2.2.1,t30.2.2.2.1,t30.2.2.2.2,0,0,0,0,0)))
 (cond (t8.2==4)
 ((aa t8.1 4).bind λt35 =>
 (eh t35.1).bind λt38 =>
 some (t38.1,(t8.2,t35.2,false,[],0,0,0,[],t38.2.1,t38.2.2.1,t38.2.2.2.1,t38.2.2.2.2.1,t38.2.2.2.2.2)))
 (cond (t8.2==5)
 ((aa t8.1 4).bind λt43 =>
 (bn t43.1 3).bind λt46 =>
 some (t46.1,(t8.2,t43.2,!t46.2,[],0,0,0,[],0,0,0,0,0)))
 (some (t8.1,(t8.2,0,false,[],0,0,0,[],0,0,0,0,0)))))))
def mj:FL:=(151,⟨[.ptr wW none,.val true vN false],[.val true Ai none],λa=>eH a.1 a.2⟩)::mi
theorem sn:Gd mj:=vH sm 151 Tryz.f151 [] Tryz.func151
def eI (b1:vw) (i8:Int) (b0:List Int) (b1_1:Int) (b2:Int) (out7:List Act):Option ((Int×List Int×Int×Int×List Act)⊕(List Int×Int×Int×List Act)) :=
 cond (decide (i8>0))
 ((eH (b0,b1_1,b2) b1).bind λt20 =>
 (vS out7 [t20.2]).bind λzs22 =>
 some (.inl (vA (i8-1),t20.1.1,t20.1.2.1,t20.1.2.2,zs22)))
 (some (.inr (b0,b1_1,b2,out7)))
def fQ (c0:vM) (b1:vw) (most2:Int):Option (vM×List Act) :=
 (aa c0 most2).bind λt12 =>
 (loop (λz=>eI b1 z.1 z.2.1 z.2.2.1 z.2.2.2.1 z.2.2.2.2) (t12.2,t12.1.1,t12.1.2.1,t12.1.2.2,([]:List Act))).bind λd =>
 some ((d.1,d.2.1,d.2.2.1),d.2.2.2)
def ml:FL:=(145,⟨[.ptr wW none,.val true vN false,.val false vG false],[.val false (.one (.sl Ai)) none],λa=>fQ a.1 a.2.1 a.2.2⟩)::mj
theorem so:Gd ml:=vH sn 145 Tryz.f145 [(0,⟨⟨[(7,false,[.own 1000000000]),(8,false,[dI])],[(1,.box [.dat (.sl (.one (.int .u8))),dI,dI]),(1000000000,.root Ai false)]⟩,
 ⟨[(7,false,[.own 1000000300])],[(1,.box [.dat (.sl (.one (.int .u8))),dI,dI]),(1000000300,.root Ai false)]⟩,none⟩)] Tryz.func145
def ii (code0:List Int):Option (vO×List Act) :=
 (ed code0).bind λt7 =>
 (eG t7 2).bind λt9 =>
 (bj code0 14).bind λt15 =>
 (fQ t9.1 (t9.2.1,t9.2.2.1,t9.2.2.2.1,t9.2.2.2.2.1,t9.2.2.2.2.2.1,t9.2.2.2.2.2.2.1,t9.2.2.2.2.2.2.2.1,t9.2.2.2.2.2.2.2.2.1,t9.2.2.2.2.2.2.2.2.2.1,t9.2.2.2.2.2.2.2.2.2.2.1,t9.2.2.2.2.2.2.2.2.2.2.2.1) (vA (6+t15))).bind λt17 =>
 some (t9.2,t17.2)
def mn:FL:=(59,⟨[.val false xu false],[.val true wO none,.val false (.one (.sl Ai)) none],λa=>ii a⟩)::ml
theorem sq:Gd mn:=vH so 59 Tryz.f59 [] Tryz.func59
def bY (a0:vO) (x1:Act):Option (vO×(List wF)×List wU) :=
 (dy a0).bind λt11 =>
 (eJ a0).bind λt13 =>
 cond (!t13)
 (some (t11,[],[]))
 ((bh t11 x1).bind λt18 =>
 some t18)
def mo:FL:=(61,⟨[.val true wO false,.val true Ai false],[.val true wO (some true),.val false (.one (.sl Ah)) (some true),.val false (.one (.sl zw)) none],λa=>bY a.1 a.2⟩)::mn
theorem sr:Gd mo:=vH sq 61 Tryz.f61 [] Tryz.func61
def ij (l1:List Act) (t19:Int) (b0:Int) (b1:List UInt8) (b6:Int) (b7:Int) (b8:Int) (b9:Int) (b10:Int) (b11:List UInt8) (b13:Int) (b14:Int) (outs8:List wF) (dones9:List wU) (b2:List Pt) (b3:List vD) (b4:List vP) (b5:List Int) (b12:List wM):Option ((Int×Int×List UInt8×Int×Int×Int×Int×Int×List UInt8×Int×Int×List wF×List wU×List Pt×List vD×List vP×List Int×List wM)⊕(Int×List UInt8×Int×Int×Int×Int×Int×List UInt8×Int×Int×List wF×List wU×List Pt×List vD×List vP×List Int×List wM)) :=
 cond (decide (t19<(l1.length:Int)))
 ((at? l1 t19).bind λx22 =>
 cond (decide (t19>=60))
 (some (.inr (b0,b1,b6,b7,b8,b9,b10,b11,b13,b14,outs8,dones9,b2,b3,b4,b5,b12)))
 ((bY (b0,b1,b2,b3,b4,b5,b6,b7,b8,b9,b10,b11,b12,b13,b14) x22).bind λt29 =>
 (vS outs8 t29.2.1).bind λzs36 =>
 (vS dones9 t29.2.2).bind λzs39 =>
 some (.inl (vA (t19+1),t29.1.1,t29.1.2.1,t29.1.2.2.2.2.2.2.1,t29.1.2.2.2.2.2.2.2.1,t29.1.2.2.2.2.2.2.2.2.1,t29.1.2.2.2.2.2.2.2.2.2.1,t29.1.2.2.2.2.2.2.2.2.2.2.1,t29.1.2.2.2.2.2.2.2.2.2.2.2.1,t29.1.2.2.2.2.2.2.2.2.2.2.2.2.2.1,t29.1.2.2.2.2.2.2.2.2.2.2.2.2.2.2,zs36,zs39,t29.1.2.2.1,t29.1.2.2.2.1,t29.1.2.2.2.2.1,t29.1.2.2.2.2.2.1,t29.1.2.2.2.2.2.2.2.2.2.2.2.2.1))))
 (some (.inr (b0,b1,b6,b7,b8,b9,b10,b11,b13,b14,outs8,dones9,b2,b3,b4,b5,b12)))
def il (a0:vO) (l1:List Act):Option (vO×(List wF)×List wU) :=
 (dy a0).bind λt16 =>
 (loop (λz=>ij l1 z.1 z.2.1 z.2.2.1 z.2.2.2.1 z.2.2.2.2.1 z.2.2.2.2.2.1 z.2.2.2.2.2.2.1 z.2.2.2.2.2.2.2.1 z.2.2.2.2.2.2.2.2.1 z.2.2.2.2.2.2.2.2.2.1 z.2.2.2.2.2.2.2.2.2.2.1 z.2.2.2.2.2.2.2.2.2.2.2.1 z.2.2.2.2.2.2.2.2.2.2.2.2.1 z.2.2.2.2.2.2.2.2.2.2.2.2.2.1 z.2.2.2.2.2.2.2.2.2.2.2.2.2.2.1 z.2.2.2.2.2.2.2.2.2.2.2.2.2.2.2.1 z.2.2.2.2.2.2.2.2.2.2.2.2.2.2.2.2.1 z.2.2.2.2.2.2.2.2.2.2.2.2.2.2.2.2.2) (0,t16.1,t16.2.1,t16.2.2.2.2.2.2.1,t16.2.2.2.2.2.2.2.1,t16.2.2.2.2.2.2.2.2.1,t16.2.2.2.2.2.2.2.2.2.1,t16.2.2.2.2.2.2.2.2.2.2.1,t16.2.2.2.2.2.2.2.2.2.2.2.1,t16.2.2.2.2.2.2.2.2.2.2.2.2.2.1,t16.2.2.2.2.2.2.2.2.2.2.2.2.2.2,[],[],t16.2.2.1,t16.2.2.2.1,t16.2.2.2.2.1,t16.2.2.2.2.2.1,t16.2.2.2.2.2.2.2.2.2.2.2.2.1)).bind λd =>
 some ((d.1,d.2.1,d.2.2.2.2.2.2.2.2.2.2.2.2.1,d.2.2.2.2.2.2.2.2.2.2.2.2.2.1,d.2.2.2.2.2.2.2.2.2.2.2.2.2.2.1,d.2.2.2.2.2.2.2.2.2.2.2.2.2.2.2.1,d.2.2.1,d.2.2.2.1,d.2.2.2.2.1,d.2.2.2.2.2.1,d.2.2.2.2.2.2.1,d.2.2.2.2.2.2.2.1,d.2.2.2.2.2.2.2.2.2.2.2.2.2.2.2.2,d.2.2.2.2.2.2.2.2.1,d.2.2.2.2.2.2.2.2.2.1),d.2.2.2.2.2.2.2.2.2.2.1,d.2.2.2.2.2.2.2.2.2.2.2.1)
def mp:FL:=(60,⟨[.val true wO false,.val false (.one (.sl Ai)) false],[.val true wO (some true),.val false (.one (.sl Ah)) (some true),.val false (.one (.sl zw)) none],λa=>il a.1 a.2⟩)::mo
theorem su:Gd mp:=vH sr 60 Tryz.f60 [(0,⟨⟨[(8,false,[.own 1000000000]),(9,false,[.own 1000000001]),(19,false,[dI])],[(265216,.box [dI,dS,.own 1000000002,.own 1000000003,.own 1000000004,.own 1000000005,dI,dI,dI,dI,dI,dS,.own 1000000006,dI,dI]),(1000000000,.root Ah true),(1000000001,.root zw false),(1000000002,.root xS true),(1000000003,.root vX true),(1000000004,.root wL true),(1000000005,.root vG true),(1000000006,.root A0 true)]⟩,
 ⟨[(8,false,[.own 1000000300]),(9,false,[.own 1000000301])],[(265216,.box [dI,dS,.own 1000000302,.own 1000000303,.own 1000000304,.own 1000000305,dI,dI,dI,dI,dI,dS,.own 1000000306,dI,dI]),(1000000300,.root Ah true),(1000000301,.root zw false),(1000000302,.root xS true),(1000000303,.root vX true),(1000000304,.root wL true),(1000000305,.root vG true),(1000000306,.root A0 true)]⟩,none⟩)] Tryz.func60
def ip (a0:ym) (b1:ym):Option Bool :=
 (cond (a0.1==b1.1) (some (a0.2.1==b1.2.1)) (some false)).bind λt16 =>
 (cond t16 (some (a0.2.2.1==b1.2.2.1)) (some false)).bind λt23 =>
 (cond t23 (some ((xc a0.2.2.2)==(xc b1.2.2.2))) (some false)).bind λt32 =>
 some t32
def mq:FL:=(146,⟨[.val true zn false,.val true zn false],[.val false wD (some true)],λa=>ip a.1 a.2⟩)::mp
theorem sv:Gd mq:=vH su 146 Tryz.f146 [] Tryz.func146
def eK (a0:List wF) (b1:List wF) (i5:Int):Option (Int⊕(Unit⊕Bool)) :=
 cond (decide (i5<(a0.length:Int)))
 ((at? a0 i5).bind λx19 =>
 (at? b1 i5).bind λx24 =>
 (cond (x19.1 != x24.1)
 (some true)
 ((at? a0 i5).bind λx31 =>
 (at? b1 i5).bind λx36 =>
 (ip x31.2 x36.2).bind λt39 =>
 some (!t39))).bind λt41 =>
 cond t41 (some (.inr (.inr false))) (some (.inl (vA (i5+1)))))
 (some (.inr (.inl ())))
def eL (a0:List wF) (b1:List wF):Option Bool :=
 cond ((a0.length:Int) != (b1.length:Int))
 (some false)
 ((loop (λz=>eK a0 b1 z) 0).bind (Sum.elim (λd =>
 some true) (λr=>some r)))
def mr:FL:=(62,⟨[.val false (.one (.sl Ah)) false,.val false (.one (.sl Ah)) false],[.val false wD (some true)],λa=>eL a.1 a.2⟩)::mq
theorem sw:Gd mr:=vH sv 62 Tryz.f62 [(0,⟨⟨(5,false,[dI])::us 29 12 [],[]⟩,
 ⟨[],[]⟩,some ⟨[(4,false,[dB])],[]⟩⟩)] Tryz.func62
def iq (code0:List Int):Option (vw×List Act) :=
 (ed code0).bind λt7 =>
 (fC t7).bind λt9 =>
 (bj code0 10).bind λt14 =>
 (fQ t9.1 t9.2 (vA (6+t14))).bind λt16 =>
 some (t9.2,t16.2)
def mt:FL:=(63,⟨[.val false xu false],[.val true vN none,.val false (.one (.sl Ai)) none],λa=>iq a⟩)::mr
theorem sx:Gd mt:=vH sw 63 Tryz.f63 [] Tryz.func63
def ir (code0:List Int):Option (vO×Act) :=
 (ed code0).bind λt8 =>
 (bj code0 10).bind λt11 =>
 (eG t8 t11).bind λt12 =>
 (eH t12.1 (t12.2.1,t12.2.2.1,t12.2.2.2.1,t12.2.2.2.2.1,t12.2.2.2.2.2.1,t12.2.2.2.2.2.2.1,t12.2.2.2.2.2.2.2.1,t12.2.2.2.2.2.2.2.2.1,t12.2.2.2.2.2.2.2.2.2.1,t12.2.2.2.2.2.2.2.2.2.2.1,t12.2.2.2.2.2.2.2.2.2.2.2.1)).bind λt16 =>
 (bn t16.1 10).bind λt18 =>
 cond t18.2
 ((aa t18.1 8).bind λt20 =>
 some (t12.2,(t20.2,t16.2.2.1,t16.2.2.2.1,t16.2.2.2.2.1,t16.2.2.2.2.2.1,t16.2.2.2.2.2.2.1,t16.2.2.2.2.2.2.2.1,t16.2.2.2.2.2.2.2.2.1,t16.2.2.2.2.2.2.2.2.2.1,t16.2.2.2.2.2.2.2.2.2.2.1,t16.2.2.2.2.2.2.2.2.2.2.2.1,t16.2.2.2.2.2.2.2.2.2.2.2.2.1,t16.2.2.2.2.2.2.2.2.2.2.2.2.2)))
 (some (t12.2,t16.2))
def mu:FL:=(65,⟨[.val false xu false],[.val true wO none,.val true Ai none],λa=>ir a⟩)::mt
theorem sy:Gd mu:=vH sx 65 Tryz.f65 [] Tryz.func65
def fR (a0:vO) (x1:Act):Option (vO×(List wF)×List wU) :=
 (cP a0).bind λt13 =>
 (cN a0).bind λt15 =>
 cond (!t15)
 (some (t13,([]:List wF),([]:List wU)))
 (cond (x1.1==1)
 ((bm a0 x1.2.2.2.1).bind λt27 =>
 some (t27,([]:List wF),([]:List wU)))
 (cond (x1.1==2)
 ((bq a0 x1.2.1).bind λt34 =>
 some (t34.1,([]:List wF),t34.2))
 (cond (x1.1==3)
 ((eM (a0.1,a0.2.1,a0.2.2.1,a0.2.2.2.1,a0.2.2.2.2.1,a0.2.2.2.2.2.1,a0.2.2.2.2.2.2.1,a0.2.2.2.2.2.2.2.1,a0.2.2.2.2.2.2.2.2.1,a0.2.2.2.2.2.2.2.2.2.1,a0.2.2.2.2.2.2.2.2.2.2.1) x1.2.1 (x1.2.2.2.2.1,x1.2.2.2.2.2.1,x1.2.2.2.2.2.2.1,x1.2.2.2.2.2.2.2.1)).bind λt46 =>
 some ((t46.1.1,t46.1.2.1,t46.1.2.2.1,t46.1.2.2.2.1,t46.1.2.2.2.2.1,t46.1.2.2.2.2.2.1,t46.1.2.2.2.2.2.2.1,t46.1.2.2.2.2.2.2.2.1,t46.1.2.2.2.2.2.2.2.2.1,t46.1.2.2.2.2.2.2.2.2.2.1,t46.1.2.2.2.2.2.2.2.2.2.2,t13.2.2.2.2.2.2.2.2.2.2.2.1,t13.2.2.2.2.2.2.2.2.2.2.2.2.1,t13.2.2.2.2.2.2.2.2.2.2.2.2.2.1,t13.2.2.2.2.2.2.2.2.2.2.2.2.2.2),t46.2,([]:List wU)))
 (cond (x1.1==4)
 (cond (x1.1==4)
 ((dz (a0.1,a0.2.1,a0.2.2.1,a0.2.2.2.1,a0.2.2.2.2.1,a0.2.2.2.2.2.1,a0.2.2.2.2.2.2.1,a0.2.2.2.2.2.2.2.1,a0.2.2.2.2.2.2.2.2.1,a0.2.2.2.2.2.2.2.2.2.1,a0.2.2.2.2.2.2.2.2.2.2.1) x1).bind λt57 =>
 some ((t57.1,t57.2.1,t57.2.2.1,t57.2.2.2.1,t57.2.2.2.2.1,t57.2.2.2.2.2.1,t57.2.2.2.2.2.2.1,t57.2.2.2.2.2.2.2.1,t57.2.2.2.2.2.2.2.2.1,t57.2.2.2.2.2.2.2.2.2.1,t57.2.2.2.2.2.2.2.2.2.2,t13.2.2.2.2.2.2.2.2.2.2.2.1,t13.2.2.2.2.2.2.2.2.2.2.2.2.1,t13.2.2.2.2.2.2.2.2.2.2.2.2.2.1,t13.2.2.2.2.2.2.2.2.2.2.2.2.2.2),([]:List wF),([]:List wU)))
 (some (t13,([]:List wF),([]:List wU))))
 (cond (x1.1==5)
 (cond (x1.1==5)
 ((dz (a0.1,a0.2.1,a0.2.2.1,a0.2.2.2.1,a0.2.2.2.2.1,a0.2.2.2.2.2.1,a0.2.2.2.2.2.2.1,a0.2.2.2.2.2.2.2.1,a0.2.2.2.2.2.2.2.2.1,a0.2.2.2.2.2.2.2.2.2.1,a0.2.2.2.2.2.2.2.2.2.2.1) x1).bind λt57_1 =>
 some ((t57_1.1,t57_1.2.1,t57_1.2.2.1,t57_1.2.2.2.1,t57_1.2.2.2.2.1,t57_1.2.2.2.2.2.1,t57_1.2.2.2.2.2.2.1,t57_1.2.2.2.2.2.2.2.1,t57_1.2.2.2.2.2.2.2.2.1,t57_1.2.2.2.2.2.2.2.2.2.1,t57_1.2.2.2.2.2.2.2.2.2.2,t13.2.2.2.2.2.2.2.2.2.2.2.1,t13.2.2.2.2.2.2.2.2.2.2.2.2.1,t13.2.2.2.2.2.2.2.2.2.2.2.2.2.1,t13.2.2.2.2.2.2.2.2.2.2.2.2.2.2),([]:List wF),([]:List wU)))
 (some (t13,([]:List wF),([]:List wU))))
 (cond (x1.1==6)
 ((dz (a0.1,a0.2.1,a0.2.2.1,a0.2.2.2.1,a0.2.2.2.2.1,a0.2.2.2.2.2.1,a0.2.2.2.2.2.2.1,a0.2.2.2.2.2.2.2.1,a0.2.2.2.2.2.2.2.2.1,a0.2.2.2.2.2.2.2.2.2.1,a0.2.2.2.2.2.2.2.2.2.2.1) x1).bind λt57_2 =>
 some ((t57_2.1,t57_2.2.1,t57_2.2.2.1,t57_2.2.2.2.1,t57_2.2.2.2.2.1,t57_2.2.2.2.2.2.1,t57_2.2.2.2.2.2.2.1,t57_2.2.2.2.2.2.2.2.1,t57_2.2.2.2.2.2.2.2.2.1,t57_2.2.2.2.2.2.2.2.2.2.1,t57_2.2.2.2.2.2.2.2.2.2.2,t13.2.2.2.2.2.2.2.2.2.2.2.1,t13.2.2.2.2.2.2.2.2.2.2.2.2.1,t13.2.2.2.2.2.2.2.2.2.2.2.2.2.1,t13.2.2.2.2.2.2.2.2.2.2.2.2.2.2),([]:List wF),([]:List wU)))
 (some (t13,([]:List wF),([]:List wU)))))))))
def mw:FL:=(66,⟨[.val true wO false,.val true Ai false],[.val true wO (some false),.val false (.one (.sl Ah)) (some false),.val false (.one (.sl zw)) (some false)],λa=>fR a.1 a.2⟩)::mu
theorem sA:Gd mw:=vH sy 66 Tryz.f66 [] Tryz.func66
def iu (l1:List Act) (i10:Int) (b0:Int) (b1:List UInt8) (b6:Int) (b7:Int) (b8:Int) (b9:Int) (b10:Int) (b11:List UInt8) (b13:Int) (b14:Int) (outs7:List wF) (done8:List wU) (b2:List Pt) (b3:List vD) (b4:List vP) (b5:List Int) (b12:List wM):Option ((Int×Int×List UInt8×Int×Int×Int×Int×Int×List UInt8×Int×Int×List wF×List wU×List Pt×List vD×List vP×List Int×List wM)⊕(Int×List UInt8×Int×Int×Int×Int×Int×List UInt8×Int×Int×List wF×List wU×List Pt×List vD×List vP×List Int×List wM)) :=
 (cond (decide (i10<(l1.length:Int))) (some (decide (i10<60))) (some false)).bind λt25 =>
 cond t25
 ((at? l1 i10).bind λx32 =>
 (fR (b0,b1,b2,b3,b4,b5,b6,b7,b8,b9,b10,b11,b12,b13,b14) x32).bind λt34 =>
 (vS outs7 t34.2.1).bind λzs41 =>
 (vS done8 t34.2.2).bind λzs44 =>
 some (.inl (vA (i10+1),t34.1.1,t34.1.2.1,t34.1.2.2.2.2.2.2.1,t34.1.2.2.2.2.2.2.2.1,t34.1.2.2.2.2.2.2.2.2.1,t34.1.2.2.2.2.2.2.2.2.2.1,t34.1.2.2.2.2.2.2.2.2.2.2.1,t34.1.2.2.2.2.2.2.2.2.2.2.2.1,t34.1.2.2.2.2.2.2.2.2.2.2.2.2.2.1,t34.1.2.2.2.2.2.2.2.2.2.2.2.2.2.2,zs41,zs44,t34.1.2.2.1,t34.1.2.2.2.1,t34.1.2.2.2.2.1,t34.1.2.2.2.2.2.1,t34.1.2.2.2.2.2.2.2.2.2.2.2.2.1)))
 (some (.inr (b0,b1,b6,b7,b8,b9,b10,b11,b13,b14,outs7,done8,b2,b3,b4,b5,b12)))
def iv (a0:vO) (l1:List Act):Option (vO×(List wF)×List wU) :=
 (cP a0).bind λt17 =>
 (loop (λz=>iu l1 z.1 z.2.1 z.2.2.1 z.2.2.2.1 z.2.2.2.2.1 z.2.2.2.2.2.1 z.2.2.2.2.2.2.1 z.2.2.2.2.2.2.2.1 z.2.2.2.2.2.2.2.2.1 z.2.2.2.2.2.2.2.2.2.1 z.2.2.2.2.2.2.2.2.2.2.1 z.2.2.2.2.2.2.2.2.2.2.2.1 z.2.2.2.2.2.2.2.2.2.2.2.2.1 z.2.2.2.2.2.2.2.2.2.2.2.2.2.1 z.2.2.2.2.2.2.2.2.2.2.2.2.2.2.1 z.2.2.2.2.2.2.2.2.2.2.2.2.2.2.2.1 z.2.2.2.2.2.2.2.2.2.2.2.2.2.2.2.2.1 z.2.2.2.2.2.2.2.2.2.2.2.2.2.2.2.2.2) (0,t17.1,t17.2.1,t17.2.2.2.2.2.2.1,t17.2.2.2.2.2.2.2.1,t17.2.2.2.2.2.2.2.2.1,t17.2.2.2.2.2.2.2.2.2.1,t17.2.2.2.2.2.2.2.2.2.2.1,t17.2.2.2.2.2.2.2.2.2.2.2.1,t17.2.2.2.2.2.2.2.2.2.2.2.2.2.1,t17.2.2.2.2.2.2.2.2.2.2.2.2.2.2,([]:List wF),([]:List wU),t17.2.2.1,t17.2.2.2.1,t17.2.2.2.2.1,t17.2.2.2.2.2.1,t17.2.2.2.2.2.2.2.2.2.2.2.2.1)).bind λd =>
 some ((d.1,d.2.1,d.2.2.2.2.2.2.2.2.2.2.2.2.1,d.2.2.2.2.2.2.2.2.2.2.2.2.2.1,d.2.2.2.2.2.2.2.2.2.2.2.2.2.2.1,d.2.2.2.2.2.2.2.2.2.2.2.2.2.2.2.1,d.2.2.1,d.2.2.2.1,d.2.2.2.2.1,d.2.2.2.2.2.1,d.2.2.2.2.2.2.1,d.2.2.2.2.2.2.2.1,d.2.2.2.2.2.2.2.2.2.2.2.2.2.2.2.2,d.2.2.2.2.2.2.2.2.1,d.2.2.2.2.2.2.2.2.2.1),d.2.2.2.2.2.2.2.2.2.2.1,d.2.2.2.2.2.2.2.2.2.2.2.1)
def sB:FL:=(67,⟨[.val true wO false,.val false (.one (.sl Ai)) false],[.val true wO (some false),.val false (.one (.sl Ah)) (some false),.val false (.one (.sl zw)) (some false)],λa=>iv a.1 a.2⟩)::mw
theorem sC:Gd sB:=vH sA 67 Tryz.f67 [(0,⟨⟨[(7,false,[.own 1000000000]),(8,false,[.own 1000000001]),(10,false,[dI]),(23,false,[.undef]),(24,false,[.undef])],[(789504,.box [dI,dS,.own 1000000002,.own 1000000003,.own 1000000004,.own 1000000005,dI,dI,dI,dI,dI,dS,.own 1000000006,dI,dI]),(1000000000,.root Ah false),(1000000001,.root zw false),(1000000002,.root xS false),(1000000003,.root vX false),(1000000004,.root wL false),(1000000005,.root vG false),(1000000006,.root A0 false)]⟩,
 ⟨[(7,false,[.own 1000000300]),(8,false,[.own 1000000301])],[(789504,.box [dI,dS,.own 1000000302,.own 1000000303,.own 1000000304,.own 1000000305,dI,dI,dI,dI,dI,dS,.own 1000000306,dI,dI]),(1000000300,.root Ah false),(1000000301,.root zw false),(1000000302,.root xS false),(1000000303,.root vX false),(1000000304,.root wL false),(1000000305,.root vG false),(1000000306,.root A0 false)]⟩,none⟩)] Tryz.func67
def Cj (p0:List Int):Option Bool :=
 (jt p0).bind λt22 =>
 cond t22
 (some true)
 ((ir p0).bind λt25 =>
 (bY t25.1 t25.2).bind λt31 =>
 (fR t25.1 t25.2).bind λt38 =>
 (ii p0).bind λt44 =>
 (il t44.1 t44.2).bind λt50 =>
 (iv t44.1 t44.2).bind λt57 =>
 (iq p0).bind λt63 =>
 (dZ t31.1 t38.1).bind λt68 =>
 (cond t68
 ((eL t31.2.1 t38.2.1).bind λt72 =>
 some t72)
 (some false)).bind λt73 =>
 (cond t73
 ((ea t31.2.2 t38.2.2).bind λt77 =>
 some t77)
 (some false)).bind λt78 =>
 (cond t78
 ((dZ t50.1 t57.1).bind λt82 =>
 some t82)
 (some false)).bind λt83 =>
 (cond t83
 ((eL t50.2.1 t57.2.1).bind λt87 =>
 some t87)
 (some false)).bind λt88 =>
 (cond t88
 ((ea t50.2.2 t57.2.2).bind λt92 =>
 some t92)
 (some false)).bind λt93 =>
 (cond t93
 ((gA t63.1 t63.2).bind λt97 =>
 (iw t63.1 t63.2).bind λt100 =>
 (cL t97 t100).bind λt101 =>
 some t101)
 (some false)).bind λt102 =>
 some t102)
def Dc:Fn:=⟨[.val false xu false],[.val false wD (some true)],λa=>Cj a⟩
theorem m_laws_FnActsBent:Eg Tryz.prog 9 Dc:=Uq sC 9 Tryz.f9 [] Dc Tryz.func9
def eN (a0:vO) (k1:Int):Option (vO×List wU) :=
 (dy a0).bind λt9 =>
 (eJ a0).bind λt11 =>
 (cond (!t11)
 (some true)
 ((ac k1 0 (vA ((a0.2.2.2.2.2.2.2.2.2.2.2.2.1.length:Int)-1))).bind λt19 =>
 some (!t19))).bind λt21 =>
 cond t21
 (some (t9,[]))
 ((dU t9 k1).bind λt24 =>
 some t24)
end
end Go.V.W

