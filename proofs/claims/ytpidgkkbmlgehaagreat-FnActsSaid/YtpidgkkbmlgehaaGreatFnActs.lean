/- The law FnActs: part of the proof that for every input it returns true. No condition. -/
import Derived.Test.YtpidgkkbmlgehaaGreatFnActsP1
set_option linter.unusedVariables false
set_option linter.unusedSimpArgs false
namespace Go.V.W
open Go.Proofs
noncomputable section
def js:FL:=(288,⟨[.val false uI false],[.val false vr (some true)],λa=>iO a⟩)::jt
theorem oX:Gd js:=uK oY 288 Tryz.f288 [] Tryz.func288
def gp (p0:v9) (t3:Int):Option (Int⊕(Unit⊕Bool)) :=
 cond (decide (t3<(p0.2.2.2.2.length:Int)))
 ((at? p0.2.2.2.2 t3).bind λx14 =>
 (bC x14.1).bind λt17 =>
 (cond (!t17)
 (some true)
 ((at? p0.2.2.2.2 t3).bind λx23 =>
 (bj x23.2).bind λt26 =>
 some (!t26))).bind λt28 =>
 cond t28 (some (.inr (.inr false))) (some (.inl (uB (t3+1)))))
 (some (.inr (.inl ())))
def bD (p0:v9):Option Bool :=
 (loop (λz=>gp p0 z) 0).bind (Sum.elim (λd =>
 (cond (p0.1 != 162) (some (p0.1 != 165)) (some false)).bind λt36 =>
 (cond t36
 ((cond (p0.2.2.1 != 0) (some true) (some (p0.2.2.2.1 != 0))).bind λt45 =>
 some t45)
 (some false)).bind λt46 =>
 cond t46
 (some false)
 ((iO p0.1).bind λt49 =>
 (cond t49
 ((aw p0.2.1).bind λt53 =>
 some (t53==p0.2.1))
 (some false)).bind λt57 =>
 (cond t57
 ((ae p0.2.2.1 0 1000).bind λt61 =>
 some t61)
 (some false)).bind λt62 =>
 (cond t62
 ((ae p0.2.2.2.1 0 1000).bind λt66 =>
 some t66)
 (some false)).bind λt67 =>
 (cond t67 (some (decide ((p0.2.2.2.2.length:Int)<=10))) (some false)).bind λt73 =>
 some t73)) (λr=>some r))
def ju:FL:=(174,⟨[.val true wQ false],[.val false vr (some true)],λa=>bD a⟩)::js
theorem oZ:Gd ju:=uK oX 174 Tryz.f174 [(0,⟨⟨(3,false,[dI])::us 20 8 [],[]⟩,
 ⟨[],[]⟩,some ⟨[(2,false,[dB])],[]⟩⟩)] Tryz.func174
def iP (p0:v9):Option Bool :=
 (bD p0).bind λt4 =>
 (cond t4 (some (p0.1 != 162)) (some false)).bind λt9 =>
 some t9
def jv:FL:=(246,⟨[.val true wQ false],[.val false vr (some true)],λa=>iP a⟩)::ju
theorem p5:Gd jv:=uK oZ 246 Tryz.f246 [] Tryz.func246
def eY (j0:vF) (last1:Int):Option Bool :=
 (ae j0.1 1 last1).bind λt8 =>
 (cond (!t8)
 (some true)
 ((ae j0.2.2.1 0 2).bind λt13 =>
 some (!t13))).bind λt15 =>
 (cond t15
 (some true)
 ((ae j0.2.2.2.2.2.2.2.2.2.2.2.2.2.2.2.2.2.2.2.2 0 3).bind λt19 =>
 some (!t19))).bind λt21 =>
 (cond t21
 (some true)
 ((ae j0.2.2.2.2.2.2.2.2.2.2.2.2.2.2.2.2.2.2.2.1 0 (j0.2.2.2.2.2.2.2.1.length:Int)).bind λt29 =>
 some (!t29))).bind λt31 =>
 cond t31
 (some false)
 ((cond (j0.2.2.1==0)
 (some true)
 ((iP (j0.2.2.2.1,j0.2.2.2.2.1,j0.2.2.2.2.2.1,j0.2.2.2.2.2.2.1,j0.2.2.2.2.2.2.2.1)).bind λt38 =>
 (cond t38
 ((aN (j0.2.2.2.2.2.2.2.2.1,j0.2.2.2.2.2.2.2.2.2.1,j0.2.2.2.2.2.2.2.2.2.2.1,j0.2.2.2.2.2.2.2.2.2.2.2.1,j0.2.2.2.2.2.2.2.2.2.2.2.2.1,j0.2.2.2.2.2.2.2.2.2.2.2.2.2.1,j0.2.2.2.2.2.2.2.2.2.2.2.2.2.2.1,j0.2.2.2.2.2.2.2.2.2.2.2.2.2.2.2.1,j0.2.2.2.2.2.2.2.2.2.2.2.2.2.2.2.2.1,j0.2.2.2.2.2.2.2.2.2.2.2.2.2.2.2.2.2.1,j0.2.2.2.2.2.2.2.2.2.2.2.2.2.2.2.2.2.2.1)).bind λt42 =>
 some t42)
 (some false)).bind λt43 =>
 some t43)).bind λt44 =>
 some t44)
def jw:FL:=(144,⟨[.val true z6 false,.val false uI false],[.val false vr (some true)],λa=>eY a.1 a.2⟩)::jv
theorem p6:Gd jw:=uK p5 144 Tryz.f144 [] Tryz.func144
def iQ (p0:uN) (t3:Int):Option (Int⊕(Unit⊕Bool)) :=
 cond (decide (t3<(p0.2.2.2.2.2.2.2.2.2.2.2.2.1.length:Int)))
 ((at? p0.2.2.2.2.2.2.2.2.2.2.2.2.1 t3).bind λx14 =>
 (eY x14 p0.2.2.2.2.2.2.2.2.2.2.2.2.2.2).bind λt18 =>
 (cond (!t18)
 (some true)
 ((cond (decide (t3>0))
 ((at? p0.2.2.2.2.2.2.2.2.2.2.2.2.1 (uB (t3-1))).bind λx28 =>
 (at? p0.2.2.2.2.2.2.2.2.2.2.2.2.1 t3).bind λx34 =>
 some (decide (x28.1>=x34.1)))
 (some false)).bind λt38 =>
 some t38)).bind λt39 =>
 cond t39 (some (.inr (.inr false))) (some (.inl (uB (t3+1)))))
 (some (.inr (.inl ())))
def dy (p0:uN):Option Bool :=
 (loop (λz=>iQ p0 z) 0).bind (Sum.elim (λd =>
 (aN (p0.1,p0.2.1,p0.2.2.1,p0.2.2.2.1,p0.2.2.2.2.1,p0.2.2.2.2.2.1,p0.2.2.2.2.2.2.1,p0.2.2.2.2.2.2.2.1,p0.2.2.2.2.2.2.2.2.1,p0.2.2.2.2.2.2.2.2.2.1,p0.2.2.2.2.2.2.2.2.2.2.1)).bind λt42 =>
 (cond t42
 (some (decide ((p0.2.2.2.2.2.2.2.2.2.2.2.1.length:Int)<=20)))
 (some false)).bind λt48 =>
 (cond t48
 (some (decide ((p0.2.2.2.2.2.2.2.2.2.2.2.2.1.length:Int)<=6)))
 (some false)).bind λt54 =>
 (cond t54
 ((ae p0.2.2.2.2.2.2.2.2.2.2.2.2.2.1 0 1000000).bind λt58 =>
 some t58)
 (some false)).bind λt59 =>
 (cond t59
 ((ae p0.2.2.2.2.2.2.2.2.2.2.2.2.2.2 0 1000000).bind λt63 =>
 some t63)
 (some false)).bind λt64 =>
 some t64) (λr=>some r))
def jx:FL:=(57,⟨[.val true vO false],[.val false vr (some true)],λa=>dy a⟩)::jw
theorem p7:Gd jx:=uK p6 57 Tryz.f57 [(0,⟨⟨(3,false,[dI])::us 21 18 [],[]⟩,
 ⟨[],[]⟩,some ⟨[(2,false,[dB])],[]⟩⟩)] Tryz.func57
def bR (l0:List uF):Option (List uF) :=
 (uV ([]:List uF) l0).bind λzs5 =>
 some zs5
def jy:FL:=(175,⟨[.val false (.one (.sl uY)) false],[.val false (.one (.sl uY)) (some true)],λa=>bR a⟩)::jx
theorem p8:Gd jy:=uK p7 175 Tryz.f175 [] Tryz.func175
def aO (v0:vv):Option vv :=
 (uV ([]:List uQ) v0.1).bind λzs6 =>
 (uV ([]:List Int) v0.2).bind λzs10 =>
 some (zs6,zs10)
def jz:FL:=(176,⟨[.val true wL false],[.val true wL (some true)],λa=>aO a⟩)::jy
theorem p9:Gd jz:=uK p8 176 Tryz.f176 [] Tryz.func176
def ap (b0:uz):Option uz :=
 (uV ([]:List Pt) b0.2.2.1).bind λzs8 =>
 (bR b0.2.2.2.1).bind λt12 =>
 (aO (b0.2.2.2.2.1,b0.2.2.2.2.2.1)).bind λt16 =>
 some (b0.1,b0.2.1,zs8,t12,t16.1,t16.2,b0.2.2.2.2.2.2.1,b0.2.2.2.2.2.2.2.1,b0.2.2.2.2.2.2.2.2.1,b0.2.2.2.2.2.2.2.2.2.1,b0.2.2.2.2.2.2.2.2.2.2)
def jA:FL:=(83,⟨[.val true uR false],[.val true uR (some true)],λa=>ap a⟩)::jz
theorem pa:Gd jA:=uK p9 83 Tryz.f83 [] Tryz.func83
def dz (l0:List uC) (i4:Int) (out3:List uC):Option ((Int×List uC)⊕(List uC)) :=
 cond (decide (i4<(l0.length:Int)))
 ((at? l0 i4).bind λx15 =>
 (uV ([]:List Int) x15.2.2.2.2).bind λzs21 =>
 (at? l0 i4).bind λx27 =>
 (uV ([]:List Int) x27.1).bind λzs30 =>
 (uV out3 [(zs30,x15.2.1,x15.2.2.1,x15.2.2.2.1,zs21)]).bind λzs34 =>
 some (.inl (uB (i4+1),zs34)))
 (some (.inr out3))
def cu (l0:List uC):Option (List uC) :=
 (loop (λz=>dz l0 z.1 z.2) (0,([]:List uC))).bind λd =>
 some d
def jC:FL:=(85,⟨[.val false (.one (.sl uU)) false],[.val false (.one (.sl uU)) (some true)],λa=>cu a⟩)::jA
theorem pb:Gd jC:=uK pa 85 Tryz.f85 [(0,⟨⟨[(3,false,[.own 1000000000]),(4,false,[dI])],[(1000000000,.root uU true)]⟩,
 ⟨[(3,false,[.own 1000000300])],[(1000000300,.root uU true)]⟩,none⟩)] Tryz.func85
def eZ (p0:v9):Option v9 :=
 (cu p0.2.2.2.2).bind λt7 =>
 some (p0.1,p0.2.1,p0.2.2.1,p0.2.2.2.1,t7)
def jD:FL:=(241,⟨[.val true wQ false],[.val true wQ (some true)],λa=>eZ a⟩)::jC
theorem pc:Gd jD:=uK pb 241 Tryz.f241 [] Tryz.func241
def f6 (a0:uN) (i4:Int) (b0:Int) (b1:List UInt8) (b6:Int) (b7:Int) (b8:Int) (b9:Int) (b10:Int) (b11:List UInt8) (b13:Int) (b14:Int) (b12:List vF):Option ((Int×Int×List UInt8×Int×Int×Int×Int×Int×List UInt8×Int×Int×List vF)⊕(Int×List UInt8×Int×Int×Int×Int×Int×List UInt8×Int×Int×List vF)) :=
 cond (decide (i4<(a0.2.2.2.2.2.2.2.2.2.2.2.2.1.length:Int)))
 ((at? a0.2.2.2.2.2.2.2.2.2.2.2.2.1 i4).bind λx26 =>
 (uV ([]:List Int) x26.2.1).bind λzs31 =>
 (eZ (x26.2.2.2.1,x26.2.2.2.2.1,x26.2.2.2.2.2.1,x26.2.2.2.2.2.2.1,x26.2.2.2.2.2.2.2.1)).bind λt35 =>
 (ap (x26.2.2.2.2.2.2.2.2.1,x26.2.2.2.2.2.2.2.2.2.1,x26.2.2.2.2.2.2.2.2.2.2.1,x26.2.2.2.2.2.2.2.2.2.2.2.1,x26.2.2.2.2.2.2.2.2.2.2.2.2.1,x26.2.2.2.2.2.2.2.2.2.2.2.2.2.1,x26.2.2.2.2.2.2.2.2.2.2.2.2.2.2.1,x26.2.2.2.2.2.2.2.2.2.2.2.2.2.2.2.1,x26.2.2.2.2.2.2.2.2.2.2.2.2.2.2.2.2.1,x26.2.2.2.2.2.2.2.2.2.2.2.2.2.2.2.2.2.1,x26.2.2.2.2.2.2.2.2.2.2.2.2.2.2.2.2.2.2.1)).bind λt39 =>
 (uV b12 [(x26.1,zs31,x26.2.2.1,t35.1,t35.2.1,t35.2.2.1,t35.2.2.2.1,t35.2.2.2.2,t39.1,t39.2.1,t39.2.2.1,t39.2.2.2.1,t39.2.2.2.2.1,t39.2.2.2.2.2.1,t39.2.2.2.2.2.2.1,t39.2.2.2.2.2.2.2.1,t39.2.2.2.2.2.2.2.2.1,t39.2.2.2.2.2.2.2.2.2.1,t39.2.2.2.2.2.2.2.2.2.2,x26.2.2.2.2.2.2.2.2.2.2.2.2.2.2.2.2.2.2.2.1,x26.2.2.2.2.2.2.2.2.2.2.2.2.2.2.2.2.2.2.2.2)]).bind λzs45 =>
 some (.inl (uB (i4+1),b0,b1,b6,b7,b8,b9,b10,b11,b13,b14,zs45)))
 (some (.inr (b0,b1,b6,b7,b8,b9,b10,b11,b13,b14,b12)))
def f7 (a0:uN):Option uN :=
 (ap (a0.1,a0.2.1,a0.2.2.1,a0.2.2.2.1,a0.2.2.2.2.1,a0.2.2.2.2.2.1,a0.2.2.2.2.2.2.1,a0.2.2.2.2.2.2.2.1,a0.2.2.2.2.2.2.2.2.1,a0.2.2.2.2.2.2.2.2.2.1,a0.2.2.2.2.2.2.2.2.2.2.1)).bind λt8 =>
 (loop (λz=>f6 a0 z.1 z.2.1 z.2.2.1 z.2.2.2.1 z.2.2.2.2.1 z.2.2.2.2.2.1 z.2.2.2.2.2.2.1 z.2.2.2.2.2.2.2.1 z.2.2.2.2.2.2.2.2.1 z.2.2.2.2.2.2.2.2.2.1 z.2.2.2.2.2.2.2.2.2.2.1 z.2.2.2.2.2.2.2.2.2.2.2) (0,t8.1,t8.2.1,t8.2.2.2.2.2.2.1,t8.2.2.2.2.2.2.2.1,t8.2.2.2.2.2.2.2.2.1,t8.2.2.2.2.2.2.2.2.2.1,t8.2.2.2.2.2.2.2.2.2.2,a0.2.2.2.2.2.2.2.2.2.2.2.1,a0.2.2.2.2.2.2.2.2.2.2.2.2.2.1,a0.2.2.2.2.2.2.2.2.2.2.2.2.2.2,[])).bind λd =>
 some (d.1,d.2.1,t8.2.2.1,t8.2.2.2.1,t8.2.2.2.2.1,t8.2.2.2.2.2.1,d.2.2.1,d.2.2.2.1,d.2.2.2.2.1,d.2.2.2.2.2.1,d.2.2.2.2.2.2.1,d.2.2.2.2.2.2.2.1,d.2.2.2.2.2.2.2.2.2.2,d.2.2.2.2.2.2.2.2.1,d.2.2.2.2.2.2.2.2.2.1)
def jE:FL:=(139,⟨[.val true vO false],[.val true vO (some true)],λa=>f7 a⟩)::jD
theorem pf:Gd jE:=uK pc 139 Tryz.f139 [(0,⟨⟨[(4,false,[dI])],[(273408,.box [dI,dS,.same 265218,.same 265219,.same 265220,.same 265221,dI,dI,dI,dI,dI,dS,.own 1000000000,dI,dI]),(1000000000,.root z6 true)]⟩,
 ⟨[],[(273408,.box [dI,dS,.same 265218,.same 265219,.same 265220,.same 265221,dI,dI,dI,dI,dI,dS,.own 1000000300,dI,dI]),(1000000300,.root z6 true)]⟩,none⟩)] Tryz.func139
def bm (n0:Int):Option Int :=
 cond (decide (n0>=1000000)) (some n0) (some (uB (n0+1)))
def jF:FL:=(143,⟨[.val false uI false],[.val false uI (some true)],λa=>bm a⟩)::jE
theorem pj:Gd jF:=uK pf 143 Tryz.f143 [] Tryz.func143
def bn (a0:uN) (b1:List Int):Option uN :=
 (f7 a0).bind λt7 =>
 (dy a0).bind λt9 =>
 (cond (!t9)
 (some true)
 (some (decide ((a0.2.2.2.2.2.2.2.2.2.2.2.2.1.length:Int)>=6)))).bind λt16 =>
 (cond t16
 (some true)
 (some (decide (a0.2.2.2.2.2.2.2.2.2.2.2.2.2.2>=1000000)))).bind λt21 =>
 cond t21
 ((dy a0).bind λt23 =>
 cond t23
 ((bm a0.2.2.2.2.2.2.2.2.2.2.2.2.2.1).bind λt26 =>
 some (t7.1,t7.2.1,t7.2.2.1,t7.2.2.2.1,t7.2.2.2.2.1,t7.2.2.2.2.2.1,t7.2.2.2.2.2.2.1,t7.2.2.2.2.2.2.2.1,t7.2.2.2.2.2.2.2.2.1,t7.2.2.2.2.2.2.2.2.2.1,t7.2.2.2.2.2.2.2.2.2.2.1,t7.2.2.2.2.2.2.2.2.2.2.2.1,t7.2.2.2.2.2.2.2.2.2.2.2.2.1,t26,t7.2.2.2.2.2.2.2.2.2.2.2.2.2.2))
 (some t7))
 ((uV ([]:List Int) b1).bind λzs39 =>
 (uV t7.2.2.2.2.2.2.2.2.2.2.2.2.1 ([(uB (a0.2.2.2.2.2.2.2.2.2.2.2.2.2.2+1),zs39,0,0,0,0,0,[],0,[],[],[],[],[],0,0,0,0,0,0,0)])).bind λzs42 =>
 some (t7.1,t7.2.1,t7.2.2.1,t7.2.2.2.1,t7.2.2.2.2.1,t7.2.2.2.2.2.1,t7.2.2.2.2.2.2.1,t7.2.2.2.2.2.2.2.1,t7.2.2.2.2.2.2.2.2.1,t7.2.2.2.2.2.2.2.2.2.1,t7.2.2.2.2.2.2.2.2.2.2.1,t7.2.2.2.2.2.2.2.2.2.2.2.1,zs42,t7.2.2.2.2.2.2.2.2.2.2.2.2.2.1,uB (a0.2.2.2.2.2.2.2.2.2.2.2.2.2.2+1)))
def jG:FL:=(56,⟨[.val true vO false,.val false wv false],[.val true vO (some true)],λa=>bn a.1 a.2⟩)::jF
theorem pk:Gd jG:=uK pj 56 Tryz.f56 [] Tryz.func56
def bS (c0:uM):Option (uM×Int) :=
 let x3:=xO .i64 (NP .i64 ((uB ((uB (c0.2.2*6364136223846793005))+1442695040888963407)).fdiv (2^33)) ((uB ((uB (c0.2.2*6364136223846793005))+1442695040888963407)).fdiv (2^47))) 255
 cond (decide (c0.2.1<(c0.1.length:Int)))
 ((at? c0.1 c0.2.1).bind λx44 =>
 let x3_1:=xO .i64 (uB (x3+(uB (x44)))) 255
 some ((c0.1,uB (c0.2.1+1),uB ((uB (c0.2.2*6364136223846793005))+1442695040888963407)),x3_1))
 (some ((c0.1,c0.2.1,uB ((uB (c0.2.2*6364136223846793005))+1442695040888963407)),x3))
def jH:FL:=(190,⟨[.ptr vP none],[.val false uI (some true)],λa=>bS a⟩)::jG
theorem pm:Gd jH:=uK pk 190 Tryz.f190 [] Tryz.func190
def aa (c0:uM) (n1:Int):Option (uM×Int) :=
 cond (decide (n1<=0))
 (some (c0,0))
 (cond (decide (n1<=256))
 ((bS c0).bind λt13 =>
 (rem t13.2 n1).bind λt15 =>
 some (t13.1,t15))
 ((bS c0).bind λt17 =>
 (bS t17.1).bind λt19 =>
 (bS t19.1).bind λt21 =>
 (rem (uB ((uB ((uB (t17.2*65536))+(uB (t19.2*256))))+t21.2)) n1).bind λt30 =>
 some (t21.1,t30)))
def jI:FL:=(97,⟨[.ptr vP none,.val false uI false],[.val false uI (some true)],λa=>aa a.1 a.2⟩)::jH
theorem po:Gd jI:=uK pm 97 Tryz.f97 [] Tryz.func97
def bo (c0:uM) (n1:Int):Option (uM×Bool) :=
 (aa c0 n1).bind λt7 =>
 some (t7.1,t7.2==0)
def jJ:FL:=(100,⟨[.ptr vP none,.val false uI false],[.val false vr (some true)],λa=>bo a.1 a.2⟩)::jI
theorem pp:Gd jJ:=uK po 100 Tryz.f100 [] Tryz.func100
def af (c0:uM) (list1:List Int):Option (uM×Int) :=
 (aa c0 (list1.length:Int)).bind λt9 =>
 (at? list1 t9.2).bind λx10 =>
 some (t9.1,x10)
def jK:FL:=(138,⟨[.ptr vP none,.val false xk false],[.val false uI (some true)],λa=>af a.1 a.2⟩)::jJ
theorem pq:Gd jK:=uK pp 138 Tryz.f138 [] Tryz.func138
def bb (c0:uM) (list1:List (List UInt8)):Option (uM×List UInt8) :=
 (aa c0 (list1.length:Int)).bind λt9 =>
 (at? list1 t9.2).bind λx10 =>
 some (t9.1,x10)
def jL:FL:=(141,⟨[.ptr vP none,.val false (.one (.sl Iw)) false],[.val false Iw (some true)],λa=>bb a.1 a.2⟩)::jK
theorem pr:Gd jL:=uK pq 141 Tryz.f141 [] Tryz.func141
def dA (ports0:Int) (i5:Int) (b1:List Int):Option ((Int×List Int)⊕(List Int)) :=
 cond (decide (i5<ports0))
 ((uV b1 ([1]:List Int)).bind λzs27 =>
 some (.inl (uB (i5+1),zs27)))
 (some (.inr b1))
def f9 (ports0:Int):Option vv :=
 (ae ports0 1 6).bind λt7 =>
 cond (!t7)
 (some ([],[]))
 ((shl .i64 1 (IntKind.u64.wrap (ports0))).bind λt12 =>
 (loop (λz=>dA ports0 z.1 z.2) (0,[])).bind λd =>
 some ([(1,uB (t12-1),uB (t12-1))],d))
def jM:FL:=(265,⟨[.val false uI false],[.val true wL (some true)],λa=>f9 a⟩)::jL
theorem pu:Gd jM:=uK pr 265 Tryz.f265 [(0,⟨⟨[(5,false,[dI])],[(1054720,.box [.same 1052672,.own 1000000000]),(1000000000,.root uI true)]⟩,
 ⟨[],[(1054720,.box [.same 1052672,.own 1000000300]),(1000000300,.root uI true)]⟩,none⟩)] Tryz.func265
def dC (ports1:Int) (i6:Int) (b0:Int) (b1:List UInt8) (b6:Int) (b7:Int) (b8:Int) (b9:Int) (b10:Int) (b2:List Pt) (b3:List uF):Option ((Int×Int×List UInt8×Int×Int×Int×Int×Int×List Pt×List uF)⊕(Int×List UInt8×Int×Int×Int×Int×Int×List Pt×List uF)) :=
 cond (decide (i6<ports1))
 ((uV b2 [(false,1,false,0,0,0,0,0)]).bind λzs29 =>
 some (.inl (uB (i6+1),b0,b1,b6,b7,b8,b9,b10,zs29,b3)))
 (some (.inr (b0,b1,b6,b7,b8,b9,b10,b2,b3)))
def fa (id0:Int) (ports1:Int):Option uz :=
 (ae id0 1 99).bind λt8 =>
 (cond (!t8)
 (some true)
 ((ae ports1 1 6).bind λt12 =>
 some (!t12))).bind λt14 =>
 cond t14
 (some (0,[],[],[],[],[],0,0,0,0,0))
 ((f9 ports1).bind λt18 =>
 (loop (λz=>dC ports1 z.1 z.2.1 z.2.2.1 z.2.2.2.1 z.2.2.2.2.1 z.2.2.2.2.2.1 z.2.2.2.2.2.2.1 z.2.2.2.2.2.2.2.1 z.2.2.2.2.2.2.2.2.1 z.2.2.2.2.2.2.2.2.2) (0,id0,[],0,0,0,0,0,[],[])).bind λd =>
 some (d.1,d.2.1,d.2.2.2.2.2.2.2.1,d.2.2.2.2.2.2.2.2,t18.1,t18.2,d.2.2.1,d.2.2.2.1,d.2.2.2.2.1,d.2.2.2.2.2.1,d.2.2.2.2.2.2.1))
def jN:FL:=(158,⟨[.val false uI false,.val false uI false],[.val true uR (some true)],λa=>fa a.1 a.2⟩)::jM
theorem pv:Gd jN:=uK pu 158 Tryz.f158 [(0,⟨⟨[(6,false,[dI])],[(791552,.box [dI,dS,.own 1000000000,.own 1000000001,.same 789504,.same 789505,dI,dI,dI,dI,dI]),(1000000000,.root wX true),(1000000001,.root uY true)]⟩,
 ⟨[],[(791552,.box [dI,dS,.own 1000000300,.own 1000000301,.same 789504,.same 789505,dI,dI,dI,dI,dI]),(1000000300,.root wX true),(1000000301,.root uY true)]⟩,none⟩)] Tryz.func158
def dD (c0:uM):Option (uM×Ah) :=
 (aa c0 5).bind λt4 =>
 (af t4.1 ([0,1,2,5,10,100]:List Int)).bind λt8 =>
 (af t8.1 ([0,1,2,9,10]:List Int)).bind λt11 =>
 (aa t11.1 5).bind λt13 =>
 (aa t13.1 4).bind λt16 =>
 some (t16.1,(uB (1+t4.2),t8.2,t11.2,uB (1+t13.2),t16.2))
def jO:FL:=(252,⟨[.ptr vP none],[.val true zy (some true)],λa=>dD a⟩)::jN
theorem pw:Gd jO:=uK pv 252 Tryz.f252 [] Tryz.func252
def dE (n1:Int) (i6:Int) (b0:List Int) (b1:Int) (b2:Int) (out5:List Pt):Option ((Int×List Int×Int×Int×List Pt)⊕(List Int×Int×Int×List Pt)) :=
 cond (decide (i6<n1))
 ((bo (b0,b1,b2) 4).bind λt15 =>
 (af t15.1 ([1,1,2,5,10]:List Int)).bind λt19 =>
 cond (!t15.2)
 ((bo t19.1 4).bind λt25 =>
 cond (!t25.2)
 ((dD t25.1).bind λt30 =>
 (uV out5 [(!t15.2,t19.2,true,t30.2.1,t30.2.2.1,t30.2.2.2.1,t30.2.2.2.2.1,t30.2.2.2.2.2)]).bind λzs35 =>
 some (.inl (uB (i6+1),t30.1.1,t30.1.2.1,t30.1.2.2,zs35)))
 ((uV out5 [(!t15.2,t19.2,false,0,0,0,0,0)]).bind λzs35_1 =>
 some (.inl (uB (i6+1),t25.1.1,t25.1.2.1,t25.1.2.2,zs35_1))))
 ((uV out5 [(!t15.2,t19.2,false,0,0,0,0,0)]).bind λzs35_2 =>
 some (.inl (uB (i6+1),t19.1.1,t19.1.2.1,t19.1.2.2,zs35_2))))
 (some (.inr (b0,b1,b2,out5)))
def cw (c0:uM) (n1:Int):Option (uM×List Pt) :=
 (loop (λz=>dE n1 z.1 z.2.1 z.2.2.1 z.2.2.2.1 z.2.2.2.2) (0,c0.1,c0.2.1,c0.2.2,([]:List Pt))).bind λd =>
 some ((d.1,d.2.1,d.2.2.1),d.2.2.2)
def jQ:FL:=(159,⟨[.ptr vP none,.val false uI false],[.val false (.one (.sl wX)) (some true)],λa=>cw a.1 a.2⟩)::jO
theorem pz:Gd jQ:=uK pw 159 Tryz.f159 [(0,⟨⟨(5,false,[.own 1000000000])::(6,false,[dI])::us 24 3 [],[(1,.box [.dat (.sl (.one (.int .u8))),dI,dI]),(1000000000,.root wX true)]⟩,
 ⟨[(5,false,[.own 1000000300])],[(1,.box [.dat (.sl (.one (.int .u8))),dI,dI]),(1000000300,.root wX true)]⟩,none⟩)] Tryz.func159
def dG (x0:vv) (v1:vv):Option (vv×Bool) :=
 (aP x0 (v1.2.length:Int)).bind λt10 =>
 cond (!t10)
 ((aO v1).bind λt13 =>
 some (t13,false))
 (some (x0,true))
def jR:FL:=(331,⟨[.val true wL true,.val true wL false],[.val true wL (some true),.val false vr (some true)],λa=>dG a.1 a.2⟩)::jQ
theorem pA:Gd jR:=uK pz 331 Tryz.f331 [] Tryz.func331
def fb (v0:vv) (port1:Int) (id2:Int):Option (vv×Bool) :=
 (aP v0 (v0.2.length:Int)).bind λt13 =>
 (cond (!t13)
 (some true)
 ((ae port1 0 (uB ((v0.2.length:Int)-1))).bind λt21 =>
 some (!t21))).bind λt23 =>
 cond t23
 ((aO v0).bind λt25 =>
 some (t25,false))
 ((aO v0).bind λt27 =>
 (ix t27.2.length port1).bind λj32 =>
 (t27.2[j32]?).bind λx =>
 (dG (t27.1,t27.2.set j32 id2) v0).bind λt35 =>
 some t35)
def jS:FL:=(266,⟨[.val true wL false,.val false uI false,.val false uI false],[.val true wL (some true),.val false vr (some true)],λa=>fb a.1 a.2.1 a.2.2⟩)::jR
theorem pB:Gd jS:=uK pA 266 Tryz.f266 [] Tryz.func266
def fc (v0:vv) (id1:Int):Option (vv×Bool) :=
 (bp v0 id1).bind λt10 =>
 (aP v0 (v0.2.length:Int)).bind λt15 =>
 (cond (!t15) (some true) (some (decide (t10<0)))).bind λt20 =>
 cond t20
 ((aO v0).bind λt22 =>
 some (t22,false))
 ((aO v0).bind λt24 =>
 (cut v0.1 0 t10).bind λt29 =>
 (uV ([]:List uQ) t29).bind λzs30 =>
 (cut v0.1 (uB (t10+1)) (v0.1.length:Int)).bind λt35 =>
 (uV zs30 t35).bind λzs36 =>
 (dG (zs36,t24.2) v0).bind λt40 =>
 some t40)
def jT:FL:=(267,⟨[.val true wL false,.val false uI false],[.val true wL (some true),.val false vr (some true)],λa=>fc a.1 a.2⟩)::jS
theorem pC:Gd jT:=uK pB 267 Tryz.f267 [] Tryz.func267
def az (p0:vv) (i1:uQ) (t6:Bool) (t7:Int) (b0:List uQ):Option ((Bool×Int×List uQ)⊕(Bool×List uQ)) :=
 cond (decide (t7<(p0.1.length:Int)))
 ((cond (!t6)
 ((at? p0.1 t7).bind λx26 =>
 some (decide (x26.1>=i1.1)))
 (some false)).bind λt32 =>
 cond t32
 ((uV b0 [i1]).bind λzs37 =>
 (at? p0.1 t7).bind λx42 =>
 cond (x42.1 != i1.1)
 ((at? p0.1 t7).bind λx53 =>
 (uV zs37 [x53]).bind λzs56 =>
 some (.inl (true,uB (t7+1),zs56)))
 (some (.inl (true,uB (t7+1),zs37))))
 ((at? p0.1 t7).bind λx42_1 =>
 cond (x42_1.1 != i1.1)
 ((at? p0.1 t7).bind λx53_1 =>
 (uV b0 [x53_1]).bind λzs56_1 =>
 some (.inl (t6,uB (t7+1),zs56_1)))
 (some (.inl (t6,uB (t7+1),b0)))))
 (some (.inr (t6,b0)))
def aG (p0:vv) (i1:uQ):Option vv :=
 (uV ([]:List Int) p0.2).bind λzs11 =>
 (loop (λz=>az p0 i1 z.1 z.2.1 z.2.2) (false,0,[])).bind λd =>
 cond (!d.1)
 ((uV d.2 [i1]).bind λzs64 =>
 some (zs64,zs11))
 (some (d.2,zs11))
def jU:FL:=(298,⟨[.val true wL false,.val true vI false],[.val true wL (some true)],λa=>aG a.1 a.2⟩)::jT
theorem pD:Gd jU:=uK pC 298 Tryz.f298 [(0,⟨⟨(6,false,[dB])::(7,false,[dI])::us 23 9 [],[(268288,.box [.own 1000000000,.same 266240]),(1000000000,.root vI true)]⟩,
 ⟨[(6,false,[dB])],[(268288,.box [.own 1000000300,.same 266240]),(1000000300,.root vI true)]⟩,none⟩)] Tryz.func298
def fe (v0:vv) (r1:uQ):Option (vv×Bool) :=
 (aP v0 (v0.2.length:Int)).bind λt10 =>
 cond (!t10)
 ((aO v0).bind λt13 =>
 some (t13,false))
 ((aG v0 r1).bind λt16 =>
 (dG t16 v0).bind λt18 =>
 some t18)
def jV:FL:=(268,⟨[.val true wL false,.val true vI false],[.val true wL (some true),.val false vr (some true)],λa=>fe a.1 a.2⟩)::jU
theorem pE:Gd jV:=uK pD 268 Tryz.f268 [] Tryz.func268
def gq (c0:uM) (ports1:Int):Option (uM×uQ) :=
 (shl .i64 1 (IntKind.u64.wrap (ports1))).bind λt9 =>
 (aa c0 (uB ((uB (t9-1))+1))).bind λt14 =>
 (af t14.1 ([1,2,3,2]:List Int)).bind λt17 =>
 (aa t17.1 (uB ((uB (t9-1))+1))).bind λt23 =>
 some (t23.1,(t17.2,t14.2,xO .i64 t14.2 t23.2))
def jW:FL:=(269,⟨[.ptr vP none,.val false uI false],[.val true vI (some true)],λa=>gq a.1 a.2⟩)::jV
theorem pF:Gd jW:=uK pE 269 Tryz.f269 [] Tryz.func269
def dH (ports1:Int) (i6:Int) (b0:List Int) (b1:Int) (b2:Int) (b0_1:List uQ) (b1_1:List Int):Option ((Int×List Int×Int×Int×List uQ×List Int)⊕(List Int×Int×Int×List uQ×List Int)) :=
 cond (decide (i6>0))
 ((aa (b0,b1,b2) 4).bind λt16 =>
 cond (t16.2==0)
 ((aa t16.1 ports1).bind λt31 =>
 (aa t31.1 3).bind λt33 =>
 (fb (b0_1,b1_1) t31.2 (uB (1+t33.2))).bind λt35 =>
 some (.inl (uB (i6-1),t33.1.1,t33.1.2.1,t33.1.2.2,t35.1.1,t35.1.2)))
 (cond (t16.2==1)
 ((aa t16.1 2).bind λt43 =>
 (fc (b0_1,b1_1) (uB (2+t43.2))).bind λt45 =>
 some (.inl (uB (i6-1),t43.1.1,t43.1.2.1,t43.1.2.2,t45.1.1,t45.1.2)))
 ((gq t16.1 ports1).bind λt21 =>
 (fe (b0_1,b1_1) t21.2).bind λt22 =>
 some (.inl (uB (i6-1),t21.1.1,t21.1.2.1,t21.1.2.2,t22.1.1,t22.1.2)))))
 (some (.inr (b0,b1,b2,b0_1,b1_1)))
def cz (c0:uM) (ports1:Int):Option (uM×vv) :=
 (f9 ports1).bind λt8 =>
 (aa c0 6).bind λt10 =>
 (loop (λz=>dH ports1 z.1 z.2.1 z.2.2.1 z.2.2.2.1 z.2.2.2.2.1 z.2.2.2.2.2) (t10.2,t10.1.1,t10.1.2.1,t10.1.2.2,t8.1,t8.2)).bind λd =>
 some ((d.1,d.2.1,d.2.2.1),d.2.2.2)
def jX:FL:=(160,⟨[.ptr vP none,.val false uI false],[.val true wL (some true)],λa=>cz a.1 a.2⟩)::jW
theorem pG:Gd jX:=uK pF 160 Tryz.f160 [(0,⟨⟨[(6,false,[dI])],[(1,.box [.dat (.sl (.one (.int .u8))),dI,dI]),(265216,.box [.own 1000000000,.own 1000000001]),(1000000000,.root vI true),(1000000001,.root uI true)]⟩,
 ⟨[],[(1,.box [.dat (.sl (.one (.int .u8))),dI,dI]),(265216,.box [.own 1000000300,.own 1000000301]),(1000000300,.root vI true),(1000000301,.root uI true)]⟩,none⟩)] Tryz.func160
def aQ (l0:List uF) (tag1:Int) (mac2:Int) (i7:Int):Option (Int⊕(Unit⊕Int)) :=
 cond (decide (i7<(l0.length:Int)))
 ((at? l0 i7).bind λx16 =>
 (cond (x16.1==tag1)
 ((at? l0 i7).bind λx24 =>
 some (x24.2.1==mac2))
 (some false)).bind λt29 =>
 cond t29 (some (.inr (.inr i7))) (some (.inl (uB (i7+1)))))
 (some (.inr (.inl ())))
def bT (l0:List uF) (tag1:Int) (mac2:Int):Option Int :=
 (loop (λz=>aQ l0 tag1 mac2 z) 0).bind (Sum.elim (λd =>
 some (-1)) (λr=>some r))
def jY:FL:=(270,⟨[.val false (.one (.sl uY)) false,.val false uI false,.val false uI false],[.val false uI (some true)],λa=>bT a.1 a.2.1 a.2.2⟩)::jX
theorem pH:Gd jY:=uK pG 270 Tryz.f270 [(0,⟨⟨(7,false,[dI])::us 22 7 [],[]⟩,
 ⟨[],[]⟩,some ⟨[(6,false,[dI])],[]⟩⟩)] Tryz.func270
def cA (p0:List uF) (i1:uF) (t6:Bool) (t7:Int) (t5:List uF):Option ((Bool×Int×List uF)⊕(Bool×List uF)) :=
 cond (decide (t7<(p0.length:Int)))
 ((cond (!t6)
 ((at? p0 t7).bind λx20 =>
 (bU x20 i1.1 i1.2.1).bind λt26 =>
 some (!t26))
 (some false)).bind λt28 =>
 cond t28
 ((uV t5 [i1]).bind λzs32 =>
 (at? p0 t7).bind λx35 =>
 (cond (x35.1 != i1.1)
 (some true)
 ((at? p0 t7).bind λx44 =>
 some (x44.2.1 != i1.2.1))).bind λt50 =>
 cond t50
 ((at? p0 t7).bind λx54 =>
 (uV zs32 [x54]).bind λzs57 =>
 some (.inl (true,uB (t7+1),zs57)))
 (some (.inl (true,uB (t7+1),zs32))))
 ((at? p0 t7).bind λx35_1 =>
 (cond (x35_1.1 != i1.1)
 (some true)
 ((at? p0 t7).bind λx44_1 =>
 some (x44_1.2.1 != i1.2.1))).bind λt50_1 =>
 cond t50_1
 ((at? p0 t7).bind λx54_1 =>
 (uV t5 [x54_1]).bind λzs57_1 =>
 some (.inl (t6,uB (t7+1),zs57_1)))
 (some (.inl (t6,uB (t7+1),t5)))))
 (some (.inr (t6,t5)))
def ff (p0:List uF) (i1:uF):Option (List uF) :=
 (loop (λz=>cA p0 i1 z.1 z.2.1 z.2.2) (false,0,([]:List uF))).bind λd =>
 cond (!d.1)
 ((uV d.2 [i1]).bind λzs63 =>
 some zs63)
 (some d.2)
def jZ:FL:=(271,⟨[.val false (.one (.sl uY)) false,.val true uY false],[.val false (.one (.sl uY)) (some true)],λa=>ff a.1 a.2⟩)::jY
theorem pI:Gd jZ:=uK pH 271 Tryz.f271 [(0,⟨⟨(5,false,[.own 1000000000])::(6,false,[dB])::(7,false,[dI])::us 18 10 (us 42 8 []),[(1000000000,.root uY true)]⟩,
 ⟨[(5,false,[.own 1000000300]),(6,false,[dB])],[(1000000300,.root uY true)]⟩,none⟩)] Tryz.func271
def fg (l0:List uF) (tag1:Int) (mac2:Int) (port3:Int):Option (List uF) :=
 (bT l0 tag1 mac2).bind λt18 =>
 (cB l0).bind λt20 =>
 (cond (!t20)
 (some true)
 ((cC (tag1,mac2,port3,0,false)).bind λt24 =>
 some (!t24))).bind λt26 =>
 (cond t26
 (some true)
 ((cond (decide (t18>=0))
 ((at? l0 t18).bind λx33 =>
 some x33.2.2.2.2)
 (some false)).bind λt36 =>
 some t36)).bind λt37 =>
 (cond t37
 (some true)
 ((cond (decide (t18<0)) (some (decide ((l0.length:Int)>=12))) (some false)).bind λt45 =>
 some t45)).bind λt46 =>
 cond t46
 ((bR l0).bind λt48 =>
 some t48)
 ((ff l0 (tag1,mac2,port3,0,false)).bind λt51 =>
 some t51)
def kc:FL:=(161,⟨[.val false (.one (.sl uY)) false,.val false uI false,.val false uI false,.val false uI false],[.val false (.one (.sl uY)) (some true)],λa=>fg a.1 a.2.1 a.2.2.1 a.2.2.2⟩)::jZ
theorem pJ:Gd kc:=uK pI 161 Tryz.f161 [] Tryz.func161
def bE (c0:uM):Option (uM×Int) :=
 (af c0 ([11,12,13,14]:List Int)).bind λt5 =>
 some t5
def ke:FL:=(162,⟨[.ptr vP none],[.val false uI (some true)],λa=>bE a⟩)::kc
theorem pK:Gd ke:=uK pJ 162 Tryz.f162 [] Tryz.func162
def dJ (l0:List uF) (tag1:Int) (mac2:Int) (port3:Int):Option ((List uF)×Bool) :=
 (cB l0).bind λt16 =>
 (cond (!t16)
 (some true)
 ((cC (tag1,mac2,port3,0,true)).bind λt20 =>
 some (!t20))).bind λt22 =>
 (cond t22
 (some true)
 ((bT l0 tag1 mac2).bind λt27 =>
 (cond (decide (t27<0)) (some (decide ((l0.length:Int)>=12))) (some false)).bind λt33 =>
 some t33)).bind λt34 =>
 cond t34
 ((bR l0).bind λt36 =>
 some (t36,false))
 ((ff l0 (tag1,mac2,port3,0,true)).bind λt39 =>
 some (t39,true))
def kf:FL:=(163,⟨[.val false (.one (.sl uY)) false,.val false uI false,.val false uI false,.val false uI false],[.val false (.one (.sl uY)) (some true),.val false vr (some true)],λa=>dJ a.1 a.2.1 a.2.2.1 a.2.2.2⟩)::ke
theorem pL:Gd kf:=uK pK 163 Tryz.f163 [] Tryz.func163
def dK (t7:uM×Int) (t5:Int) (b0:List Int) (b1:Int) (b2:Int) (b0_1:Int) (b1_1:List UInt8) (b6:Int) (b7:Int) (b8:Int) (b9:Int) (b10:Int) (b3:List uF):Option ((Int×List Int×Int×Int×Int×List UInt8×Int×Int×Int×Int×Int×List uF)⊕(List Int×Int×Int×Int×List UInt8×Int×Int×Int×Int×Int×List uF)) :=
 cond (decide (t5>0))
 ((aa (b0,b1,b2) 3).bind λt35 =>
 (bE t35.1).bind λt38 =>
 (aa t38.1 (uB (1+t7.2))).bind λt41 =>
 (fg b3 (uB (1+t35.2)) t38.2 t41.2).bind λt42 =>
 some (.inl (uB (t5-1),t41.1.1,t41.1.2.1,t41.1.2.2,b0_1,b1_1,b6,b7,b8,b9,b10,t42)))
 (some (.inr (b0,b1,b2,b0_1,b1_1,b6,b7,b8,b9,b10,b3)))
def cD (p0:uM):Option (uM×uz) :=
 (aa p0 4).bind λt7 =>
 (aa t7.1 5).bind λt10 =>
 (fa (uB (1+t10.2)) (uB (1+t7.2))).bind λt13 =>
 (bb t10.1 ([[],[121,97,114,100],[98,49]]:List (List UInt8))).bind λt16 =>
 (cw t16.1 (uB (1+t7.2))).bind λt20 =>
 (cz t20.1 (uB (1+t7.2))).bind λt24 =>
 (aa t24.1 6).bind λt27 =>
 (loop (λz=>dK t7 z.1 z.2.1 z.2.2.1 z.2.2.2.1 z.2.2.2.2.1 z.2.2.2.2.2.1 z.2.2.2.2.2.2.1 z.2.2.2.2.2.2.2.1 z.2.2.2.2.2.2.2.2.1 z.2.2.2.2.2.2.2.2.2.1 z.2.2.2.2.2.2.2.2.2.2.1 z.2.2.2.2.2.2.2.2.2.2.2) (t27.2,t27.1.1,t27.1.2.1,t27.1.2.2,t13.1,t16.2,t13.2.2.2.2.2.2.1,t13.2.2.2.2.2.2.2.1,t13.2.2.2.2.2.2.2.2.1,t13.2.2.2.2.2.2.2.2.2.1,t13.2.2.2.2.2.2.2.2.2.2,t13.2.2.2.1)).bind λd =>
 (bo (d.1,d.2.1,d.2.2.1) 3).bind λt45 =>
 cond t45.2
 ((bE t45.1).bind λt50 =>
 (aa t50.1 (uB (1+t7.2))).bind λt53 =>
 (dJ d.2.2.2.2.2.2.2.2.2.2 1 t50.2 t53.2).bind λt54 =>
 (aa t53.1 5).bind λt59 =>
 (af t59.1 ([0,1,5,1000000]:List Int)).bind λt63 =>
 some (t63.1,(d.2.2.2.1,d.2.2.2.2.1,t20.2,t54.1,t24.2.1,t24.2.2,t59.2,d.2.2.2.2.2.2.1,d.2.2.2.2.2.2.2.1,d.2.2.2.2.2.2.2.2.1,t63.2)))
 ((aa t45.1 5).bind λt59_1 =>
 (af t59_1.1 ([0,1,5,1000000]:List Int)).bind λt63_1 =>
 some (t63_1.1,(d.2.2.2.1,d.2.2.2.2.1,t20.2,d.2.2.2.2.2.2.2.2.2.2,t24.2.1,t24.2.2,t59_1.2,d.2.2.2.2.2.2.1,d.2.2.2.2.2.2.2.1,d.2.2.2.2.2.2.2.2.1,t63_1.2)))
def kg:FL:=(74,⟨[.ptr vP none],[.val true uR (some true)],λa=>cD a⟩)::kf
theorem pM:Gd kg:=uK pL 74 Tryz.f74 [(0,⟨⟨[(5,false,[dI])],[(1,.box [.dat (.sl (.one (.int .u8))),dI,dI]),(530432,.box [dI,dS,.same 1051712,.own 1000000000,.same 1313856,.same 1313857,dI,dI,dI,dI,dI]),(1000000000,.root uY true)]⟩,
 ⟨[],[(1,.box [.dat (.sl (.one (.int .u8))),dI,dI]),(530432,.box [dI,dS,.same 1051712,.own 1000000300,.same 1313856,.same 1313857,dI,dI,dI,dI,dI]),(1000000300,.root uY true)]⟩,none⟩)] Tryz.func74
def dL (i4:Int) (b0:List Int) (b1:Int) (b2:Int) (out3:List Int):Option ((Int×List Int×Int×Int×List Int)⊕(List Int×Int×Int×List Int)) :=
 cond (decide (i4>0))
 ((af (b0,b1,b2) ([0,1,2,3,127,128,16384,100000]:List Int)).bind λt16 =>
 (uV out3 [t16.2]).bind λzs18 =>
 some (.inl (uB (i4-1),t16.1.1,t16.1.2.1,t16.1.2.2,zs18)))
 (some (.inr (b0,b1,b2,out3)))
def aH (c0:uM):Option (uM×List Int) :=
 (aa c0 6).bind λt7 =>
 (loop (λz=>dL z.1 z.2.1 z.2.2.1 z.2.2.2.1 z.2.2.2.2) (uB (1+t7.2),t7.1.1,t7.1.2.1,t7.1.2.2,([]:List Int))).bind λd =>
 some ((d.1,d.2.1,d.2.2.1),d.2.2.2)
def kh:FL:=(101,⟨[.ptr vP none],[.val false xk (some true)],λa=>aH a⟩)::kg
theorem pN:Gd kh:=uK pM 101 Tryz.f101 [(0,⟨⟨[(3,false,[.own 1000000000]),(4,false,[dI])],[(1,.box [.dat (.sl (.one (.int .u8))),dI,dI]),(1000000000,.root uI true)]⟩,
 ⟨[(3,false,[.own 1000000300])],[(1,.box [.dat (.sl (.one (.int .u8))),dI,dI]),(1000000300,.root uI true)]⟩,none⟩)] Tryz.func101
def ai (n0:Int):Option yj :=
 some (2,n0,[],[])
def ki:FL:=(197,⟨[.val false uI false],[.val true zz (some true)],λa=>ai a⟩)::kh
theorem pO:Gd ki:=uK pN 197 Tryz.f197 [] Tryz.func197
def cE (c0:uM):Option (uM×Int) :=
 (aa c0 1000).bind λt5 =>
 (af t5.1 [0,1,(-1),127,128,(-128),(-129),255,256,32767,32768,(-32769),8388608,2147483647,(-2147483648),2147483648,(-2147483649),9223372036854775807,(-9223372036854775808),t5.2]).bind λt7 =>
 some t7
def kj:FL:=(199,⟨[.ptr vP none],[.val false uI (some true)],λa=>cE a⟩)::ki
theorem pP:Gd kj:=uK pO 199 Tryz.f199 [] Tryz.func199
def aA (c0:uM):Option (uM×yj) :=
 (aa c0 6).bind λt4 =>
 cond (t4.2==0)
 (some (t4.1,(5,0,[],[])))
 (cond (t4.2==1)
 (cond (t4.2==1)
 ((cE t4.1).bind λt12 =>
 (aw t12.2).bind λt13 =>
 (ai t13).bind λt14 =>
 some (t12.1,t14))
 (cond (t4.2==3)
 ((bb t4.1 ([[],[97],[121,97,114,100],[0]]:List (List UInt8))).bind λt19 =>
 some (t19.1,(4,0,t19.2,[])))
 (cond (t4.2==4)
 ((aH t4.1).bind λt24 =>
 some (t24.1,(6,0,[],t24.2)))
 ((af t4.1 ([128,130]:List Int)).bind λt28 =>
 some (t28.1,(t28.2,0,[],[]))))))
 (cond (t4.2==2)
 ((cE t4.1).bind λt12_1 =>
 (aw t12_1.2).bind λt13_1 =>
 (ai t13_1).bind λt14_1 =>
 some (t12_1.1,t14_1))
 (cond (t4.2==3)
 ((bb t4.1 ([[],[97],[121,97,114,100],[0]]:List (List UInt8))).bind λt19_1 =>
 some (t19_1.1,(4,0,t19_1.2,[])))
 (cond (t4.2==4)
 ((aH t4.1).bind λt24_1 =>
 some (t24_1.1,(6,0,[],t24_1.2)))
 ((af t4.1 ([128,130]:List Int)).bind λt28_1 =>
 some (t28_1.1,(t28_1.2,0,[],[])))))))
def kk:FL:=(102,⟨[.ptr vP none],[.val true zz (some true)],λa=>aA a⟩)::kj
theorem pQ:Gd kk:=uK pP 102 Tryz.f102 [] Tryz.func102
def ah (l0:List Int):Option (List Int) :=
 (uV ([1,3,1]:List Int) l0).bind λzs5 =>
 some zs5
def kl:FL:=(274,⟨[.val false xk false],[.val false xk (some true)],λa=>ah a⟩)::kk
theorem pR:Gd kl:=uK pQ 274 Tryz.f274 [] Tryz.func274
def al (out0:List uC) (name1:List Int) (n2:Int):Option (List uC) :=
 (ah name1).bind λt9 =>
 (ai n2).bind λt11 =>
 (uV out0 [(t9,t11.1,t11.2.1,t11.2.2.1,t11.2.2.2)]).bind λzs14 =>
 some zs14
def ko:FL:=(332,⟨[.val false (.one (.sl uU)) true,.val false xk false,.val false uI false],[.val false (.one (.sl uU)) (some true)],λa=>al a.1 a.2.1 a.2.2⟩)::kl
theorem pS:Gd ko:=uK pR 332 Tryz.f332 [] Tryz.func332
def gt (a0:Ah) (b1:Ah):Option Bool :=
 cond (a0.1 != b1.1)
 (some (decide (a0.1<b1.1)))
 (cond (a0.2.1 != b1.2.1)
 (some (decide (a0.2.1<b1.2.1)))
 (cond (a0.2.2.2.1 != b1.2.2.2.1)
 (let t4:=decide (a0.2.2.2.1<b1.2.2.2.1)
 some t4)
 (let t4_1:=decide (a0.2.2.2.2<b1.2.2.2.2)
 some t4_1)))
def kq:FL:=(357,⟨[.val true zy false,.val true zy false],[.val false vr (some true)],λa=>gt a.1 a.2⟩)::ko
theorem pT:Gd kq:=uK pS 357 Tryz.f357 [] Tryz.func357
def iR (v0:Ah) (cost1:Int):Option (Ah×Bool) :=
 (fh v0).bind λt8 =>
 (cond (!t8)
 (some true)
 ((ae cost1 1 1000).bind λt12 =>
 some (!t12))).bind λt14 =>
 cond t14
 (some (v0,false))
 ((fh (v0.1,uB (v0.2.1+cost1),uB (v0.2.2.1+1),v0.2.2.2.1,v0.2.2.2.2)).bind λt27 =>
 cond (!t27)
 (some (v0,false))
 (some ((v0.1,uB (v0.2.1+cost1),uB (v0.2.2.1+1),v0.2.2.2.1,v0.2.2.2.2),true)))
def kr:FL:=(368,⟨[.val true zy false,.val false uI false],[.val true zy (some true),.val false vr (some true)],λa=>iR a.1 a.2⟩)::kq
theorem pU:Gd kr:=uK pT 368 Tryz.f368 [] Tryz.func368
def iS (p0:Int) (i1:List Pt) (t8:Int) (t9:Int) (b0:Int) (b1:Int) (b2:Int) (b3:Int) (b4:Int) (b0_1:Int) (b1_1:Int) (b2_1:Int) (b3_1:Int) (b4_1:Int):Option ((Int×Int×Int×Int×Int×Int×Int×Int×Int×Int×Int×Int)⊕(Int×Int×Int×Int×Int×Int×Int×Int×Int×Int×Int)) :=
 cond (decide (t9<(i1.length:Int)))
 ((at? i1 t9).bind λx24 =>
 (cond (!x24.1)
 (some true)
 ((at? i1 t9).bind λx31 =>
 some (!x31.2.2.1))).bind λt35 =>
 cond t35
 (some (.inl (t8,uB (t9+1),b0,b1,b2,b3,b4,b0_1,b1_1,b2_1,b3_1,b4_1)))
 ((at? i1 t9).bind λx39 =>
 (at? i1 t9).bind λx44 =>
 (iR x39.2.2.2 x44.2.1).bind λt47 =>
 (cond t47.2 (some (decide (t47.1.1<p0))) (some false)).bind λt56 =>
 (cond t56
 ((cond (decide (t8<0))
 (some true)
 ((gt t47.1 (b0_1,b1_1,b2_1,b3_1,b4_1)).bind λt63 =>
 some t63)).bind λt64 =>
 some t64)
 (some false)).bind λt65 =>
 cond t65
 (some (.inl (t9,uB (t9+1),t47.1.1,t47.1.2.1,t47.1.2.2.1,p0,0,t47.1.1,t47.1.2.1,t47.1.2.2.1,t47.1.2.2.2.1,t47.1.2.2.2.2)))
 (some (.inl (t8,uB (t9+1),b0,b1,b2,b3,b4,b0_1,b1_1,b2_1,b3_1,b4_1)))))
 (some (.inr (t8,b0,b1,b2,b3,b4,b0_1,b1_1,b2_1,b3_1,b4_1)))
def fi (p0:Int) (i1:List Pt):Option (Ah×Int) :=
 (loop (λz=>iS p0 i1 z.1 z.2.1 z.2.2.1 z.2.2.2.1 z.2.2.2.2.1 z.2.2.2.2.2.1 z.2.2.2.2.2.2.1 z.2.2.2.2.2.2.2.1 z.2.2.2.2.2.2.2.2.1 z.2.2.2.2.2.2.2.2.2.1 z.2.2.2.2.2.2.2.2.2.2.1 z.2.2.2.2.2.2.2.2.2.2.2) ((-1),0,p0,0,0,p0,0,0,0,0,0,0)).bind λd =>
 some ((d.2.1,d.2.2.1,d.2.2.2.1,d.2.2.2.2.1,d.2.2.2.2.2.1),d.1)
def kt:FL:=(356,⟨[.val false uI false,.val false (.one (.sl wX)) false],[.val true zy (some true),.val false uI (some true)],λa=>fi a.1 a.2⟩)::kr
theorem pV:Gd kt:=uK pU 356 Tryz.f356 [(0,⟨⟨(8,false,[dI])::(9,false,[dI])::us 29 6 (us 52 4 (us 58 7 [])),[(266240,.box [dI,dI,dI,dI,dI]),(526336,.box [dI,dI,dI,dI,dI])]⟩,
 ⟨[(8,false,[dI])],[(266240,.box [dI,dI,dI,dI,dI]),(526336,.box [dI,dI,dI,dI,dI])]⟩,none⟩)] Tryz.func356
def gu (id0:Int) (l1:List Pt) (port2:Int):Option Ah :=
 (fi id0 l1).bind λt12 =>
 some (t12.1.1,t12.1.2.1,t12.1.2.2.1,t12.1.2.2.2.1,port2)
def ku:FL:=(358,⟨[.val false uI false,.val false (.one (.sl wX)) false,.val false uI false],[.val true zy (some true)],λa=>gu a.1 a.2.1 a.2.2⟩)::kt
theorem pW:Gd ku:=uK pV 358 Tryz.f358 [] Tryz.func358
def fj (id0:Int) (l1:List Pt) (port2:Int):Option Int :=
 (ae port2 0 (uB ((l1.length:Int)-1))).bind λt13 =>
 (cond (!t13)
 (some true)
 ((at? l1 port2).bind λx18 =>
 some (!x18.1))).bind λt22 =>
 cond t22
 (some 4)
 ((fi id0 l1).bind λt26 =>
 cond (t26.2==port2)
 (some 1)
 ((at? l1 port2).bind λx36 =>
 (cond (!x36.2.2.1)
 (some true)
 ((gu id0 l1 port2).bind λt44 =>
 (at? l1 port2).bind λx47 =>
 (gt t44 x47.2.2.2).bind λt50 =>
 some t50)).bind λt51 =>
 cond t51 (some 2) (some 3)))
def kv:FL:=(325,⟨[.val false uI false,.val false (.one (.sl wX)) false,.val false uI false],[.val false uI (some true)],λa=>fj a.1 a.2.1 a.2.2⟩)::ku
theorem pX:Gd kv:=uK pW 325 Tryz.f325 [] Tryz.func325
def gv (b0:uz) (c1:Int) (p2:Int):Option Int :=
 cond (c1==1)
 ((at? b0.2.2.1 p2).bind λx13 =>
 cond x13.1 (some 1) (some 0))
 (cond (c1==2)
 ((at? b0.2.2.1 p2).bind λx21 =>
 some x21.2.1)
 (cond (c1==3)
 ((fj b0.1 b0.2.2.1 p2).bind λt31 =>
 some t31)
 ((at? b0.2.2.2.2.2.1 p2).bind λx36 =>
 some x36)))
def kw:FL:=(333,⟨[.val true uR false,.val false uI false,.val false uI false],[.val false uI (some true)],λa=>gv a.1 a.2.1 a.2.2⟩)::kv
theorem pY:Gd kw:=uK pX 333 Tryz.f333 [] Tryz.func333
def iT (r0:uQ) (c1:Int):Option Int :=
 cond (c1==1) (some 1) (cond (c1==2) (some r0.2.1) (some r0.2.2))
def kz:FL:=(334,⟨[.val true vI false,.val false uI false],[.val false uI (some true)],λa=>iT a.1 a.2⟩)::kw
theorem pZ:Gd kz:=uK pY 334 Tryz.f334 [] Tryz.func334
def iU (p0:uz) (t4:Int) (t5:Int) (t3_1:List uC):Option ((Int×List uC)⊕(List uC)) :=
 cond (decide (t5<(p0.2.2.1.length:Int)))
 ((gv p0 t4 t5).bind λt59 =>
 (al t3_1 [2,t4,uB (t5+1)] t59).bind λt60 =>
 some (.inl (uB (t5+1),t60)))
 (some (.inr t3_1))
def iV (p0:uz) (t4:Int) (t3:List uC):Option ((Int×List uC)⊕(List uC)) :=
 cond (decide (t4<=4))
 ((loop (λz=>iU p0 t4 z.1 z.2) (0,t3)).bind λd =>
 some (.inl (uB (t4+1),d)))
 (some (.inr t3))
def iW (p0:uz) (t6:Int) (t7:Int) (t3_5:List uC):Option ((Int×List uC)⊕(List uC)) :=
 cond (decide (t7<(p0.2.2.2.2.1.length:Int)))
 ((at? p0.2.2.2.2.1 t7).bind λx79 =>
 (at? p0.2.2.2.2.1 t7).bind λx87 =>
 (iT x87 t6).bind λt90 =>
 (al t3_5 [3,t6,x79.1] t90).bind λt91 =>
 some (.inl (uB (t7+1),t91)))
 (some (.inr t3_5))
def fk (p0:uz) (t6:Int) (t3_4:List uC):Option ((Int×List uC)⊕(List uC)) :=
 cond (decide (t6<=3))
 ((loop (λz=>iW p0 t6 z.1 z.2) (0,t3_4)).bind λd_2 =>
 some (.inl (uB (t6+1),d_2)))
 (some (.inr t3_4))
def iX (p0:uz) (t8:Int) (t3_8:List uC):Option ((Int×List uC)⊕(List uC)) :=
 cond (decide (t8<(p0.2.2.2.1.length:Int)))
 ((at? p0.2.2.2.1 t8).bind λx103 =>
 (at? p0.2.2.2.1 t8).bind λx109 =>
 (at? p0.2.2.2.1 t8).bind λx116 =>
 (al t3_8 [4,1,x103.1,x109.2.1] (uB (x116.2.2.1+1))).bind λt120 =>
 some (.inl (uB (t8+1),t120)))
 (some (.inr t3_8))
def cG (p0:uz):Option (List uC) :=
 (aN p0).bind λt10 =>
 cond (!t10)
 (some ([]:List uC))
 ((ah ([1,1]:List Int)).bind λt14 =>
 (al ([(t14,4,0,p0.2.1,[])]) ([1,2]:List Int) p0.2.2.2.2.2.2.1).bind λt24 =>
 (al t24 ([1,3]:List Int) p0.2.2.2.2.2.2.2.1).bind λt29 =>
 (al t29 ([1,4]:List Int) p0.2.2.2.2.2.2.2.2.1).bind λt34 =>
 (al t34 ([1,5]:List Int) p0.2.2.2.2.2.2.2.2.2.1).bind λt39 =>
 (loop (λz=>iV p0 z.1 z.2) (1,t39)).bind λd_1 =>
 (loop (λz=>fk p0 z.1 z.2) (1,d_1)).bind λd_3 =>
 (loop (λz=>iX p0 z.1 z.2) (0,d_3)).bind λd_4 =>
 some d_4)
def kA:FL:=(273,⟨[.val true uR false],[.val false (.one (.sl uU)) (some true)],λa=>cG a⟩)::kz
theorem q8:Gd kA:=uK pZ 273 Tryz.f273 [(0,⟨⟨[(3,false,[.own 1000000000]),(4,false,[dI])],[(1000000000,.root uU true)]⟩,
 ⟨[(3,false,[.own 1000000300])],[(1000000300,.root uU true)]⟩,none⟩),
 (2,⟨⟨[(3,false,[.own 1000002000]),(5,false,[dI])],[(1000002000,.root uU true)]⟩,
 ⟨[(3,false,[.own 1000002300])],[(1000002300,.root uU true)]⟩,none⟩),
 (4,⟨⟨[(3,false,[.own 1000004000]),(6,false,[dI])],[(1000004000,.root uU true)]⟩,
 ⟨[(3,false,[.own 1000004300])],[(1000004300,.root uU true)]⟩,none⟩),
 (6,⟨⟨[(3,false,[.own 1000006000]),(7,false,[dI])],[(1000006000,.root uU true)]⟩,
 ⟨[(3,false,[.own 1000006300])],[(1000006300,.root uU true)]⟩,none⟩),
 (8,⟨⟨[(3,false,[.own 1000008000]),(8,false,[dI])],[(1000008000,.root uU true)]⟩,
 ⟨[(3,false,[.own 1000008300])],[(1000008300,.root uU true)]⟩,none⟩)] Tryz.func273
def aq (c0:uM) (b1:uz):Option (uM×List Int) :=
 (cG b1).bind λt7 =>
 cond (decide ((t7.length:Int)>0))
 ((bo c0 4).bind λt13 =>
 cond (!t13.2)
 ((aa t13.1 (t7.length:Int)).bind λt21 =>
 (ix t7.length t21.2).bind λj22 =>
 (t7[j22]?).bind λx24 =>
 (uV ([]:List Int) x24.1).bind λzs25 =>
 some (t21.1,zs25))
 ((aa t13.1 8).bind λt27 =>
 cond (t27.2==0)
 (some (t27.1,([0]:List Int)))
 (cond (t27.2==1)
 (some (t27.1,([1,3,1]:List Int)))
 (cond (t27.2==2)
 ((ah ([2,2,9]:List Int)).bind λt37 =>
 some (t27.1,t37))
 (cond (t27.2==3)
 ((aa t27.1 9).bind λt41 =>
 (ah [3,1,uB (1+t41.2)]).bind λt44 =>
 some (t41.1,t44))
 (cond (t27.2==4)
 ((ah ([2,2]:List Int)).bind λt48 =>
 some (t27.1,t48))
 (cond (t27.2==5)
 ((ah ([9]:List Int)).bind λt52 =>
 some (t27.1,t52))
 (cond (t27.2==6)
 ((ah ([4,1,2,11]:List Int)).bind λt56 =>
 some (t27.1,t56))
 ((aH t27.1).bind λt58 =>
 some t58)))))))))
 ((aa c0 8).bind λt27_1 =>
 cond (t27_1.2==0)
 (some (t27_1.1,([0]:List Int)))
 (cond (t27_1.2==1)
 (some (t27_1.1,([1,3,1]:List Int)))
 (cond (t27_1.2==2)
 ((ah ([2,2,9]:List Int)).bind λt37_1 =>
 some (t27_1.1,t37_1))
 (cond (t27_1.2==3)
 ((aa t27_1.1 9).bind λt41_1 =>
 (ah [3,1,uB (1+t41_1.2)]).bind λt44_1 =>
 some (t41_1.1,t44_1))
 (cond (t27_1.2==4)
 ((ah ([2,2]:List Int)).bind λt48_1 =>
 some (t27_1.1,t48_1))
 (cond (t27_1.2==5)
 ((ah ([9]:List Int)).bind λt52_1 =>
 some (t27_1.1,t52_1))
 (cond (t27_1.2==6)
 ((ah ([4,1,2,11]:List Int)).bind λt56_1 =>
 some (t27_1.1,t56_1))
 ((aH t27_1.1).bind λt58_1 =>
 some t58_1))))))))
def kB:FL:=(165,⟨[.ptr vP none,.val true uR false],[.val false xk (some true)],λa=>aq a.1 a.2⟩)::kA
theorem q9:Gd kB:=uK q8 165 Tryz.f165 [] Tryz.func165
def gw (p0:uM) (i1:uz):Option (uM×uC) :=
 (aa p0 (uB ((i1.2.2.1.length:Int)+1))).bind λt12 =>
 (shl .i64 1 (IntKind.u64.wrap ((i1.2.2.1.length:Int)))).bind λt18 =>
 (aa t12.1 10).bind λt21 =>
 cond (t21.2==0)
 ((ah ([1,1]:List Int)).bind λt25 =>
 (bb t21.1 ([[110,101,119],[],[101,108,101,118,101,110,45,98,121,116,101]]:List (List UInt8))).bind λt28 =>
 some (t28.1,(t25,4,0,t28.2,[])))
 (cond (t21.2==1)
 (cond (t21.2==1)
 ((ah [2,2,uB (1+t12.2)]).bind λt36 =>
 (af t21.1 ([1,5,1000,0,1001]:List Int)).bind λt39 =>
 (ai t39.2).bind λt40 =>
 some (t39.1,(t36,t40.1,t40.2.1,t40.2.2.1,t40.2.2.2)))
 (cond (t21.2==3)
 ((ah [2,4,uB (1+t12.2)]).bind λt46 =>
 (aa t21.1 4).bind λt48 =>
 (ai (uB (1+t48.2))).bind λt50 =>
 some (t48.1,(t46,t50.1,t50.2.1,t50.2.2.1,t50.2.2.2)))
 (cond (t21.2==4)
 (cond (t21.2==4)
 ((aa t21.1 4).bind λt56 =>
 (ah [3,1,uB (1+t56.2)]).bind λt59 =>
 (af t56.1 ([4,4,6,1]:List Int)).bind λt62 =>
 (ai t62.2).bind λt63 =>
 some (t62.1,(t59,t63.1,t63.2.1,t63.2.2.1,t63.2.2.2)))
 (cond (t21.2==6)
 (cond (t21.2==6)
 ((aa t21.1 4).bind λt69 =>
 (ah [3,2,uB (1+t69.2)]).bind λt72 =>
 (aa t69.1 (uB ((uB (t18-1))+2))).bind λt76 =>
 (ai t76.2).bind λt77 =>
 some (t76.1,(t72,t77.1,t77.2.1,t77.2.2.1,t77.2.2.2)))
 (cond (t21.2==8)
 ((aa t21.1 4).bind λt82 =>
 (ah [3,3,uB (1+t82.2)]).bind λt85 =>
 (aa t82.1 (uB ((uB (t18-1))+1))).bind λt89 =>
 (ai t89.2).bind λt90 =>
 some (t89.1,(t85,t90.1,t90.2.1,t90.2.2.1,t90.2.2.2)))
 ((aq t21.1 i1).bind λt94 =>
 (aA t94.1).bind λt96 =>
 some (t96.1,(t94.2,t96.2.1,t96.2.2.1,t96.2.2.2.1,t96.2.2.2.2)))))
 (cond (t21.2==7)
 ((aa t21.1 4).bind λt69_1 =>
 (ah [3,2,uB (1+t69_1.2)]).bind λt72_1 =>
 (aa t69_1.1 (uB ((uB (t18-1))+2))).bind λt76_1 =>
 (ai t76_1.2).bind λt77_1 =>
 some (t76_1.1,(t72_1,t77_1.1,t77_1.2.1,t77_1.2.2.1,t77_1.2.2.2)))
 (cond (t21.2==8)
 ((aa t21.1 4).bind λt82_1 =>
 (ah [3,3,uB (1+t82_1.2)]).bind λt85_1 =>
 (aa t82_1.1 (uB ((uB (t18-1))+1))).bind λt89_1 =>
 (ai t89_1.2).bind λt90_1 =>
 some (t89_1.1,(t85_1,t90_1.1,t90_1.2.1,t90_1.2.2.1,t90_1.2.2.2)))
 ((aq t21.1 i1).bind λt94_1 =>
 (aA t94_1.1).bind λt96_1 =>
 some (t96_1.1,(t94_1.2,t96_1.2.1,t96_1.2.2.1,t96_1.2.2.2.1,t96_1.2.2.2.2)))))))
 (cond (t21.2==5)
 ((aa t21.1 4).bind λt56_1 =>
 (ah [3,1,uB (1+t56_1.2)]).bind λt59_1 =>
 (af t56_1.1 ([4,4,6,1]:List Int)).bind λt62_1 =>
 (ai t62_1.2).bind λt63_1 =>
 some (t62_1.1,(t59_1,t63_1.1,t63_1.2.1,t63_1.2.2.1,t63_1.2.2.2)))
 (cond (t21.2==6)
 (cond (t21.2==6)
 ((aa t21.1 4).bind λt69_2 =>
 (ah [3,2,uB (1+t69_2.2)]).bind λt72_2 =>
 (aa t69_2.1 (uB ((uB (t18-1))+2))).bind λt76_2 =>
 (ai t76_2.2).bind λt77_2 =>
 some (t76_2.1,(t72_2,t77_2.1,t77_2.2.1,t77_2.2.2.1,t77_2.2.2.2)))
 (cond (t21.2==8)
 ((aa t21.1 4).bind λt82_2 =>
 (ah [3,3,uB (1+t82_2.2)]).bind λt85_2 =>
 (aa t82_2.1 (uB ((uB (t18-1))+1))).bind λt89_2 =>
 (ai t89_2.2).bind λt90_2 =>
 some (t89_2.1,(t85_2,t90_2.1,t90_2.2.1,t90_2.2.2.1,t90_2.2.2.2)))
 ((aq t21.1 i1).bind λt94_2 =>
 (aA t94_2.1).bind λt96_2 =>
 some (t96_2.1,(t94_2.2,t96_2.2.1,t96_2.2.2.1,t96_2.2.2.2.1,t96_2.2.2.2.2)))))
 (cond (t21.2==7)
 ((aa t21.1 4).bind λt69_3 =>
 (ah [3,2,uB (1+t69_3.2)]).bind λt72_3 =>
 (aa t69_3.1 (uB ((uB (t18-1))+2))).bind λt76_3 =>
 (ai t76_3.2).bind λt77_3 =>
 some (t76_3.1,(t72_3,t77_3.1,t77_3.2.1,t77_3.2.2.1,t77_3.2.2.2)))
 (cond (t21.2==8)
 ((aa t21.1 4).bind λt82_3 =>
 (ah [3,3,uB (1+t82_3.2)]).bind λt85_3 =>
 (aa t82_3.1 (uB ((uB (t18-1))+1))).bind λt89_3 =>
 (ai t89_3.2).bind λt90_3 =>
 some (t89_3.1,(t85_3,t90_3.1,t90_3.2.1,t90_3.2.2.1,t90_3.2.2.2)))
 ((aq t21.1 i1).bind λt94_3 =>
 (aA t94_3.1).bind λt96_3 =>
 some (t96_3.1,(t94_3.2,t96_3.2.1,t96_3.2.2.1,t96_3.2.2.2.1,t96_3.2.2.2.2))))))))))
 (cond (t21.2==2)
 ((ah [2,2,uB (1+t12.2)]).bind λt36_1 =>
 (af t21.1 ([1,5,1000,0,1001]:List Int)).bind λt39_1 =>
 (ai t39_1.2).bind λt40_1 =>
 some (t39_1.1,(t36_1,t40_1.1,t40_1.2.1,t40_1.2.2.1,t40_1.2.2.2)))
 (cond (t21.2==3)
 ((ah [2,4,uB (1+t12.2)]).bind λt46_1 =>
 (aa t21.1 4).bind λt48_1 =>
 (ai (uB (1+t48_1.2))).bind λt50_1 =>
 some (t48_1.1,(t46_1,t50_1.1,t50_1.2.1,t50_1.2.2.1,t50_1.2.2.2)))
 (cond (t21.2==4)
 (cond (t21.2==4)
 ((aa t21.1 4).bind λt56_2 =>
 (ah [3,1,uB (1+t56_2.2)]).bind λt59_2 =>
 (af t56_2.1 ([4,4,6,1]:List Int)).bind λt62_2 =>
 (ai t62_2.2).bind λt63_2 =>
 some (t62_2.1,(t59_2,t63_2.1,t63_2.2.1,t63_2.2.2.1,t63_2.2.2.2)))
 (cond (t21.2==6)
 (cond (t21.2==6)
 ((aa t21.1 4).bind λt69_4 =>
 (ah [3,2,uB (1+t69_4.2)]).bind λt72_4 =>
 (aa t69_4.1 (uB ((uB (t18-1))+2))).bind λt76_4 =>
 (ai t76_4.2).bind λt77_4 =>
 some (t76_4.1,(t72_4,t77_4.1,t77_4.2.1,t77_4.2.2.1,t77_4.2.2.2)))
 (cond (t21.2==8)
 ((aa t21.1 4).bind λt82_4 =>
 (ah [3,3,uB (1+t82_4.2)]).bind λt85_4 =>
 (aa t82_4.1 (uB ((uB (t18-1))+1))).bind λt89_4 =>
 (ai t89_4.2).bind λt90_4 =>
 some (t89_4.1,(t85_4,t90_4.1,t90_4.2.1,t90_4.2.2.1,t90_4.2.2.2)))
 ((aq t21.1 i1).bind λt94_4 =>
 (aA t94_4.1).bind λt96_4 =>
 some (t96_4.1,(t94_4.2,t96_4.2.1,t96_4.2.2.1,t96_4.2.2.2.1,t96_4.2.2.2.2)))))
 (cond (t21.2==7)
 ((aa t21.1 4).bind λt69_5 =>
 (ah [3,2,uB (1+t69_5.2)]).bind λt72_5 =>
 (aa t69_5.1 (uB ((uB (t18-1))+2))).bind λt76_5 =>
 (ai t76_5.2).bind λt77_5 =>
 some (t76_5.1,(t72_5,t77_5.1,t77_5.2.1,t77_5.2.2.1,t77_5.2.2.2)))
 (cond (t21.2==8)
 ((aa t21.1 4).bind λt82_5 =>
 (ah [3,3,uB (1+t82_5.2)]).bind λt85_5 =>
 (aa t82_5.1 (uB ((uB (t18-1))+1))).bind λt89_5 =>
 (ai t89_5.2).bind λt90_5 =>
 some (t89_5.1,(t85_5,t90_5.1,t90_5.2.1,t90_5.2.2.1,t90_5.2.2.2)))
 ((aq t21.1 i1).bind λt94_5 =>
 (aA t94_5.1).bind λt96_5 =>
 some (t96_5.1,(t94_5.2,t96_5.2.1,t96_5.2.2.1,t96_5.2.2.2.1,t96_5.2.2.2.2)))))))
 (cond (t21.2==5)
 ((aa t21.1 4).bind λt56_3 =>
 (ah [3,1,uB (1+t56_3.2)]).bind λt59_3 =>
 (af t56_3.1 ([4,4,6,1]:List Int)).bind λt62_3 =>
 (ai t62_3.2).bind λt63_3 =>
 some (t62_3.1,(t59_3,t63_3.1,t63_3.2.1,t63_3.2.2.1,t63_3.2.2.2)))
 (cond (t21.2==6)
 (cond (t21.2==6)
 ((aa t21.1 4).bind λt69_6 =>
 (ah [3,2,uB (1+t69_6.2)]).bind λt72_6 =>
 (aa t69_6.1 (uB ((uB (t18-1))+2))).bind λt76_6 =>
 (ai t76_6.2).bind λt77_6 =>
 some (t76_6.1,(t72_6,t77_6.1,t77_6.2.1,t77_6.2.2.1,t77_6.2.2.2)))
 (cond (t21.2==8)
 ((aa t21.1 4).bind λt82_6 =>
 (ah [3,3,uB (1+t82_6.2)]).bind λt85_6 =>
 (aa t82_6.1 (uB ((uB (t18-1))+1))).bind λt89_6 =>
 (ai t89_6.2).bind λt90_6 =>
 some (t89_6.1,(t85_6,t90_6.1,t90_6.2.1,t90_6.2.2.1,t90_6.2.2.2)))
 ((aq t21.1 i1).bind λt94_6 =>
 (aA t94_6.1).bind λt96_6 =>
 some (t96_6.1,(t94_6.2,t96_6.2.1,t96_6.2.2.1,t96_6.2.2.2.1,t96_6.2.2.2.2)))))
 (cond (t21.2==7)
 ((aa t21.1 4).bind λt69_7 =>
 (ah [3,2,uB (1+t69_7.2)]).bind λt72_7 =>
 (aa t69_7.1 (uB ((uB (t18-1))+2))).bind λt76_7 =>
 (ai t76_7.2).bind λt77_7 =>
 some (t76_7.1,(t72_7,t77_7.1,t77_7.2.1,t77_7.2.2.1,t77_7.2.2.2)))
 (cond (t21.2==8)
 ((aa t21.1 4).bind λt82_7 =>
 (ah [3,3,uB (1+t82_7.2)]).bind λt85_7 =>
 (aa t82_7.1 (uB ((uB (t18-1))+1))).bind λt89_7 =>
 (ai t89_7.2).bind λt90_7 =>
 some (t89_7.1,(t85_7,t90_7.1,t90_7.2.1,t90_7.2.2.1,t90_7.2.2.2)))
 ((aq t21.1 i1).bind λt94_7 =>
 (aA t94_7.1).bind λt96_7 =>
 some (t96_7.1,(t94_7.2,t96_7.2.1,t96_7.2.2.1,t96_7.2.2.2.1,t96_7.2.2.2.2)))))))))))
def kC:FL:=(272,⟨[.ptr vP none,.val true uR false],[.val true uU (some true)],λa=>gw a.1 a.2⟩)::kB
theorem qc:Gd kC:=uK q9 272 Tryz.f272 [] Tryz.func272
def cH (b1:uz) (i6:Int) (b0:List Int) (b1_1:Int) (b2:Int) (out5:List uC):Option ((Int×List Int×Int×Int×List uC)⊕(List Int×Int×Int×List uC)) :=
 cond (decide (i6>0))
 ((gw (b0,b1_1,b2) b1).bind λt17 =>
 (uV out5 [t17.2]).bind λzs19 =>
 some (.inl (uB (i6-1),t17.1.1,t17.1.2.1,t17.1.2.2,zs19)))
 (some (.inr (b0,b1_1,b2,out5)))
def fm (c0:uM) (b1:uz):Option (uM×List uC) :=
 (aa c0 4).bind λt9 =>
 (loop (λz=>cH b1 z.1 z.2.1 z.2.2.1 z.2.2.2.1 z.2.2.2.2) (t9.2,t9.1.1,t9.1.2.1,t9.1.2.2,([]:List uC))).bind λd =>
 some ((d.1,d.2.1,d.2.2.1),d.2.2.2)
def kD:FL:=(164,⟨[.ptr vP none,.val true uR false],[.val false (.one (.sl uU)) (some true)],λa=>fm a.1 a.2⟩)::kC
theorem qd:Gd kD:=uK qc 164 Tryz.f164 [(0,⟨⟨[(5,false,[.own 1000000000]),(6,false,[dI])],[(1,.box [.dat (.sl (.one (.int .u8))),dI,dI]),(1000000000,.root uU true)]⟩,
 ⟨[(5,false,[.own 1000000300])],[(1,.box [.dat (.sl (.one (.int .u8))),dI,dI]),(1000000300,.root uU true)]⟩,none⟩)] Tryz.func164
def cI (b1:uz) (i6:Int) (b0:List Int) (b1_1:Int) (b2:Int) (b0_1:Int) (b1_2:Int) (b2_1:Int) (b3:Int) (b4:List uC):Option ((Int×List Int×Int×Int×Int×Int×Int×Int×List uC)⊕(List Int×Int×Int×Int×Int×Int×Int×List uC)) :=
 cond (decide (i6>0))
 ((aq (b0,b1_1,b2) b1).bind λt31 =>
 (uV b4 ([(t31.2,5,0,[],[])])).bind λzs35 =>
 some (.inl (uB (i6-1),t31.1.1,t31.1.2.1,t31.1.2.2,b0_1,b1_2,b2_1,b3,zs35)))
 (some (.inr (b0,b1_1,b2,b0_1,b1_2,b2_1,b3,b4)))
def bG (c0:uM) (b1:uz):Option (uM×v9) :=
 (af c0 ([160,161,163,163,165]:List Int)).bind λt9 =>
 (aa t9.1 100).bind λt11 =>
 cond (t9.2==163)
 ((fm t11.1 b1).bind λt18 =>
 some (t18.1,(t9.2,t11.2,0,0,t18.2)))
 ((aa t11.1 4).bind λt22 =>
 (loop (λz=>cI b1 z.1 z.2.1 z.2.2.1 z.2.2.2.1 z.2.2.2.2.1 z.2.2.2.2.2.1 z.2.2.2.2.2.2.1 z.2.2.2.2.2.2.2.1 z.2.2.2.2.2.2.2.2) (t22.2,t22.1.1,t22.1.2.1,t22.1.2.2,t9.2,t11.2,0,0,[])).bind λd =>
 cond (d.2.2.2.1==165)
 ((aa (d.1,d.2.1,d.2.2.1) 3).bind λt41 =>
 (aa t41.1 5).bind λt44 =>
 some (t44.1,(d.2.2.2.1,d.2.2.2.2.1,t41.2,t44.2,d.2.2.2.2.2.2.2)))
 (some ((d.1,d.2.1,d.2.2.1),d.2.2.2)))
def kE:FL:=(75,⟨[.ptr vP none,.val true uR false],[.val true wQ (some true)],λa=>bG a.1 a.2⟩)::kD
theorem qe:Gd kE:=uK qd 75 Tryz.f75 [(0,⟨⟨[(6,false,[dI])],[(1,.box [.dat (.sl (.one (.int .u8))),dI,dI]),(269312,.box [dI,dI,dI,dI,.own 1000000000]),(1000000000,.root uU true)]⟩,
 ⟨[],[(1,.box [.dat (.sl (.one (.int .u8))),dI,dI]),(269312,.box [dI,dI,dI,dI,.own 1000000300]),(1000000300,.root uU true)]⟩,none⟩)] Tryz.func75
def gx (c0:uM):Option (uM×Ah) :=
 (dD c0).bind λt5 =>
 (aa t5.1 12).bind λt7 =>
 cond (t7.2==0)
 ((af t7.1 ([0,99,100]:List Int)).bind λt12 =>
 some (t12.1,(t12.2,t5.2.2.1,t5.2.2.2.1,t5.2.2.2.2.1,t5.2.2.2.2.2)))
 (cond (t7.2==1)
 ((af t7.1 ([(-1),99999,100000,100001]:List Int)).bind λt18 =>
 some (t18.1,(t5.2.1,t18.2,t5.2.2.2.1,t5.2.2.2.2.1,t5.2.2.2.2.2)))
 (cond (t7.2==2)
 ((af t7.1 ([(-1),11]:List Int)).bind λt24 =>
 some (t24.1,(t5.2.1,t5.2.2.1,t24.2,t5.2.2.2.2.1,t5.2.2.2.2.2)))
 (cond (t7.2==3)
 ((af t7.1 ([(-1),7,8]:List Int)).bind λt30 =>
 some (t30.1,(t5.2.1,t5.2.2.1,t5.2.2.2.1,t5.2.2.2.2.1,t30.2)))
 (some (t7.1,t5.2)))))
def kF:FL:=(296,⟨[.ptr vP none],[.val true zy (some true)],λa=>gx a⟩)::kE
theorem qf:Gd kF:=uK qe 296 Tryz.f296 [] Tryz.func296
def gy (c0:uM):Option (uM×List Pt) :=
 (aa c0 4).bind λt6 =>
 (cw t6.1 (uB (1+t6.2))).bind λt8 =>
 (aa t8.1 12).bind λt10 =>
 cond (t10.2==0)
 ((gx t10.1).bind λt15 =>
 (ix t8.2.length 0).bind λj16 =>
 (t8.2[j16]?).bind λx =>
 some (t15.1,t8.2.set j16 (x.1,x.2.1,x.2.2.1,t15.2.1,t15.2.2.1,t15.2.2.2.1,t15.2.2.2.2.1,t15.2.2.2.2.2)))
 (cond (t10.2==1)
 ((af t10.1 ([0,1000,1001]:List Int)).bind λt23 =>
 (ix t8.2.length 0).bind λj24 =>
 (t8.2[j24]?).bind λx_1 =>
 some (t23.1,t8.2.set j24 (x_1.1,t23.2,x_1.2.2.1,x_1.2.2.2.1,x_1.2.2.2.2.1,x_1.2.2.2.2.2.1,x_1.2.2.2.2.2.2.1,x_1.2.2.2.2.2.2.2)))
 (cond (t10.2==2)
 ((ix t8.2.length 0).bind λj29 =>
 (t8.2[j29]?).bind λx_2 =>
 some (t10.1,t8.2.set j29 (false,x_2.2.1,x_2.2.2.1,x_2.2.2.2.1,x_2.2.2.2.2.1,x_2.2.2.2.2.2.1,x_2.2.2.2.2.2.2.1,x_2.2.2.2.2.2.2.2)))
 (some (t10.1,t8.2))))
def kG:FL:=(191,⟨[.ptr vP none],[.val false (.one (.sl wX)) (some true)],λa=>gy a⟩)::kF
theorem qg:Gd kG:=uK qf 191 Tryz.f191 [] Tryz.func191
def aR (l0:List uF) (i4:Int) (out3:List uF):Option ((Int×List uF)⊕(List uF)) :=
 cond (decide (i4<(l0.length:Int)))
 ((at? l0 i4).bind λx15 =>
 cond x15.2.2.2.2
 ((uV out3 [x15]).bind λzs22 =>
 some (.inl (uB (i4+1),zs22)))
 (cond (decide (x15.2.2.2.1<4))
 ((uV out3 [(x15.1,x15.2.1,x15.2.2.1,uB (x15.2.2.2.1+1),x15.2.2.2.2)]).bind λzs33 =>
 some (.inl (uB (i4+1),zs33)))
 (some (.inl (uB (i4+1),out3)))))
 (some (.inr out3))
def cJ (l0:List uF):Option (List uF) :=
 (loop (λz=>aR l0 z.1 z.2) (0,([]:List uF))).bind λd =>
 some d
def kH:FL:=(301,⟨[.val false (.one (.sl uY)) false],[.val false (.one (.sl uY)) (some true)],λa=>cJ a⟩)::kG
theorem qh:Gd kH:=uK qg 301 Tryz.f301 [(0,⟨⟨[(3,false,[.own 1000000000]),(4,false,[dI])],[(1000000000,.root uY true)]⟩,
 ⟨[(3,false,[.own 1000000300])],[(1000000300,.root uY true)]⟩,none⟩)] Tryz.func301
def dM (i4:Int) (b0:List Int) (b1:Int) (b2:Int) (l3:List uF):Option ((Int×List Int×Int×Int×List uF)⊕(List Int×Int×Int×List uF)) :=
 cond (decide (i4>0))
 ((aa (b0,b1,b2) 6).bind λt13 =>
 cond (t13.2==0)
 ((aa t13.1 3).bind λt31 =>
 (bE t31.1).bind λt34 =>
 (aa t34.1 4).bind λt36 =>
 (dJ l3 (uB (1+t31.2)) t34.2 t36.2).bind λt37 =>
 some (.inl (uB (i4-1),t36.1.1,t36.1.2.1,t36.1.2.2,t37.1)))
 (cond (t13.2==1)
 ((cJ l3).bind λt43 =>
 some (.inl (uB (i4-1),t13.1.1,t13.1.2.1,t13.1.2.2,t43)))
 ((aa t13.1 3).bind λt16 =>
 (bE t16.1).bind λt19 =>
 (aa t19.1 3).bind λt21 =>
 (aa t21.1 4).bind λt24 =>
 (fg l3 (uB (1+t16.2)) (uB (t19.2+t21.2)) t24.2).bind λt25 =>
 some (.inl (uB (i4-1),t24.1.1,t24.1.2.1,t24.1.2.2,t25)))))
 (some (.inr (b0,b1,b2,l3)))
def gz (c0:uM):Option (uM×List uF) :=
 (aa c0 10).bind λt7 =>
 (loop (λz=>dM z.1 z.2.1 z.2.2.1 z.2.2.2.1 z.2.2.2.2) (t7.2,t7.1.1,t7.1.2.1,t7.1.2.2,([]:List uF))).bind λd =>
 some ((d.1,d.2.1,d.2.2.1),d.2.2.2)
def kI:FL:=(297,⟨[.ptr vP none],[.val false (.one (.sl uY)) (some true)],λa=>gz a⟩)::kH
theorem qi:Gd kI:=uK qh 297 Tryz.f297 [(0,⟨⟨[(3,false,[.own 1000000000]),(4,false,[dI])],[(1,.box [.dat (.sl (.one (.int .u8))),dI,dI]),(1000000000,.root uY true)]⟩,
 ⟨[(3,false,[.own 1000000300])],[(1,.box [.dat (.sl (.one (.int .u8))),dI,dI]),(1000000300,.root uY true)]⟩,none⟩)] Tryz.func297
def bV (i4:Int) (b0:List Int) (b1:Int) (b2:Int) (l3:List uF):Option ((Int×List Int×Int×Int×List uF)⊕(List Int×Int×Int×List uF)) :=
 (aa (b0,b1,b2) 3).bind λt31 =>
 cond (decide (i4<(uB (11+t31.2))))
 ((uV l3 [(50,uB (100+i4),1,0,false)]).bind λzs41 =>
 some (.inl (uB (i4+1),t31.1.1,t31.1.2.1,t31.1.2.2,zs41)))
 (some (.inr (t31.1.1,t31.1.2.1,t31.1.2.2,l3)))
def gA (c0:uM):Option (uM×List uF) :=
 (gz c0).bind λt6 =>
 (aa t6.1 12).bind λt8 =>
 cond (t8.2==0)
 ((af t8.1 ([0,1,99,100]:List Int)).bind λt14 =>
 (af t14.1 ([0,1,9999]:List Int)).bind λt17 =>
 (af t17.1 ([(-1),7,8]:List Int)).bind λt20 =>
 (af t20.1 ([(-1),4,5]:List Int)).bind λt23 =>
 (uV t6.2 [(t14.2,t17.2,t20.2,t23.2,false)]).bind λzs26 =>
 some (t23.1,zs26))
 (cond (t8.2==1)
 ((loop (λz=>bV z.1 z.2.1 z.2.2.1 z.2.2.2.1 z.2.2.2.2) (0,t8.1.1,t8.1.2.1,t8.1.2.2,t6.2)).bind λd =>
 some ((d.1,d.2.1,d.2.2.1),d.2.2.2))
 (some (t8.1,t6.2)))
def kJ:FL:=(192,⟨[.ptr vP none],[.val false (.one (.sl uY)) (some true)],λa=>gA a⟩)::kI
theorem qj:Gd kJ:=uK qi 192 Tryz.f192 [(1,⟨⟨[(3,false,[.own 1000001000]),(4,false,[dI])],[(1,.box [.dat (.sl (.one (.int .u8))),dI,dI]),(1000001000,.root uY true)]⟩,
 ⟨[(3,false,[.own 1000001300])],[(1,.box [.dat (.sl (.one (.int .u8))),dI,dI]),(1000001300,.root uY true)]⟩,none⟩)] Tryz.func192
def dN (i6:Int) (b0:List uQ) (b1:List Int):Option ((Int×List uQ×List Int)⊕(List uQ×List Int)) :=
 cond (decide (i6<6))
 ((aG (b0,b1) (uB (10+i6),0,0)).bind λt54 =>
 some (.inl (uB (i6+1),t54.1,t54.2)))
 (some (.inr (b0,b1)))
def gB (c0:uM):Option (uM×vv×Int) :=
 (aa c0 4).bind λt8 =>
 (cz t8.1 (uB (1+t8.2))).bind λt12 =>
 (aa t12.1 12).bind λt14 =>
 cond (t14.2==0)
 ((af t14.1 ([0,1,9,100]:List Int)).bind λt21 =>
 (af t21.1 ([(-1),0,1,64]:List Int)).bind λt24 =>
 (aa t24.1 3).bind λt26 =>
 (uV t12.2.1 [(t21.2,t24.2,t26.2)]).bind λzs29 =>
 some (t26.1,(zs29,t12.2.2),uB (1+t8.2)))
 (cond (t14.2==1)
 ((af t14.1 ([0,7]:List Int)).bind λt37 =>
 (ix t12.2.2.length 0).bind λj38 =>
 (t12.2.2[j38]?).bind λx =>
 some (t37.1,(t12.2.1,t12.2.2.set j38 t37.2),uB (1+t8.2)))
 (cond (t14.2==2)
 ((af t14.1 ([0,6,7]:List Int)).bind λt43 =>
 some (t43.1,t12.2,t43.2))
 (cond (t14.2==3)
 ((loop (λz=>dN z.1 z.2.1 z.2.2) (0,t12.2.1,t12.2.2)).bind λd =>
 some (t14.1,d,uB (1+t8.2)))
 (some (t14.1,t12.2,uB (1+t8.2))))))
def kK:FL:=(193,⟨[.ptr vP none],[.val true wL (some true),.val false uI (some true)],λa=>gB a⟩)::kJ
theorem qk:Gd kK:=uK qj 193 Tryz.f193 [(1,⟨⟨[(6,false,[dI])],[(528384,.box [.own 1000001000,.own 1000001001]),(1000001000,.root vI true),(1000001001,.root uI true)]⟩,
 ⟨[],[(528384,.box [.own 1000001300,.own 1000001301]),(1000001300,.root vI true),(1000001301,.root uI true)]⟩,none⟩)] Tryz.func193
def fo (c0:uM):Option (uM×uz) :=
 (cD c0).bind λt5 =>
 (aa t5.1 16).bind λt7 =>
 cond (t7.2==0)
 ((af t7.1 ([0,99,100]:List Int)).bind λt12 =>
 some (t12.1,(t12.2,t5.2.2.1,t5.2.2.2.1,t5.2.2.2.2.1,t5.2.2.2.2.2.1,t5.2.2.2.2.2.2.1,t5.2.2.2.2.2.2.2.1,t5.2.2.2.2.2.2.2.2.1,t5.2.2.2.2.2.2.2.2.2.1,t5.2.2.2.2.2.2.2.2.2.2.1,t5.2.2.2.2.2.2.2.2.2.2.2)))
 (cond (t7.2==1)
 ((bb t7.1 ([[116,101,110,45,98,121,116,101,115,45],[101,108,101,118,101,110,45,98,121,116,101]]:List (List UInt8))).bind λt18 =>
 some (t18.1,(t5.2.1,t18.2,t5.2.2.2.1,t5.2.2.2.2.1,t5.2.2.2.2.2.1,t5.2.2.2.2.2.2.1,t5.2.2.2.2.2.2.2.1,t5.2.2.2.2.2.2.2.2.1,t5.2.2.2.2.2.2.2.2.2.1,t5.2.2.2.2.2.2.2.2.2.2.1,t5.2.2.2.2.2.2.2.2.2.2.2)))
 (cond (t7.2==2)
 ((gy t7.1).bind λt23 =>
 some (t23.1,(t5.2.1,t5.2.2.1,t23.2,t5.2.2.2.2.1,t5.2.2.2.2.2.1,t5.2.2.2.2.2.2.1,t5.2.2.2.2.2.2.2.1,t5.2.2.2.2.2.2.2.2.1,t5.2.2.2.2.2.2.2.2.2.1,t5.2.2.2.2.2.2.2.2.2.2.1,t5.2.2.2.2.2.2.2.2.2.2.2)))
 (cond (t7.2==3)
 ((gA t7.1).bind λt28 =>
 some (t28.1,(t5.2.1,t5.2.2.1,t5.2.2.2.1,t28.2,t5.2.2.2.2.2.1,t5.2.2.2.2.2.2.1,t5.2.2.2.2.2.2.2.1,t5.2.2.2.2.2.2.2.2.1,t5.2.2.2.2.2.2.2.2.2.1,t5.2.2.2.2.2.2.2.2.2.2.1,t5.2.2.2.2.2.2.2.2.2.2.2)))
 (cond (t7.2==4)
 ((gB t7.1).bind λt34 =>
 some (t34.1,(t5.2.1,t5.2.2.1,t5.2.2.2.1,t5.2.2.2.2.1,t34.2.1.1,t34.2.1.2,t5.2.2.2.2.2.2.2.1,t5.2.2.2.2.2.2.2.2.1,t5.2.2.2.2.2.2.2.2.2.1,t5.2.2.2.2.2.2.2.2.2.2.1,t5.2.2.2.2.2.2.2.2.2.2.2)))
 (cond (t7.2==5)
 ((af t7.1 ([(-1),1000000,1000001]:List Int)).bind λt42 =>
 some (t42.1,(t5.2.1,t5.2.2.1,t5.2.2.2.1,t5.2.2.2.2.1,t5.2.2.2.2.2.1,t5.2.2.2.2.2.2.1,t5.2.2.2.2.2.2.2.1,t5.2.2.2.2.2.2.2.2.1,t5.2.2.2.2.2.2.2.2.2.1,t42.2,t5.2.2.2.2.2.2.2.2.2.2.2)))
 (some (t7.1,t5.2)))))))
def kL:FL:=(98,⟨[.ptr vP none],[.val true uR (some true)],λa=>fo a⟩)::kK
theorem qm:Gd kL:=uK qk 98 Tryz.f98 [] Tryz.func98
def iY (b0:uz) (p1:v9):Option Bool :=
 (aN b0).bind λt6 =>
 (cond t6
 ((bD p1).bind λt9 =>
 some t9)
 (some false)).bind λt10 =>
 (cond t10 (some (p1.1 != 162)) (some false)).bind λt15 =>
 some t15
def kM:FL:=(82,⟨[.val true uR false,.val true wQ false],[.val false vr (some true)],λa=>iY a.1 a.2⟩)::kL
theorem qn:Gd kM:=uK qm 82 Tryz.f82 [] Tryz.func82
def ar (b0:List Int) (tag1:Int) (body2:List Int):Option (List Int) :=
 (uV ([]:List Int) b0).bind λzs10 =>
 (ae tag1 0 255).bind λt12 =>
 (cond (!t12) (some true) (some (decide ((body2.length:Int)>250)))).bind λt18 =>
 cond t18
 (some zs10)
 ((uV zs10 [IntKind.u8.wrap (tag1)]).bind λzs24 =>
 cond (decide ((body2.length:Int)>127))
 ((uV zs24 ([129]:List Int)).bind λzs30 =>
 (uV zs30 [IntKind.u8.wrap ((body2.length:Int))]).bind λzs36 =>
 (uV zs36 body2).bind λzs38 =>
 some zs38)
 ((uV zs24 [IntKind.u8.wrap ((body2.length:Int))]).bind λzs36_1 =>
 (uV zs36_1 body2).bind λzs38_1 =>
 some zs38_1))
def kN:FL:=(201,⟨[.val false wv false,.val false uI false,.val false wv false],[.val false wv (some true)],λa=>ar a.1 a.2.1 a.2.2⟩)::kM
theorem qo:Gd kN:=uK qn 201 Tryz.f201 [] Tryz.func201
def bW (n0_1:Int) (out3:List Int):Option ((Int×List Int)⊕(List Int)) :=
 (cond (decide (n0_1<(-128))) (some true) (some (decide (n0_1>127)))).bind λt14 =>
 cond t14
 ((uV [IntKind.u8.wrap (n0_1.fdiv (2^8))] out3).bind λzs21 =>
 some (.inl (n0_1.fdiv (2^8),zs21)))
 (some (.inr out3))
def bc (n0:Int):Option (List Int) :=
 (aw n0).bind λt5 =>
 (loop (λz=>bW z.1 z.2) (t5,[IntKind.u8.wrap (t5)])).bind λd =>
 some d
def kO:FL:=(300,⟨[.val false uI false],[.val false wv (some true)],λa=>bc a⟩)::kN
theorem qp:Gd kO:=uK qo 300 Tryz.f300 [(0,⟨⟨[(0,false,[dI]),(3,false,[.own 1000000000]),(12,false,[.undef]),(13,false,[.undef])],[(1000000000,.root (.one (.int .u8)) true)]⟩,
 ⟨[(3,false,[.own 1000000300])],[(1000000300,.root (.one (.int .u8)) true)]⟩,none⟩)] Tryz.func300
def bY (n0_1:Int) (out3:List Int):Option ((Int×List Int)⊕(List Int)) :=
 cond (decide (n0_1>127))
 ((uV [IntKind.u8.wrap (BU .i64 (xO .i64 (n0_1.fdiv (2^7)) 127) 128)] out3).bind λzs18 =>
 some (.inl (n0_1.fdiv (2^7),zs18)))
 (some (.inr out3))
def dO (n0:Int):Option (List Int) :=
 (loop (λz=>bY z.1 z.2) (n0,[IntKind.u8.wrap (xO .i64 n0 127)])).bind λd =>
 some d
def kP:FL:=(365,⟨[.val false uI false],[.val false wv (some true)],λa=>dO a⟩)::kO
theorem qq:Gd kP:=uK qp 365 Tryz.f365 [(0,⟨⟨[(0,false,[dI]),(3,false,[.own 1000000000])],[(1000000000,.root (.one (.int .u8)) true)]⟩,
 ⟨[(3,false,[.own 1000000300])],[(1000000300,.root (.one (.int .u8)) true)]⟩,none⟩)] Tryz.func365
def cK (o0:List Int) (i4:Int) (b3:List Int):Option ((Int×List Int)⊕(List Int)) :=
 cond (decide (i4<(o0.length:Int)))
 ((at? o0 i4).bind λx19 =>
 (dO x19).bind λt21 =>
 (uV b3 t21).bind λzs22 =>
 some (.inl (uB (i4+1),zs22)))
 (some (.inr b3))
def fp (o0:List Int):Option (List Int) :=
 (bC o0).bind λt7 =>
 cond (!t7)
 (some ([]:List Int))
 ((loop (λz=>cK o0 z.1 z.2) (0,([]:List Int))).bind λd =>
 some d)
def kQ:FL:=(348,⟨[.val false xk false],[.val false wv (some true)],λa=>fp a⟩)::kP
theorem qr:Gd kQ:=uK qq 348 Tryz.f348 [(0,⟨⟨[(3,false,[.own 1000000000]),(4,false,[dI])],[(1000000000,.root (.one (.int .u8)) true)]⟩,
 ⟨[(3,false,[.own 1000000300])],[(1000000300,.root (.one (.int .u8)) true)]⟩,none⟩)] Tryz.func348
def gC (b0:List Int) (v1:yj):Option (List Int) :=
 (bj v1).bind λt7 =>
 cond (!t7)
 ((uV ([]:List Int) b0).bind λzs11 =>
 some zs11)
 (cond (v1.1==2)
 ((bc v1.2.1).bind λt19 =>
 (ar b0 v1.1 t19).bind λt34 =>
 some t34)
 (cond (v1.1==4)
 ((ar b0 v1.1 (xr v1.2.2.1)).bind λt34_1 =>
 some t34_1)
 (cond (v1.1==6)
 ((fp v1.2.2.2).bind λt29 =>
 (ar b0 v1.1 t29).bind λt34_2 =>
 some t34_2)
 ((ar b0 v1.1 ([]:List Int)).bind λt34_3 =>
 some t34_3))))
def kR:FL:=(347,⟨[.val false wv false,.val true zz false],[.val false wv (some true)],λa=>gC a.1 a.2⟩)::kQ
theorem qt:Gd kR:=uK qr 347 Tryz.f347 [] Tryz.func347
def cL (l0:List uC) (i4:Int) (b3:List Int):Option ((Int×List Int)⊕(List Int)) :=
 cond (decide (i4<(l0.length:Int)))
 ((at? l0 i4).bind λx16 =>
 (fp x16.1).bind λt19 =>
 (ar ([]:List Int) 6 t19).bind λt20 =>
 (at? l0 i4).bind λx23 =>
 (gC t20 x23.2).bind λt26 =>
 (ar b3 48 t26).bind λt29 =>
 some (.inl (uB (i4+1),t29)))
 (some (.inr b3))
def gD (l0:List uC):Option (List Int) :=
 (loop (λz=>cL l0 z.1 z.2) (0,([]:List Int))).bind λd =>
 some d
def kS:FL:=(299,⟨[.val false (.one (.sl uU)) false],[.val false wv (some true)],λa=>gD a⟩)::kR
theorem qu:Gd kS:=uK qt 299 Tryz.f299 [(0,⟨⟨[(3,false,[.own 1000000000]),(4,false,[dI])],[(1000000000,.root (.one (.int .u8)) true)]⟩,
 ⟨[(3,false,[.own 1000000300])],[(1000000300,.root (.one (.int .u8)) true)]⟩,none⟩)] Tryz.func299
def iZ (p0:v9):Option ((List Int)×Bool) :=
 (gD p0.2.2.2.2).bind λt8 =>
 cond (decide ((t8.length:Int)>250))
 (some (([]:List Int),false))
 ((bc p0.2.1).bind λt16 =>
 (ar ([]:List Int) 2 t16).bind λt17 =>
 (bc p0.2.2.1).bind λt20 =>
 (ar t17 2 t20).bind λt21 =>
 (bc p0.2.2.2.1).bind λt24 =>
 (ar t21 2 t24).bind λt25 =>
 (ar t25 48 t8).bind λt28 =>
 let t3:=decide ((t28.length:Int)<=250)
 some (t28,t3))
def kT:FL:=(200,⟨[.val true wQ false],[.val false wv (some true),.val false vr (some true)],λa=>iZ a⟩)::kS
theorem qv:Gd kT:=uK qu 200 Tryz.f200 [] Tryz.func200
def fq (p0:v9):Option (List Int) :=
 (bD p0).bind λt6 =>
 cond (!t6)
 (some ([]:List Int))
 ((iZ p0).bind λt11 =>
 cond (!t11.2)
 (some ([]:List Int))
 ((ar ([]:List Int) p0.1 t11.1).bind λt21 =>
 some t21))
def kU:FL:=(104,⟨[.val true wQ false],[.val false wv (some true)],λa=>fq a⟩)::kT
theorem qw:Gd kU:=uK qv 104 Tryz.f104 [] Tryz.func104
def dP (p0:v9):Option Bool :=
 (fq p0).bind λt4 =>
 (ae (t4.length:Int) 1 120).bind λt6 =>
 some t6
def kV:FL:=(25,⟨[.val true wQ false],[.val false vr (some true)],λa=>dP a⟩)::kU
theorem qx:Gd kV:=uK qw 25 Tryz.f25 [] Tryz.func25
def bZ (bulk1:Bool) (b0:Int) (b1:Int) (b2:Int) (b3:Int) (b4:List uC):Option ((Int×Int×Int×Int×List uC)⊕(Int×Int×Int×Int×List uC)) :=
 (cond bulk1
 ((dP (b0,b1,b2,b3,b4)).bind λt8 =>
 some (!t8))
 (some false)).bind λt10 =>
 (cond t10 (some (decide ((b4.length:Int)>0))) (some false)).bind λt16 =>
 cond t16
 ((wO b4.length 0 (uB ((b4.length:Int)-1))).bind λp =>
 some (.inl (b0,b1,b2,b3,(b4.take p.2).drop p.1)))
 (some (.inr (b0,b1,b2,b3,b4)))
def cM (p0:v9) (bulk1:Bool):Option v9 :=
 (loop (λz=>bZ bulk1 z.1 z.2.1 z.2.2.1 z.2.2.2.1 z.2.2.2.2) p0).bind λd =>
 (dP d).bind λt26 =>
 cond t26 (some d) (some (162,d.2.1,7,0,[]))
def kW:FL:=(87,⟨[.val true wQ true,.val false vr false],[.val true wQ (some true)],λa=>cM a.1 a.2⟩)::kV
theorem qy:Gd kW:=uK qx 87 Tryz.f87 [(0,⟨⟨us 7 3 (us 12 4 []),[(1024,.box [dI,dI,dI,dI,.own 1000000000]),(1000000000,.root uU true)]⟩,
 ⟨[],[(1024,.box [dI,dI,dI,dI,.own 1000000300]),(1000000300,.root uU true)]⟩,none⟩)] Tryz.func87
def qz (a0:List Int) (b1:List Int) (i5:Int):Option (Int⊕(Unit⊕Bool)) :=
 cond (decide (i5<(a0.length:Int)))
 ((at? a0 i5).bind λx19 =>
 (at? b1 i5).bind λx23 =>
 cond (x19 != x23) (some (.inr (.inr false))) (some (.inl (uB (i5+1)))))
 (some (.inr (.inl ())))
def cN (a0:List Int) (b1:List Int):Option Bool :=
 cond ((a0.length:Int) != (b1.length:Int))
 (some false)
 ((loop (λz=>qz a0 b1 z) 0).bind (Sum.elim (λd =>
 some true) (λr=>some r)))
def kX:FL:=(289,⟨[.val false xk false,.val false xk false],[.val false vr (some true)],λa=>cN a.1 a.2⟩)::kW
theorem qA:Gd kX:=uK qy 289 Tryz.f289 [(0,⟨⟨[(5,false,[dI])],[]⟩,
 ⟨[],[]⟩,some ⟨[(4,false,[dB])],[]⟩⟩)] Tryz.func289
def ja (o0:List Int) (head1:List Int):Option Bool :=
 (cond (decide ((o0.length:Int)>(head1.length:Int)))
 ((cut o0 0 (head1.length:Int)).bind λt14 =>
 (cN t14 head1).bind λt16 =>
 some t16)
 (some false)).bind λt17 =>
 some t17
def kY:FL:=(369,⟨[.val false xk false,.val false xk false],[.val false vr (some true)],λa=>ja a.1 a.2⟩)::kX
theorem qB:Gd kY:=uK qA 369 Tryz.f369 [] Tryz.func369
def fr (o0:List Int):Option ((List Int)×Bool) :=
 (ja o0 ([1,3,1]:List Int)).bind λt6 =>
 cond (!t6)
 (some (([]:List Int),false))
 ((cut o0 3 (o0.length:Int)).bind λt10 =>
 some (t10,true))
def kZ:FL:=(362,⟨[.val false xk false],[.val false xk none,.val false vr (some true)],λa=>fr a⟩)::kY
theorem qC:Gd kZ:=uK qB 362 Tryz.f362 [] Tryz.func362
def gE (p0:uz) (i1:List Int):Option Bool :=
 (fr i1).bind λt9 =>
 cond (!t9.2)
 (some false)
 (cond ((t9.1.length:Int)==2)
 ((at? t9.1 0).bind λx18 =>
 (cond (x18==1)
 ((at? t9.1 1).bind λx23 =>
 some (x23==1))
 (some false)).bind λt26 =>
 some t26)
 (cond ((t9.1.length:Int) != 3)
 (some false)
 ((at? t9.1 0).bind λx31 =>
 cond (x31==2)
 ((at? t9.1 1).bind λx36 =>
 (cond (x36==2)
 (some true)
 ((at? t9.1 1).bind λx41 =>
 some (x41==4))).bind λt44 =>
 (cond t44
 ((at? t9.1 2).bind λx47 =>
 (ae x47 1 (p0.2.2.1.length:Int)).bind λt52 =>
 some t52)
 (some false)).bind λt53 =>
 some t53)
 (cond (x31==3)
 ((at? t9.1 1).bind λx57 =>
 (cond (x57==1)
 ((at? t9.1 2).bind λx62 =>
 (ae x62 1 99).bind λt64 =>
 some t64)
 (some false)).bind λt65 =>
 (cond t65
 (some true)
 ((at? t9.1 1).bind λx68 =>
 (cond (x68==2)
 (some true)
 ((at? t9.1 1).bind λx73 =>
 some (x73==3))).bind λt76 =>
 (cond t76
 ((at? t9.1 2).bind λx81 =>
 (bp (p0.2.2.2.2.1,p0.2.2.2.2.2.1) x81).bind λt83 =>
 some (decide (t83>=0)))
 (some false)).bind λt85 =>
 some t85)).bind λt86 =>
 some t86)
 (some false)))))
def l6:FL:=(338,⟨[.val true uR false,.val false xk false],[.val false vr (some true)],λa=>gE a.1 a.2⟩)::kZ
theorem qD:Gd l6:=uK qC 338 Tryz.f338 [] Tryz.func338
def gF (p0:uz) (i1:List Int):Option Bool :=
 (fr i1).bind λt9 =>
 cond (!t9.2)
 (some false)
 (cond ((t9.1.length:Int)==2)
 ((at? t9.1 0).bind λx19 =>
 (cond (x19==1)
 ((at? t9.1 1).bind λx24 =>
 (ae x24 2 5).bind λt26 =>
 some t26)
 (some false)).bind λt27 =>
 some t27)
 (cond ((t9.1.length:Int)==3)
 ((at? t9.1 0).bind λx31 =>
 (cond (x31==2)
 ((at? t9.1 1).bind λx36 =>
 (cond (x36==1)
 (some true)
 ((at? t9.1 1).bind λx41 =>
 some (x41==3))).bind λt44 =>
 some t44)
 (some false)).bind λt45 =>
 (cond t45
 ((at? t9.1 2).bind λx48 =>
 (ae x48 1 (p0.2.2.1.length:Int)).bind λt53 =>
 some t53)
 (some false)).bind λt54 =>
 some t54)
 (cond ((t9.1.length:Int)==4)
 ((at? t9.1 0).bind λx58 =>
 (cond (x58==4)
 ((at? t9.1 1).bind λx63 =>
 some (x63==1))
 (some false)).bind λt66 =>
 (cond t66
 ((at? t9.1 2).bind λx71 =>
 (at? t9.1 3).bind λx74 =>
 (bT p0.2.2.2.1 x71 x74).bind λt76 =>
 some (decide (t76>=0)))
 (some false)).bind λt78 =>
 some t78)
 (some false))))
def l7:FL:=(339,⟨[.val true uR false,.val false xk false],[.val false vr (some true)],λa=>gF a.1 a.2⟩)::l6
theorem qE:Gd l7:=uK qD 339 Tryz.f339 [] Tryz.func339
def jb (b0:uz) (c1:Int) (p2:Int) (n3:Int):Option (uz×Int) :=
 cond (c1==2)
 ((ae n3 1 1000).bind λt13 =>
 cond (!t13)
 (some (b0,2))
 ((ix b0.2.2.1.length p2).bind λj20 =>
 (b0.2.2.1[j20]?).bind λx =>
 some ((b0.1,b0.2.1,b0.2.2.1.set j20 (x.1,n3,x.2.2.1,x.2.2.2.1,x.2.2.2.2.1,x.2.2.2.2.2.1,x.2.2.2.2.2.2.1,x.2.2.2.2.2.2.2),b0.2.2.2.1,b0.2.2.2.2.1,b0.2.2.2.2.2.1,b0.2.2.2.2.2.2.1,b0.2.2.2.2.2.2.2.1,b0.2.2.2.2.2.2.2.2.1,b0.2.2.2.2.2.2.2.2.2.1,b0.2.2.2.2.2.2.2.2.2.2),0)))
 ((ix b0.2.2.2.2.2.1.length p2).bind λj28 =>
 (b0.2.2.2.2.2.1[j28]?).bind λx_1 =>
 some ((b0.1,b0.2.1,b0.2.2.1,b0.2.2.2.1,b0.2.2.2.2.1,b0.2.2.2.2.2.1.set j28 n3,b0.2.2.2.2.2.2.1,b0.2.2.2.2.2.2.2.1,b0.2.2.2.2.2.2.2.2.1,b0.2.2.2.2.2.2.2.2.2.1,b0.2.2.2.2.2.2.2.2.2.2),0))
def l8:FL:=(340,⟨[.val true uR true,.val false uI false,.val false uI false,.val false uI false],[.val true uR (some true),.val false uI (some true)],λa=>jb a.1 a.2.1 a.2.2.1 a.2.2.2⟩)::l7
theorem qF:Gd l8:=uK qE 340 Tryz.f340 [] Tryz.func340
def jc (b0:uz) (id1:Int) (n2:Int):Option (uz×Int) :=
 (bp (b0.2.2.2.2.1,b0.2.2.2.2.2.1) id1).bind λt12 =>
 (cond (n2==4) (some (decide (t12<0))) (some false)).bind λt19 =>
 (cond t19 (some (decide ((b0.2.2.2.2.1.length:Int)<6))) (some false)).bind λt26 =>
 cond t26
 ((aG (b0.2.2.2.2.1,b0.2.2.2.2.2.1) (id1,0,0)).bind λt31 =>
 some ((b0.1,b0.2.1,b0.2.2.1,b0.2.2.2.1,t31.1,t31.2,b0.2.2.2.2.2.2.1,b0.2.2.2.2.2.2.2.1,b0.2.2.2.2.2.2.2.2.1,b0.2.2.2.2.2.2.2.2.2.1,b0.2.2.2.2.2.2.2.2.2.2),0))
 ((cond (n2==6) (some (decide (t12>=0))) (some false)).bind λt40 =>
 cond t40
 ((wO b0.2.2.2.2.1.length 0 t12).bind λp =>
 (uV ([]:List uQ) ((b0.2.2.2.2.1.take p.2).drop p.1)).bind λzs47 =>
 (wO b0.2.2.2.2.1.length (uB (t12+1)) (b0.2.2.2.2.1.length:Int)).bind λp_1 =>
 (uV zs47 ((b0.2.2.2.2.1.take p_1.2).drop p_1.1)).bind λzs54 =>
 some ((b0.1,b0.2.1,b0.2.2.1,b0.2.2.2.1,zs54,b0.2.2.2.2.2.1,b0.2.2.2.2.2.2.1,b0.2.2.2.2.2.2.2.1,b0.2.2.2.2.2.2.2.2.1,b0.2.2.2.2.2.2.2.2.2.1,b0.2.2.2.2.2.2.2.2.2.2),0))
 (some (b0,2)))
def l9:FL:=(363,⟨[.val true uR true,.val false uI false,.val false uI false],[.val true uR (some true),.val false uI (some true)],λa=>jc a.1 a.2.1 a.2.2⟩)::l8
theorem qG:Gd l9:=uK qF 363 Tryz.f363 [] Tryz.func363
def gG (b0:uz) (c1:Int) (id2:Int) (n3:Int):Option (uz×Int) :=
 cond (c1==1)
 ((jc b0 id2 n3).bind λt16 =>
 some t16)
 ((shl .i64 1 (IntKind.u64.wrap ((b0.2.2.1.length:Int)))).bind λt24 =>
 (ae n3 0 (uB (t24-1))).bind λt26 =>
 cond (!t26)
 (some (b0,2))
 ((bp (b0.2.2.2.2.1,b0.2.2.2.2.2.1) id2).bind λt35 =>
 (ix b0.2.2.2.2.1.length t35).bind λj36 =>
 (b0.2.2.2.2.1[j36]?).bind λx37 =>
 cond (c1==2)
 ((aG (b0.2.2.2.2.1,b0.2.2.2.2.2.1) (x37.1,n3,x37.2.2)).bind λt47 =>
 some ((b0.1,b0.2.1,b0.2.2.1,b0.2.2.2.1,t47.1,t47.2,b0.2.2.2.2.2.2.1,b0.2.2.2.2.2.2.2.1,b0.2.2.2.2.2.2.2.2.1,b0.2.2.2.2.2.2.2.2.2.1,b0.2.2.2.2.2.2.2.2.2.2),0))
 ((aG (b0.2.2.2.2.1,b0.2.2.2.2.2.1) (x37.1,x37.2.1,n3)).bind λt47_1 =>
 some ((b0.1,b0.2.1,b0.2.2.1,b0.2.2.2.1,t47_1.1,t47_1.2,b0.2.2.2.2.2.2.1,b0.2.2.2.2.2.2.2.1,b0.2.2.2.2.2.2.2.2.1,b0.2.2.2.2.2.2.2.2.2.1,b0.2.2.2.2.2.2.2.2.2.2),0))))
def lb:FL:=(341,⟨[.val true uR true,.val false uI false,.val false uI false,.val false uI false],[.val true uR (some true),.val false uI (some true)],λa=>gG a.1 a.2.1 a.2.2.1 a.2.2.2⟩)::l9
theorem qH:Gd lb:=uK qG 341 Tryz.f341 [] Tryz.func341
def ft (p0:uz) (i1:uC):Option (uz×Int) :=
 (ap p0).bind λt9 =>
 (gE p0 i1.1).bind λt13 =>
 cond (!t13)
 ((gF p0 i1.1).bind λt18 =>
 cond t18 (some (t9,4)) (some (t9,3)))
 ((cut i1.1 3 (i1.1.length:Int)).bind λt23 =>
 (at? t23 0).bind λx25 =>
 cond (x25==1)
 (cond (i1.2.1 != 4)
 (some (t9,1))
 (let t34:=decide ((i1.2.2.2.1.length:Int)>10)
 cond t34
 (some (t9,2))
 (some ((t9.1,i1.2.2.2.1,t9.2.2.1,t9.2.2.2.1,t9.2.2.2.2.1,t9.2.2.2.2.2.1,t9.2.2.2.2.2.2.1,t9.2.2.2.2.2.2.2.1,t9.2.2.2.2.2.2.2.2.1,t9.2.2.2.2.2.2.2.2.2.1,t9.2.2.2.2.2.2.2.2.2.2),0))))
 (cond (i1.2.1 != 2)
 (some (t9,1))
 ((at? t23 0).bind λx52 =>
 cond (x52==2)
 ((at? t23 1).bind λx57 =>
 (at? t23 2).bind λx60 =>
 (jb t9 x57 (uB (x60-1)) i1.2.2.1).bind λt66 =>
 some t66)
 ((at? t23 1).bind λx71 =>
 (at? t23 2).bind λx74 =>
 (gG t9 x71 x74 i1.2.2.1).bind λt79 =>
 some t79))))
def lc:FL:=(290,⟨[.val true uR false,.val true uU false],[.val true uR (some true),.val false uI (some true)],λa=>ft a.1 a.2⟩)::lb
theorem qI:Gd lc:=uK qH 290 Tryz.f290 [] Tryz.func290
def fu (id0:Int) (l1:List Pt) (n5:Int) (i6:Int):Option ((Int×Int)⊕Int) :=
 (cond (decide (i6<(l1.length:Int))) (some (decide (i6<6))) (some false)).bind λt14 =>
 cond t14
 ((fj id0 l1 i6).bind λt20 =>
 cond (decide (t20<=2))
 ((shl .i64 1 (IntKind.u64.wrap (i6))).bind λt25 =>
 some (.inl (BU .i64 n5 t25,uB (i6+1))))
 (some (.inl (n5,uB (i6+1)))))
 (some (.inr n5))
def gH (id0:Int) (l1:List Pt):Option Int :=
 (loop (λz=>fu id0 l1 z.1 z.2) (0,0)).bind λd =>
 some d
def ld:FL:=(255,⟨[.val false uI false,.val false (.one (.sl wX)) false],[.val false uI (some true)],λa=>gH a.1 a.2⟩)::lc
theorem qJ:Gd ld:=uK qI 255 Tryz.f255 [(0,⟨⟨[(5,false,[dI]),(6,false,[dI]),(12,false,[.undef]),(13,false,[.undef])],[]⟩,
 ⟨[(5,false,[dI])],[]⟩,none⟩)] Tryz.func255
def gI (n0:Int) (port1:Int):Option Bool :=
 (ae port1 0 7).bind λt6 =>
 (cond t6
 ((shr .i64 n0 (IntKind.u64.wrap (port1))).bind λt11 =>
 some ((xO .i64 t11 1)==1))
 (some false)).bind λt14 =>
 some t14
def lf:FL:=(257,⟨[.val false uI false,.val false uI false],[.val false vr (some true)],λa=>gI a.1 a.2⟩)::ld
theorem qK:Gd lf:=uK qJ 257 Tryz.f257 [] Tryz.func257
def dQ (l0:List uF) (port1:Int) (i6:Int) (out5:List uF):Option ((Int×List uF)⊕(List uF)) :=
 cond (decide (i6<(l0.length:Int)))
 ((at? l0 i6).bind λx16 =>
 (cond x16.2.2.2.2
 (some true)
 ((at? l0 i6).bind λx22 =>
 some (x22.2.2.1 != port1))).bind λt27 =>
 cond t27
 ((at? l0 i6).bind λx31 =>
 (uV out5 [x31]).bind λzs34 =>
 some (.inl (uB (i6+1),zs34)))
 (some (.inl (uB (i6+1),out5))))
 (some (.inr out5))
def gJ (l0:List uF) (port1:Int):Option (List uF) :=
 (loop (λz=>dQ l0 port1 z.1 z.2) (0,([]:List uF))).bind λd =>
 some d
def lg:FL:=(342,⟨[.val false (.one (.sl uY)) false,.val false uI false],[.val false (.one (.sl uY)) (some true)],λa=>gJ a.1 a.2⟩)::lf
theorem qL:Gd lg:=uK qK 342 Tryz.f342 [(0,⟨⟨(5,false,[.own 1000000000])::(6,false,[dI])::us 20 7 [],[(1000000000,.root uY true)]⟩,
 ⟨[(5,false,[.own 1000000300])],[(1000000300,.root uY true)]⟩,none⟩)] Tryz.func342
def gK (b0:uz) (t13:Int) (i4:Int) (b0_1:Int) (b1:List UInt8) (b6:Int) (b7:Int) (b8:Int) (b9:Int) (b10:Int) (b3:List uF):Option ((Int×Int×List UInt8×Int×Int×Int×Int×Int×List uF)⊕(Int×List UInt8×Int×Int×Int×Int×Int×List uF)) :=
 cond (decide (i4<(b0.2.2.1.length:Int)))
 ((gI t13 i4).bind λt23 =>
 cond (!t23)
 ((gJ b3 i4).bind λt28 =>
 some (.inl (uB (i4+1),b0_1,b1,b6,b7,b8,b9,b10,t28)))
 (some (.inl (uB (i4+1),b0_1,b1,b6,b7,b8,b9,b10,b3))))
 (some (.inr (b0_1,b1,b6,b7,b8,b9,b10,b3)))
def ca (b0:uz):Option uz :=
 (bm b0.2.2.2.2.2.2.2.2.2.2).bind λt7 =>
 (gH b0.1 b0.2.2.1).bind λt13 =>
 (loop (λz=>gK b0 t13 z.1 z.2.1 z.2.2.1 z.2.2.2.1 z.2.2.2.2.1 z.2.2.2.2.2.1 z.2.2.2.2.2.2.1 z.2.2.2.2.2.2.2.1 z.2.2.2.2.2.2.2.2) (0,b0.1,b0.2.1,b0.2.2.2.2.2.2.1,b0.2.2.2.2.2.2.2.1,b0.2.2.2.2.2.2.2.2.1,b0.2.2.2.2.2.2.2.2.2.1,t7,b0.2.2.2.1)).bind λd =>
 some (d.1,d.2.1,b0.2.2.1,d.2.2.2.2.2.2.2,b0.2.2.2.2.1,b0.2.2.2.2.2.1,d.2.2.1,d.2.2.2.1,d.2.2.2.2.1,d.2.2.2.2.2.1,d.2.2.2.2.2.2.1)
def lh:FL:=(291,⟨[.val true uR true],[.val true uR (some true)],λa=>ca a⟩)::lg
theorem qM:Gd lh:=uK qL 291 Tryz.f291 [(0,⟨⟨[(4,false,[dI])],[(1024,.box [dI,dS,.same 3,.own 1000000000,.same 5,.same 6,dI,dI,dI,dI,dI]),(1000000000,.root uY true)]⟩,
 ⟨[],[(1024,.box [dI,dS,.same 3,.own 1000000300,.same 5,.same 6,dI,dI,dI,dI,dI]),(1000000300,.root uY true)]⟩,none⟩)] Tryz.func291
def fv (p0:uz) (i1:List uC) (t8:Int) (t9:Int) (b0_2:Int) (b1_2:List UInt8) (b6_2:Int) (b7_2:Int) (b8_2:Int) (b9_2:Int) (b10_2:Int):Option ((Int×Int×List UInt8×Int×Int×Int×Int×Int)⊕((Int×List UInt8×Int×Int×Int×Int×Int)⊕(Int×Int×Int×List UInt8×Int×Int×Int×Int×Int×List Pt×List uF×List uQ×List Int))) :=
 cond (decide (t9<t8))
 ((at? i1 t9).bind λx36 =>
 (at? i1 t8).bind λx41 =>
 (cN x36.1 x41.1).bind λt44 =>
 cond t44
 ((ap p0).bind λt46 =>
 some (.inr (.inr (5,uB (t8+1),t46.1,t46.2.1,t46.2.2.2.2.2.2.1,t46.2.2.2.2.2.2.2.1,t46.2.2.2.2.2.2.2.2.1,t46.2.2.2.2.2.2.2.2.2.1,t46.2.2.2.2.2.2.2.2.2.2,t46.2.2.1,t46.2.2.2.1,t46.2.2.2.2.1,t46.2.2.2.2.2.1))))
 (some (.inl (uB (t9+1),b0_2,b1_2,b6_2,b7_2,b8_2,b9_2,b10_2))))
 (some (.inr (.inl (b0_2,b1_2,b6_2,b7_2,b8_2,b9_2,b10_2))))
def gL (p0:uz) (i1:List uC) (t8:Int) (b0:Int) (b1:List UInt8) (b6:Int) (b7:Int) (b8:Int) (b9:Int) (b10:Int) (b0_1:Int) (b1_1:List UInt8) (b6_1:Int) (b7_1:Int) (b8_1:Int) (b9_1:Int) (b10_1:Int) (b2:List Pt) (b3:List uF) (b4:List uQ) (b5:List Int) (b2_1:List Pt) (b3_1:List uF) (b4_1:List uQ) (b5_1:List Int):Option ((Int×Int×List UInt8×Int×Int×Int×Int×Int×Int×List UInt8×Int×Int×Int×Int×Int×List Pt×List uF×List uQ×List Int×List Pt×List uF×List uQ×List Int)⊕((Int×List UInt8×Int×Int×Int×Int×Int×Int×List UInt8×Int×Int×Int×Int×Int×List Pt×List uF×List uQ×List Int×List Pt×List uF×List uQ×List Int)⊕(Int×Int×Int×List UInt8×Int×Int×Int×Int×Int×List Pt×List uF×List uQ×List Int))) :=
 cond (decide (t8<(i1.length:Int)))
 ((loop (λz=>fv p0 i1 t8 z.1 z.2.1 z.2.2.1 z.2.2.2.1 z.2.2.2.2.1 z.2.2.2.2.2.1 z.2.2.2.2.2.2.1 z.2.2.2.2.2.2.2) (0,b0,b1,b6,b7,b8,b9,b10)).bind (Sum.elim (λd =>
 (at? i1 t8).bind λx53 =>
 (ft (b0_1,b1_1,b2_1,b3_1,b4_1,b5_1,b6_1,b7_1,b8_1,b9_1,b10_1) x53).bind λt55 =>
 cond (t55.2 != 0)
 ((ap p0).bind λt61 =>
 some (.inr (.inr (t55.2,uB (t8+1),t61.1,t61.2.1,t61.2.2.2.2.2.2.1,t61.2.2.2.2.2.2.2.1,t61.2.2.2.2.2.2.2.2.1,t61.2.2.2.2.2.2.2.2.2.1,t61.2.2.2.2.2.2.2.2.2.2,t61.2.2.1,t61.2.2.2.1,t61.2.2.2.2.1,t61.2.2.2.2.2.1))))
 (some (.inl (uB (t8+1),d.1,d.2.1,d.2.2.1,d.2.2.2.1,d.2.2.2.2.1,d.2.2.2.2.2.1,d.2.2.2.2.2.2,t55.1.1,t55.1.2.1,t55.1.2.2.2.2.2.2.1,t55.1.2.2.2.2.2.2.2.1,t55.1.2.2.2.2.2.2.2.2.1,t55.1.2.2.2.2.2.2.2.2.2.1,t55.1.2.2.2.2.2.2.2.2.2.2,b2,b3,b4,b5,t55.1.2.2.1,t55.1.2.2.2.1,t55.1.2.2.2.2.1,t55.1.2.2.2.2.2.1)))) (λr=>some (.inr (.inr r)))))
 (some (.inr (.inl (b0,b1,b6,b7,b8,b9,b10,b0_1,b1_1,b6_1,b7_1,b8_1,b9_1,b10_1,b2,b3,b4,b5,b2_1,b3_1,b4_1,b5_1))))
def gM (p0:uz) (i1:List uC):Option (uz×Int×Int) :=
 (ap p0).bind λt13 =>
 (aN p0).bind λt15 =>
 (cond (!t15) (some (decide ((i1.length:Int)>0))) (some false)).bind λt21 =>
 cond t21
 (some (t13,3,1))
 ((loop (λz=>gL p0 i1 z.1 z.2.1 z.2.2.1 z.2.2.2.1 z.2.2.2.2.1 z.2.2.2.2.2.1 z.2.2.2.2.2.2.1 z.2.2.2.2.2.2.2.1 z.2.2.2.2.2.2.2.2.1 z.2.2.2.2.2.2.2.2.2.1 z.2.2.2.2.2.2.2.2.2.2.1 z.2.2.2.2.2.2.2.2.2.2.2.1 z.2.2.2.2.2.2.2.2.2.2.2.2.1 z.2.2.2.2.2.2.2.2.2.2.2.2.2.1 z.2.2.2.2.2.2.2.2.2.2.2.2.2.2.1 z.2.2.2.2.2.2.2.2.2.2.2.2.2.2.2.1 z.2.2.2.2.2.2.2.2.2.2.2.2.2.2.2.2.1 z.2.2.2.2.2.2.2.2.2.2.2.2.2.2.2.2.2.1 z.2.2.2.2.2.2.2.2.2.2.2.2.2.2.2.2.2.2.1 z.2.2.2.2.2.2.2.2.2.2.2.2.2.2.2.2.2.2.2.1 z.2.2.2.2.2.2.2.2.2.2.2.2.2.2.2.2.2.2.2.2.1 z.2.2.2.2.2.2.2.2.2.2.2.2.2.2.2.2.2.2.2.2.2.1 z.2.2.2.2.2.2.2.2.2.2.2.2.2.2.2.2.2.2.2.2.2.2) (0,0,[],0,0,0,0,0,t13.1,t13.2.1,t13.2.2.2.2.2.2.1,t13.2.2.2.2.2.2.2.1,t13.2.2.2.2.2.2.2.2.1,t13.2.2.2.2.2.2.2.2.2.1,t13.2.2.2.2.2.2.2.2.2.2,[],[],[],[],t13.2.2.1,t13.2.2.2.1,t13.2.2.2.2.1,t13.2.2.2.2.2.1)).bind (Sum.elim (λd_1 =>
 cond ((i1.length:Int)==0)
 (some ((d_1.2.2.2.2.2.2.2.1,d_1.2.2.2.2.2.2.2.2.1,d_1.2.2.2.2.2.2.2.2.2.2.2.2.2.2.2.2.2.2.1,d_1.2.2.2.2.2.2.2.2.2.2.2.2.2.2.2.2.2.2.2.1,d_1.2.2.2.2.2.2.2.2.2.2.2.2.2.2.2.2.2.2.2.2.1,d_1.2.2.2.2.2.2.2.2.2.2.2.2.2.2.2.2.2.2.2.2.2,d_1.2.2.2.2.2.2.2.2.2.1,d_1.2.2.2.2.2.2.2.2.2.2.1,d_1.2.2.2.2.2.2.2.2.2.2.2.1,d_1.2.2.2.2.2.2.2.2.2.2.2.2.1,d_1.2.2.2.2.2.2.2.2.2.2.2.2.2.1),0,0))
 ((aP d_1.2.2.2.2.2.2.2.2.2.2.2.2.2.2.2.2.2.2.2.2 (d_1.2.2.2.2.2.2.2.2.2.2.2.2.2.2.2.2.2.2.1.length:Int)).bind λt75 =>
 cond (!t75)
 ((ap p0).bind λt78 =>
 some (t78,5,(i1.length:Int)))
 ((ca (d_1.2.2.2.2.2.2.2.1,d_1.2.2.2.2.2.2.2.2.1,d_1.2.2.2.2.2.2.2.2.2.2.2.2.2.2.2.2.2.2.1,d_1.2.2.2.2.2.2.2.2.2.2.2.2.2.2.2.2.2.2.2.1,d_1.2.2.2.2.2.2.2.2.2.2.2.2.2.2.2.2.2.2.2.2.1,d_1.2.2.2.2.2.2.2.2.2.2.2.2.2.2.2.2.2.2.2.2.2,d_1.2.2.2.2.2.2.2.2.2.1,d_1.2.2.2.2.2.2.2.2.2.2.1,d_1.2.2.2.2.2.2.2.2.2.2.2.1,d_1.2.2.2.2.2.2.2.2.2.2.2.2.1,d_1.2.2.2.2.2.2.2.2.2.2.2.2.2.1)).bind λt82 =>
 some (t82,0,0)))) (λr_1=>some ((r_1.2.2.1,r_1.2.2.2.1,r_1.2.2.2.2.2.2.2.2.2.1,r_1.2.2.2.2.2.2.2.2.2.2.1,r_1.2.2.2.2.2.2.2.2.2.2.2.1,r_1.2.2.2.2.2.2.2.2.2.2.2.2,r_1.2.2.2.2.1,r_1.2.2.2.2.2.1,r_1.2.2.2.2.2.2.1,r_1.2.2.2.2.2.2.2.1,r_1.2.2.2.2.2.2.2.2.1),r_1.1,r_1.2.1))))
def lj:FL:=(177,⟨[.val true uR false,.val false (.one (.sl uU)) false],[.val true uR (some true),.val false uI (some true),.val false uI (some true)],λa=>gM a.1 a.2⟩)::lh
theorem qN:Gd lj:=uK qM 177 Tryz.f177 [(0,⟨⟨[(8,false,[dI])],[(2048,.box [dI,dS,.own 1000000000,.own 1000000001,.own 1000000002,.own 1000000003,dI,dI,dI,dI,dI]),(265216,.box [dI,dS,.own 1000000004,.own 1000000005,.own 1000000006,.own 1000000007,dI,dI,dI,dI,dI]),(1000000000,.root wX true),(1000000001,.root uY true),(1000000002,.root vI true),(1000000003,.root uI true),(1000000004,.root wX true),(1000000005,.root uY true),(1000000006,.root vI true),(1000000007,.root uI true)]⟩,
 ⟨[],[(2048,.box [dI,dS,.own 1000000300,.own 1000000301,.own 1000000302,.own 1000000303,dI,dI,dI,dI,dI]),(265216,.box [dI,dS,.own 1000000304,.own 1000000305,.own 1000000306,.own 1000000307,dI,dI,dI,dI,dI]),(1000000300,.root wX true),(1000000301,.root uY true),(1000000302,.root vI true),(1000000303,.root uI true),(1000000304,.root wX true),(1000000305,.root uY true),(1000000306,.root vI true),(1000000307,.root uI true)]⟩,some ⟨[(5,false,[dI]),(6,false,[dI])],[(2048,.box [dI,dS,.own 1000000600,.own 1000000601,.own 1000000602,.own 1000000603,dI,dI,dI,dI,dI]),(1000000600,.root wX true),(1000000601,.root uY true),(1000000602,.root vI true),(1000000603,.root uI true)]⟩⟩),
 (2,⟨⟨[(9,false,[dI])],[(2048,.box [dI,dS,.same 1000000000,.same 1000000001,.same 1000000002,.same 1000000003,dI,dI,dI,dI,dI])]⟩,
 ⟨[],[(2048,.box [dI,dS,.same 1000000000,.same 1000000001,.same 1000000002,.same 1000000003,dI,dI,dI,dI,dI])]⟩,some ⟨[(5,false,[dI]),(6,false,[dI])],[(2048,.box [dI,dS,.own 1000002600,.own 1000002601,.own 1000002602,.own 1000002603,dI,dI,dI,dI,dI]),(1000002600,.root wX true),(1000002601,.root uY true),(1000002602,.root vI true),(1000002603,.root uI true)]⟩⟩)] Tryz.func177
def fw (b0:uz) (p1:v9):Option (uz×v9) :=
 (cu p1.2.2.2.2).bind λt14 =>
 (gM b0 p1.2.2.2.2).bind λt20 =>
 (dP (162,p1.2.1,t20.2.1,t20.2.2,t14)).bind λt29 =>
 (cond (!t29) (some true) (some (t20.2.1 != 0))).bind λt34 =>
 cond t34
 ((ap b0).bind λt36 =>
 (cM (162,p1.2.1,t20.2.1,t20.2.2,t14) false).bind λt38 =>
 some (t36,t38))
 (some (t20.1,(162,p1.2.1,t20.2.1,t20.2.2,t14)))
def lk:FL:=(84,⟨[.val true uR false,.val true wQ false],[.val true uR (some true),.val true wQ (some true)],λa=>fw a.1 a.2⟩)::lj
theorem qO:Gd lk:=uK qN 84 Tryz.f84 [] Tryz.func84
def qP (a0:List Int) (b1:List Int) (i5:Int):Option (Int⊕(Unit⊕Bool)) :=
 (cond (decide (i5<(a0.length:Int))) (some (decide (i5<(b1.length:Int)))) (some false)).bind λt15 =>
 cond t15
 ((at? a0 i5).bind λx20 =>
 (at? b1 i5).bind λx24 =>
 cond (x20 != x24)
 ((at? a0 i5).bind λx29 =>
 (at? b1 i5).bind λx33 =>
 some (.inr (.inr (decide (x29<x33)))))
 (some (.inl (uB (i5+1)))))
 (some (.inr (.inl ())))
def jd (a0:List Int) (b1:List Int):Option Bool :=
 (loop (λz=>qP a0 b1 z) 0).bind (Sum.elim (λd =>
 let t4:=decide ((a0.length:Int)<(b1.length:Int))
 some t4) (λr=>some r))
def ll:FL:=(343,⟨[.val false xk false,.val false xk false],[.val false vr (some true)],λa=>jd a.1 a.2⟩)::lk
theorem qQ:Gd ll:=uK qO 343 Tryz.f343 [(0,⟨⟨(5,false,[dI])::us 11 4 [],[]⟩,
 ⟨[],[]⟩,some ⟨[(4,false,[dB])],[]⟩⟩)] Tryz.func343
def je (o1:List Int) (t8:List uC) (i6:Int) (b1:Int) (b2:Int) (b3:List UInt8) (b0_1:List Int) (b4:List Int):Option ((Int×Int×Int×List UInt8×List Int×List Int)⊕((Int×Int×List UInt8×List Int×List Int)⊕(List Int×Int×Int×List UInt8×List Int))) :=
 cond (decide (i6<(t8.length:Int)))
 ((ix t8.length i6).bind λj18 =>
 (t8[j18]?).bind λx20 =>
 (jd o1 x20.1).bind λt21 =>
 cond t21
 ((ix t8.length i6).bind λj24 =>
 (t8[j24]?).bind λx25 =>
 some (.inr (.inr x25)))
 (some (.inl (uB (i6+1),b1,b2,b3,b0_1,b4))))
 (some (.inr (.inl (b1,b2,b3,b0_1,b4))))
def gN (b0:uz) (o1:List Int):Option uC :=
 (cG b0).bind λt8 =>
 (loop (λz=>je o1 t8 z.1 z.2.1 z.2.2.1 z.2.2.2.1 z.2.2.2.2.1 z.2.2.2.2.2) (0,0,0,[],[],[])).bind (Sum.elim (λd =>
 (uV ([]:List Int) o1).bind λzs28 =>
 some (zs28,130,0,[],[])) (λr=>some r))
def lm:FL:=(292,⟨[.val true uR false,.val false xk false],[.val true uU none],λa=>gN a.1 a.2⟩)::ll
theorem qR:Gd lm:=uK qQ 292 Tryz.f292 [(0,⟨⟨[(6,false,[dI])],[(2048,.box [.own 1000000000,dI,dI,dS,.own 1000000001]),(1000000000,.root uI true),(1000000001,.root uI true)]⟩,
 ⟨[],[(2048,.box [.own 1000000300,dI,dI,dS,.own 1000000301]),(1000000300,.root uI true),(1000000301,.root uI true)]⟩,some ⟨[],[(2048,.box [.dat (.sl uI),dI,dI,dS,.dat (.sl uI)])]⟩⟩)] Tryz.func292
def fx (b0:uz) (from1:List uC) (i6:Int) (out5:List uC):Option ((Int×List uC)⊕(List uC)) :=
 cond (decide (i6<(from1.length:Int)))
 ((at? from1 i6).bind λx16 =>
 cond (x16.2.1==130)
 ((at? from1 i6).bind λx24 =>
 (uV out5 [x24]).bind λzs27 =>
 some (.inl (uB (i6+1),zs27)))
 ((at? from1 i6).bind λx32 =>
 (gN b0 x32.1).bind λt35 =>
 (uV out5 [t35]).bind λzs37 =>
 some (.inl (uB (i6+1),zs37))))
 (some (.inr out5))
def bq (b0:uz) (from1:List uC):Option (List uC) :=
 (loop (λz=>fx b0 from1 z.1 z.2) (0,([]:List uC))).bind λd =>
 some d
def ln:FL:=(178,⟨[.val true uR false,.val false (.one (.sl uU)) false],[.val false (.one (.sl uU)) (some false)],λa=>bq a.1 a.2⟩)::lm
theorem qS:Gd ln:=uK qR 178 Tryz.f178 [(0,⟨⟨[(5,false,[.own 1000000000]),(6,false,[dI])],[(1000000000,.root uU false)]⟩,
 ⟨[(5,false,[.own 1000000300])],[(1000000300,.root uU false)]⟩,none⟩)] Tryz.func178
def fy (l0:List uC) (i4:Int) (out3:List uC):Option ((Int×List uC)⊕(List uC)) :=
 cond (decide (i4<(l0.length:Int)))
 ((at? l0 i4).bind λx15 =>
 (uV out3 ([(x15.1,5,0,[],[])])).bind λzs21 =>
 some (.inl (uB (i4+1),zs21)))
 (some (.inr out3))
def cO (l0:List uC):Option (List uC) :=
 (loop (λz=>fy l0 z.1 z.2) (0,([]:List uC))).bind λd =>
 some d
def lp:FL:=(179,⟨[.val false (.one (.sl uU)) false],[.val false (.one (.sl uU)) (some false)],λa=>cO a⟩)::ln
theorem qT:Gd lp:=uK qS 179 Tryz.f179 [(0,⟨⟨[(3,false,[.own 1000000000]),(4,false,[dI])],[(1000000000,.root uU false)]⟩,
 ⟨[(3,false,[.own 1000000300])],[(1000000300,.root uU false)]⟩,none⟩)] Tryz.func179
def bH (b0:uz) (p1:v9) (told8:List uC) (i9:Int) (out7:List uC):Option ((List uC×Int×List uC)⊕(List uC)) :=
 (cond (decide (i9<p1.2.2.2.1)) (some (decide ((told8.length:Int)>0))) (some false)).bind λt39 =>
 (cond t39 (some (decide ((out7.length:Int)<10))) (some false)).bind λt44 =>
 cond t44
 ((bq b0 told8).bind λt49 =>
 (uV out7 t49).bind λzs52 =>
 some (.inl (t49,uB (i9+1),zs52)))
 (some (.inr out7))
def qU (b0:uz) (p1:v9) (told8_1:List uC) (i9_1:Int) (out7_2:List uC):Option ((List uC×Int×List uC)⊕(List uC)) :=
 (cond (decide (i9_1<p1.2.2.2.1)) (some (decide ((told8_1.length:Int)>0))) (some false)).bind λt39_1 =>
 (cond t39_1 (some (decide ((out7_2.length:Int)<10))) (some false)).bind λt44_1 =>
 cond t44_1
 ((bq b0 told8_1).bind λt49_1 =>
 (uV out7_2 t49_1).bind λzs52_1 =>
 some (.inl (t49_1,uB (i9_1+1),zs52_1)))
 (some (.inr out7_2))
def gO (b0:uz) (p1:v9):Option (List uC) :=
 cond (decide (p1.2.2.1>(p1.2.2.2.2.length:Int)))
 (let k5:=(p1.2.2.2.2.length:Int)
 (cO p1.2.2.2.2).bind λt22 =>
 (wO t22.length 0 k5).bind λp =>
 (bq b0 ((t22.take p.2).drop p.1)).bind λt27 =>
 (cut t22 k5 (t22.length:Int)).bind λt30 =>
 (loop (λz=>bH b0 p1 z.1 z.2.1 z.2.2) (t30,0,t27)).bind λd =>
 cond (decide ((d.length:Int)>10))
 ((wO d.length 0 10).bind λp_1 =>
 some ((d.take p_1.2).drop p_1.1))
 (some d))
 ((cO p1.2.2.2.2).bind λt22_1 =>
 (wO t22_1.length 0 p1.2.2.1).bind λp_2 =>
 (bq b0 ((t22_1.take p_2.2).drop p_2.1)).bind λt27_1 =>
 (cut t22_1 p1.2.2.1 (t22_1.length:Int)).bind λt30_1 =>
 (loop (λz=>qU b0 p1 z.1 z.2.1 z.2.2) (t30_1,0,t27_1)).bind λd_1 =>
 cond (decide ((d_1.length:Int)>10))
 ((wO d_1.length 0 10).bind λp_3 =>
 some ((d_1.take p_3.2).drop p_3.1))
 (some d_1))
def lq:FL:=(180,⟨[.val true uR false,.val true wQ false],[.val false (.one (.sl uU)) (some false)],λa=>gO a.1 a.2⟩)::lp
theorem qV:Gd lq:=uK qT 180 Tryz.f180 [(0,⟨⟨(7,false,[.own 1000000000])::(8,false,[.dat (.sl uU)])::(9,false,[dI])::us 36 3 (us 41 3 []),[(1000000000,.root uU false)]⟩,
 ⟨[(7,false,[.own 1000000300])],[(1000000300,.root uU false)]⟩,none⟩)] Tryz.func180
def jf (o1:List Int) (t8:List uC) (i6:Int) (b0_1:Int) (b1:Int) (b2:List UInt8) (b3:List Int):Option ((Int×Int×Int×List UInt8×List Int)⊕((Int×Int×List UInt8×List Int)⊕(Int×Int×List UInt8×List Int))) :=
 cond (decide (i6<(t8.length:Int)))
 ((ix t8.length i6).bind λj17 =>
 (t8[j17]?).bind λx19 =>
 (cN x19.1 o1).bind λt21 =>
 cond t21
 ((ix t8.length i6).bind λj24 =>
 (t8[j24]?).bind λx26 =>
 some (.inr (.inr x26.2)))
 (some (.inl (uB (i6+1),b0_1,b1,b2,b3))))
 (some (.inr (.inl (b0_1,b1,b2,b3))))
def gP (b0:uz) (o1:List Int):Option yj :=
 (cG b0).bind λt8 =>
 (loop (λz=>jf o1 t8 z.1 z.2.1 z.2.2.1 z.2.2.2.1 z.2.2.2.2) (0,0,0,[],[])).bind (Sum.elim (λd =>
 some (128,0,[],[])) (λr=>some r))
def lr:FL:=(181,⟨[.val true uR false,.val false xk false],[.val true zz none],λa=>gP a.1 a.2⟩)::lq
theorem qW:Gd lr:=uK qV 181 Tryz.f181 [(0,⟨⟨[(6,false,[dI])],[(2048,.box [dI,dI,dS,.own 1000000000]),(1000000000,.root uI true)]⟩,
 ⟨[],[(2048,.box [dI,dI,dS,.own 1000000300]),(1000000300,.root uI true)]⟩,some ⟨[],[(2048,.box [dI,dI,dS,.dat (.sl uI)])]⟩⟩)] Tryz.func181
def dR (b0:uz) (p1:v9) (i6:Int) (out5:List uC):Option ((Int×List uC)⊕(List uC)) :=
 cond (decide (i6<(p1.2.2.2.2.length:Int)))
 ((at? p1.2.2.2.2 i6).bind λx34 =>
 (uV ([]:List Int) x34.1).bind λzs37 =>
 (at? p1.2.2.2.2 i6).bind λx42 =>
 (gP b0 x42.1).bind λt45 =>
 (uV out5 [(zs37,t45.1,t45.2.1,t45.2.2.1,t45.2.2.2)]).bind λzs48 =>
 some (.inl (uB (i6+1),zs48)))
 (some (.inr out5))
def gQ (b0:uz) (p1:v9):Option (List uC) :=
 cond (p1.1==161)
 ((cO p1.2.2.2.2).bind λt14 =>
 (bq b0 t14).bind λt15 =>
 some t15)
 (cond (p1.1==165)
 ((gO b0 p1).bind λt20 =>
 some t20)
 ((loop (λz=>dR b0 p1 z.1 z.2) (0,([]:List uC))).bind λd =>
 some d))
def lu:FL:=(86,⟨[.val true uR false,.val true wQ false],[.val false (.one (.sl uU)) (some false)],λa=>gQ a.1 a.2⟩)::lr
theorem qX:Gd lu:=uK qW 86 Tryz.f86 [(1,⟨⟨[(5,false,[.own 1000001000]),(6,false,[dI])],[(1000001000,.root uU false)]⟩,
 ⟨[(5,false,[.own 1000001300])],[(1000001300,.root uU false)]⟩,none⟩)] Tryz.func86
def gR (b0:uz) (p1:v9):Option (uz×v9×Bool) :=
 (iY b0 p1).bind λt12 =>
 cond (!t12)
 ((ap b0).bind λt15 =>
 some (t15,(0,0,0,0,[]),false))
 (cond (p1.1==163)
 ((fw b0 p1).bind λt23 =>
 some (t23.1,t23.2,true))
 ((gQ b0 p1).bind λt32 =>
 (cu t32).bind λt33 =>
 (ap b0).bind λt36 =>
 (cM (162,p1.2.1,0,0,t33) (p1.1==165)).bind λt41 =>
 some (t36,t41,true)))
def lv:FL:=(14,⟨[.val true uR false,.val true wQ false],[.val true uR (some true),.val true wQ (some true),.val false vr (some true)],λa=>gR a.1 a.2⟩)::lu
theorem qY:Gd lv:=uK qX 14 Tryz.f14 [] Tryz.func14
def cP (p0:List Int) (i1:Int):Option (Int×(List Int)×Int×Bool) :=
 (cond (decide (i1<0)) (some true) (some (decide (i1>=(p0.length:Int))))).bind λt17 =>
 (cond t17 (some true) (some (decide ((uB (i1+1))>=(p0.length:Int))))).bind λt24 =>
 cond t24
 (some (0,([]:List Int),0,false))
 ((at? p0 (uB (i1+1))).bind λx29 =>
 cond (decide ((uB (x29))>127))
 ((cond ((uB (x29)) != 129) (some true) (some (decide ((uB (i1+2))>=(p0.length:Int))))).bind λt43 =>
 (cond t43
 (some true)
 ((at? p0 (uB (i1+2))).bind λx47 =>
 some (decide (x47<128)))).bind λt50 =>
 cond t50
 (some (0,([]:List Int),0,false))
 ((at? p0 (uB (i1+2))).bind λx54 =>
 (cond (decide ((uB (x54))>250))
 (some true)
 (some (decide ((uB (x54))>(uB ((p0.length:Int)-(uB ((uB (i1+2))+1)))))))).bind λt68 =>
 cond t68
 (some (0,([]:List Int),0,false))
 ((at? p0 i1).bind λx72 =>
 (cut p0 (uB ((uB (i1+2))+1)) (uB ((uB ((uB (i1+2))+1))+(uB (x54))))).bind λt81 =>
 (uV ([]:List Int) t81).bind λzs82 =>
 let t6:=uB ((uB ((uB (i1+2))+1))+(uB (x54)))
 some (uB (x72),zs82,t6,true))))
 ((cond (decide ((uB (x29))>250))
 (some true)
 (some (decide ((uB (x29))>(uB ((p0.length:Int)-(uB (i1+2)))))))).bind λt68_1 =>
 cond t68_1
 (some (0,([]:List Int),0,false))
 ((at? p0 i1).bind λx72_1 =>
 (cut p0 (uB (i1+2)) (uB ((uB (i1+2))+(uB (x29))))).bind λt81_1 =>
 (uV ([]:List Int) t81_1).bind λzs82_1 =>
 let t6_1:=uB ((uB (i1+2))+(uB (x29)))
 some (uB (x72_1),zs82_1,t6_1,true))))
def lw:FL:=(237,⟨[.val false wv false,.val false uI false],[.val false uI (some true),.val false wv (some true),.val false uI (some true),.val false vr (some true)],λa=>cP a.1 a.2⟩)::lv
theorem qZ:Gd lw:=uK qY 237 Tryz.f237 [] Tryz.func237
def bI (r0:Bq) (tag1:Int):Option (Bq×List Int) :=
 (cP r0.1 r0.2.1).bind λt18 =>
 (cond r0.2.2 (some true) (some (!t18.2.2.2))).bind λt30 =>
 (cond t30 (some true) (some (t18.1 != tag1))).bind λt35 =>
 cond t35
 (some ((r0.1,r0.2.1,true),([]:List Int)))
 (some ((r0.1,t18.2.2.1,r0.2.2),t18.2.1))
def lz:FL:=(239,⟨[.ptr Bp none,.val false uI false],[.val false wv (some true)],λa=>bI a.1 a.2⟩)::lw
theorem r7:Gd lz:=uK qZ 239 Tryz.f239 [] Tryz.func239
def dU (b0:List Int) (n4:Int) (i5:Int):Option ((Int×Int)⊕Int) :=
 cond (decide (i5<(b0.length:Int)))
 ((at? b0 i5).bind λx28 =>
 let n4_1:=BU .i64 (uB (n4*2^8)) (uB (x28))
 some (.inl (n4_1,uB (i5+1))))
 (some (.inr n4))
def dV (b0:List Int) (n4_3:Int) (i5_1:Int):Option ((Int×Int)⊕Int) :=
 cond (decide (i5_1<(b0.length:Int)))
 ((at? b0 i5_1).bind λx28_1 =>
 let n4_4:=BU .i64 (uB (n4_3*2^8)) (uB (x28_1))
 some (.inl (n4_4,uB (i5_1+1))))
 (some (.inr n4_3))
def fA (b0:List Int):Option (Int×Bool) :=
 (ae (b0.length:Int) 1 4).bind λt8 =>
 cond (!t8)
 (some (0,false))
 ((at? b0 0).bind λx11 =>
 cond (decide ((uB (x11))>127))
 ((loop (λz=>dU b0 z.1 z.2) (uB ((uB (x11))-256),1)).bind λd =>
 (bc d).bind λt33 =>
 cond ((t33.length:Int) != (b0.length:Int)) (some (0,false)) (some (d,true)))
 ((loop (λz=>dV b0 z.1 z.2) (uB (x11),1)).bind λd_1 =>
 (bc d_1).bind λt33_1 =>
 cond ((t33_1.length:Int) != (b0.length:Int)) (some (0,false)) (some (d_1,true))))
def lA:FL:=(320,⟨[.val false wv false],[.val false uI (some true),.val false vr (some true)],λa=>fA a⟩)::lz
theorem r8:Gd lA:=uK r7 320 Tryz.f320 [(0,⟨⟨[(4,false,[dI]),(5,false,[dI])],[]⟩,
 ⟨[(4,false,[dI])],[]⟩,none⟩)] Tryz.func320
def cQ (r0:Bq):Option (Bq×Int) :=
 (bI r0 2).bind λt7 =>
 (fA t7.2).bind λt8 =>
 (cond t7.1.2.2 (some true) (some (!t8.2))).bind λt19 =>
 some ((t7.1.1,t7.1.2.1,t19),t8.1)
def lB:FL:=(238,⟨[.ptr Bp none],[.val false uI (some true)],λa=>cQ a⟩)::lA
theorem r9:Gd lB:=uK r8 238 Tryz.f238 [] Tryz.func238
def aI (p0:List Int) (t5_1:Int) (t6:Int) (t7:Int) (t8:Bool):Option ((Int×Int×Int×Bool)⊕(Int×Int×Int×Bool)) :=
 (cond t8 (some (decide (t5_1<(p0.length:Int)))) (some false)).bind λt25 =>
 (cond t25 (some (decide (t7<4))) (some false)).bind λt29 =>
 cond t29
 ((at? p0 t5_1).bind λx34 =>
 let t6_1:=BU .i64 (uB (t6*2^7)) (uB (xO .u8 x34 127))
 (at? p0 t5_1).bind λx41 =>
 some (.inl (uB (t5_1+1),t6_1,uB (t7+1),decide (x41>127))))
 (some (.inr (t5_1,t6,t7,t8)))
def au (p0:List Int) (t5:Int) (t4:List Int):Option ((Int×List Int)⊕((Int×List Int)⊕(Bool×List Int))) :=
 (cond (decide (t5<(p0.length:Int))) (some (decide ((t4.length:Int)<=10))) (some false)).bind λt18 =>
 cond t18
 ((loop (λz=>aI p0 z.1 z.2.1 z.2.2.1 z.2.2.2) (t5,0,0,true)).bind λd =>
 (cond d.2.2.2
 (some true)
 ((dO d.2.1).bind λt51 =>
 some ((t51.length:Int) != d.2.2.1))).bind λt55 =>
 cond t55
 (some (.inr (.inr (false,([]:List Int)))))
 ((uV t4 [d.2.1]).bind λzs60 =>
 some (.inl (d.1,zs60))))
 (some (.inr (.inl (t5,t4))))
def cc (p0:List Int):Option ((List Int)×Bool) :=
 (loop (λz=>au p0 z.1 z.2) (0,([]:List Int))).bind (Sum.elim (λd_1 =>
 (cond (d_1.1 != (p0.length:Int))
 (some true)
 ((bC d_1.2).bind λt67 =>
 some (!t67))).bind λt69 =>
 cond t69 (some (([]:List Int),false)) (some (d_1.2,true))) (λr=>some (r.2,r.1)))
def lC:FL:=(353,⟨[.val false wv false],[.val false xk (some true),.val false vr (some true)],λa=>cc a⟩)::lB
theorem ra:Gd lC:=uK r9 353 Tryz.f353 [(0,⟨⟨(4,false,[.own 1000000000])::(5,false,[dI])::us 15 3 (us 21 4 (us 27 2 (us 50 5 []))),[(1000000000,.root uI true)]⟩,
 ⟨[(4,false,[.own 1000000300]),(5,false,[dI])],[(1000000300,.root uI true)]⟩,some ⟨[(2,false,[.own 1000000600]),(3,false,[dB])],[(1000000600,.root uI true)]⟩⟩),
 (2,⟨⟨(5,false,[dI])::(6,false,[dI])::(7,false,[dI])::(8,false,[dB])::us 21 4 (us 27 2 []),[]⟩,
 ⟨(5,false,[dI])::(6,false,[dI])::(7,false,[dI])::(8,false,[dB])::us 21 4 (us 27 2 []),[]⟩,none⟩)] Tryz.func353
def gS (b0:List Int) (at1:Int):Option (yj×Int×Bool) :=
 (cP b0 at1).bind λt16 =>
 cond (t16.1==2)
 ((fA t16.2.1).bind λt31 =>
 (cond (!t16.2.2.2) (some true) (some (!t31.2))).bind λt53 =>
 (cond t53
 (some true)
 ((bj (t16.1,t31.1,[],[])).bind λt56 =>
 some (!t56))).bind λt58 =>
 cond t58
 (some ((0,0,[],[]),0,false))
 (some ((t16.1,t31.1,[],[]),t16.2.2.1,true)))
 (cond (t16.1==4)
 ((cond (!t16.2.2.2) (some true) (some (!true))).bind λt53_1 =>
 (cond t53_1
 (some true)
 ((bj (t16.1,0,vW t16.2.1,[])).bind λt56_1 =>
 some (!t56_1))).bind λt58_1 =>
 cond t58_1
 (some ((0,0,[],[]),0,false))
 (some ((t16.1,0,vW t16.2.1,[]),t16.2.2.1,true)))
 (cond (t16.1==6)
 ((cc t16.2.1).bind λt44 =>
 (cond (!t16.2.2.2) (some true) (some (!t44.2))).bind λt53_2 =>
 (cond t53_2
 (some true)
 ((bj (t16.1,0,[],t44.1)).bind λt56_2 =>
 some (!t56_2))).bind λt58_2 =>
 cond t58_2
 (some ((0,0,[],[]),0,false))
 (some ((t16.1,0,[],t44.1),t16.2.2.1,true)))
 (let is12:=(t16.2.1.length:Int)==0
 (cond (!t16.2.2.2) (some true) (some (!is12))).bind λt53_3 =>
 (cond t53_3
 (some true)
 ((bj (t16.1,0,[],[])).bind λt56_3 =>
 some (!t56_3))).bind λt58_3 =>
 cond t58_3
 (some ((0,0,[],[]),0,false))
 (some ((t16.1,0,[],[]),t16.2.2.1,true)))))
def lD:FL:=(354,⟨[.val false wv false,.val false uI false],[.val true zz (some true),.val false uI (some true),.val false vr (some true)],λa=>gS a.1 a.2⟩)::lC
theorem rb:Gd lD:=uK ra 354 Tryz.f354 [] Tryz.func354
def gT (b0:List Int):Option (uC×Bool) :=
 (bI (b0,0,false) 6).bind λt15 =>
 (cc t15.2).bind λt16 =>
 (gS b0 t15.1.2.1).bind λt25 =>
 (cond t15.1.2.2 (some true) (some (!t16.2))).bind λt36 =>
 (cond t36 (some true) (some (!t25.2.2))).bind λt40 =>
 (cond t40 (some true) (some (t25.2.1 != (b0.length:Int)))).bind λt46 =>
 cond t46
 (some (([],0,0,[],[]),false))
 (some ((t16.1,t25.1.1,t25.1.2.1,t25.1.2.2.1,t25.1.2.2.2),true))
def lE:FL:=(321,⟨[.val false wv false],[.val true uU (some true),.val false vr (some true)],λa=>gT a⟩)::lD
theorem re:Gd lE:=uK rb 321 Tryz.f321 [] Tryz.func321
def av (b0:List Int) (b1:Int) (b2:Bool) (b0_1:Int) (b1_1:Int) (b2_1:Int) (b3:Int) (b0_2:List Int) (b1_2:Int) (b2_2:Bool) (b4:List uC):Option ((List Int×Int×Bool×Int×Int×Int×Int×List Int×Int×Bool×List uC)⊕(List Int×Int×Bool×Int×Int×Int×Int×List Int×Int×Bool×List uC)) :=
 (cond (!b2) (some (decide (b1_2<(b0_2.length:Int)))) (some false)).bind λt54 =>
 (cond t54 (some (decide ((b4.length:Int)<=10))) (some false)).bind λt60 =>
 cond t60
 ((bI (b0_2,b1_2,b2_2) 48).bind λt63 =>
 (gT t63.2).bind λt64 =>
 (cond t63.1.2.2 (some true) (some (!t64.2))).bind λt75 =>
 (uV b4 [t64.1]).bind λzs82 =>
 some (.inl (b0,b1,t75,b0_1,b1_1,b2_1,b3,t63.1.1,t63.1.2.1,t63.1.2.2,zs82)))
 (some (.inr (b0,b1,b2,b0_1,b1_1,b2_1,b3,b0_2,b1_2,b2_2,b4)))
def gU (p0:List Int):Option (v9×Bool) :=
 (cP p0 0).bind λt15 =>
 (cQ (t15.2.1,0,false)).bind λt26 =>
 (cQ t26.1).bind λt29 =>
 (cQ t29.1).bind λt32 =>
 (bI t32.1 48).bind λt35 =>
 (loop (λz=>av z.1 z.2.1 z.2.2.1 z.2.2.2.1 z.2.2.2.2.1 z.2.2.2.2.2.1 z.2.2.2.2.2.2.1 z.2.2.2.2.2.2.2.1 z.2.2.2.2.2.2.2.2.1 z.2.2.2.2.2.2.2.2.2.1 z.2.2.2.2.2.2.2.2.2.2) (t35.1.1,t35.1.2.1,t35.1.2.2,t15.1,t26.2,t29.2,t32.2,t35.2,0,false,[])).bind λd =>
 (cond (!t15.2.2.2) (some true) (some (t15.2.2.1 != (p0.length:Int)))).bind λt91 =>
 (cond t91 (some true) (some d.2.2.1)).bind λt97 =>
 (cond t97 (some true) (some (d.2.1 != (t15.2.1.length:Int)))).bind λt106 =>
 (cond t106
 (some true)
 (some (d.2.2.2.2.2.2.2.2.1 != (d.2.2.2.2.2.2.2.1.length:Int)))).bind λt118 =>
 (cond t118
 (some true)
 ((bD (d.2.2.2.1,d.2.2.2.2.1,d.2.2.2.2.2.1,d.2.2.2.2.2.2.1,d.2.2.2.2.2.2.2.2.2.2)).bind λt121 =>
 some (!t121))).bind λt123 =>
 cond t123
 (some ((0,0,0,0,[]),false))
 (some ((d.2.2.2.1,d.2.2.2.2.1,d.2.2.2.2.2.1,d.2.2.2.2.2.2.1,d.2.2.2.2.2.2.2.2.2.2),true))
def lF:FL:=(240,⟨[.val false wv false],[.val true wQ (some true),.val false vr (some true)],λa=>gU a⟩)::lE
theorem rf:Gd lF:=uK re 240 Tryz.f240 [(0,⟨⟨us 44 10 (us 56 4 (us 73 2 [])),[(527360,.box [.dat (.sl (.one (.int .u8))),dI,dB]),(789504,.box [dI,dI,dI,dI,.own 1000000000]),(1839104,.box [.dat (.sl (.one (.int .u8))),dI,dB]),(1000000000,.root uU true)]⟩,
 ⟨[],[(527360,.box [.dat (.sl (.one (.int .u8))),dI,dB]),(789504,.box [dI,dI,dI,dI,.own 1000000300]),(1839104,.box [.dat (.sl (.one (.int .u8))),dI,dB]),(1000000300,.root uU true)]⟩,none⟩)] Tryz.func240
def fB (p0:List UInt8) (i1:List Int):Option (v9×Int) :=
 (cP i1 0).bind λt17 =>
 (cQ (t17.2.1,0,false)).bind λt26 =>
 (bI t26.1 4).bind λt28 =>
 (cond (!t17.2.2.2) (some true) (some (t17.1 != 48))).bind λt34 =>
 (cond t34 (some true) (some (t17.2.2.1 != (i1.length:Int)))).bind λt40 =>
 (cond t40 (some true) (some t28.1.2.2)).bind λt46 =>
 cond t46
 (some ((0,0,0,0,[]),1))
 (cond (t26.2 != 1)
 (some ((0,0,0,0,[]),2))
 (cond (!((vW t28.2)==p0))
 (some ((0,0,0,0,[]),3))
 ((cut t17.2.1 t28.1.2.1 (t17.2.1.length:Int)).bind λt62 =>
 (gU t62).bind λt63 =>
 cond (!t63.2) (some ((0,0,0,0,[]),1)) (some (t63.1,0)))))
def lG:FL:=(136,⟨[.val false Iw false,.val false wv false],[.val true wQ (some true),.val false uI (some true)],λa=>fB a.1 a.2⟩)::lF
theorem rj:Gd lG:=uK rf 136 Tryz.f136 [] Tryz.func136
def fC (a0:uN) (k1:Int):Option uN :=
 (ix a0.2.2.2.2.2.2.2.2.2.2.2.2.1.length k1).bind λj9 =>
 (a0.2.2.2.2.2.2.2.2.2.2.2.2.1[j9]?).bind λx =>
 (ap (a0.1,a0.2.1,a0.2.2.1,a0.2.2.2.1,a0.2.2.2.2.1,a0.2.2.2.2.2.1,a0.2.2.2.2.2.2.1,a0.2.2.2.2.2.2.2.1,a0.2.2.2.2.2.2.2.2.1,a0.2.2.2.2.2.2.2.2.2.1,a0.2.2.2.2.2.2.2.2.2.2.1)).bind λt20 =>
 (ix (a0.2.2.2.2.2.2.2.2.2.2.2.2.1.set j9 (x.1,x.2.1,1,x.2.2.2.1,x.2.2.2.2.1,x.2.2.2.2.2.1,x.2.2.2.2.2.2.1,x.2.2.2.2.2.2.2.1,x.2.2.2.2.2.2.2.2.1,x.2.2.2.2.2.2.2.2.2.1,x.2.2.2.2.2.2.2.2.2.2.1,x.2.2.2.2.2.2.2.2.2.2.2.1,x.2.2.2.2.2.2.2.2.2.2.2.2.1,x.2.2.2.2.2.2.2.2.2.2.2.2.2.1,x.2.2.2.2.2.2.2.2.2.2.2.2.2.2.1,x.2.2.2.2.2.2.2.2.2.2.2.2.2.2.2.1,x.2.2.2.2.2.2.2.2.2.2.2.2.2.2.2.2.1,x.2.2.2.2.2.2.2.2.2.2.2.2.2.2.2.2.2.1,x.2.2.2.2.2.2.2.2.2.2.2.2.2.2.2.2.2.2.1,x.2.2.2.2.2.2.2.2.2.2.2.2.2.2.2.2.2.2.2.1,x.2.2.2.2.2.2.2.2.2.2.2.2.2.2.2.2.2.2.2.2)).length k1).bind λj21 =>
 ((a0.2.2.2.2.2.2.2.2.2.2.2.2.1.set j9 (x.1,x.2.1,1,x.2.2.2.1,x.2.2.2.2.1,x.2.2.2.2.2.1,x.2.2.2.2.2.2.1,x.2.2.2.2.2.2.2.1,x.2.2.2.2.2.2.2.2.1,x.2.2.2.2.2.2.2.2.2.1,x.2.2.2.2.2.2.2.2.2.2.1,x.2.2.2.2.2.2.2.2.2.2.2.1,x.2.2.2.2.2.2.2.2.2.2.2.2.1,x.2.2.2.2.2.2.2.2.2.2.2.2.2.1,x.2.2.2.2.2.2.2.2.2.2.2.2.2.2.1,x.2.2.2.2.2.2.2.2.2.2.2.2.2.2.2.1,x.2.2.2.2.2.2.2.2.2.2.2.2.2.2.2.2.1,x.2.2.2.2.2.2.2.2.2.2.2.2.2.2.2.2.2.1,x.2.2.2.2.2.2.2.2.2.2.2.2.2.2.2.2.2.2.1,x.2.2.2.2.2.2.2.2.2.2.2.2.2.2.2.2.2.2.2.1,x.2.2.2.2.2.2.2.2.2.2.2.2.2.2.2.2.2.2.2.2))[j21]?).bind λx_1 =>
 (ix ((a0.2.2.2.2.2.2.2.2.2.2.2.2.1.set j9 (x.1,x.2.1,1,x.2.2.2.1,x.2.2.2.2.1,x.2.2.2.2.2.1,x.2.2.2.2.2.2.1,x.2.2.2.2.2.2.2.1,x.2.2.2.2.2.2.2.2.1,x.2.2.2.2.2.2.2.2.2.1,x.2.2.2.2.2.2.2.2.2.2.1,x.2.2.2.2.2.2.2.2.2.2.2.1,x.2.2.2.2.2.2.2.2.2.2.2.2.1,x.2.2.2.2.2.2.2.2.2.2.2.2.2.1,x.2.2.2.2.2.2.2.2.2.2.2.2.2.2.1,x.2.2.2.2.2.2.2.2.2.2.2.2.2.2.2.1,x.2.2.2.2.2.2.2.2.2.2.2.2.2.2.2.2.1,x.2.2.2.2.2.2.2.2.2.2.2.2.2.2.2.2.2.1,x.2.2.2.2.2.2.2.2.2.2.2.2.2.2.2.2.2.2.1,x.2.2.2.2.2.2.2.2.2.2.2.2.2.2.2.2.2.2.2.1,x.2.2.2.2.2.2.2.2.2.2.2.2.2.2.2.2.2.2.2.2)).set j21 (x_1.1,x_1.2.1,x_1.2.2.1,x_1.2.2.2.1,x_1.2.2.2.2.1,x_1.2.2.2.2.2.1,x_1.2.2.2.2.2.2.1,x_1.2.2.2.2.2.2.2.1,t20.1,t20.2.1,t20.2.2.1,t20.2.2.2.1,t20.2.2.2.2.1,t20.2.2.2.2.2.1,t20.2.2.2.2.2.2.1,t20.2.2.2.2.2.2.2.1,t20.2.2.2.2.2.2.2.2.1,t20.2.2.2.2.2.2.2.2.2.1,t20.2.2.2.2.2.2.2.2.2.2,x_1.2.2.2.2.2.2.2.2.2.2.2.2.2.2.2.2.2.2.2.1,x_1.2.2.2.2.2.2.2.2.2.2.2.2.2.2.2.2.2.2.2.2)).length k1).bind λj28 =>
 (((a0.2.2.2.2.2.2.2.2.2.2.2.2.1.set j9 (x.1,x.2.1,1,x.2.2.2.1,x.2.2.2.2.1,x.2.2.2.2.2.1,x.2.2.2.2.2.2.1,x.2.2.2.2.2.2.2.1,x.2.2.2.2.2.2.2.2.1,x.2.2.2.2.2.2.2.2.2.1,x.2.2.2.2.2.2.2.2.2.2.1,x.2.2.2.2.2.2.2.2.2.2.2.1,x.2.2.2.2.2.2.2.2.2.2.2.2.1,x.2.2.2.2.2.2.2.2.2.2.2.2.2.1,x.2.2.2.2.2.2.2.2.2.2.2.2.2.2.1,x.2.2.2.2.2.2.2.2.2.2.2.2.2.2.2.1,x.2.2.2.2.2.2.2.2.2.2.2.2.2.2.2.2.1,x.2.2.2.2.2.2.2.2.2.2.2.2.2.2.2.2.2.1,x.2.2.2.2.2.2.2.2.2.2.2.2.2.2.2.2.2.2.1,x.2.2.2.2.2.2.2.2.2.2.2.2.2.2.2.2.2.2.2.1,x.2.2.2.2.2.2.2.2.2.2.2.2.2.2.2.2.2.2.2.2)).set j21 (x_1.1,x_1.2.1,x_1.2.2.1,x_1.2.2.2.1,x_1.2.2.2.2.1,x_1.2.2.2.2.2.1,x_1.2.2.2.2.2.2.1,x_1.2.2.2.2.2.2.2.1,t20.1,t20.2.1,t20.2.2.1,t20.2.2.2.1,t20.2.2.2.2.1,t20.2.2.2.2.2.1,t20.2.2.2.2.2.2.1,t20.2.2.2.2.2.2.2.1,t20.2.2.2.2.2.2.2.2.1,t20.2.2.2.2.2.2.2.2.2.1,t20.2.2.2.2.2.2.2.2.2.2,x_1.2.2.2.2.2.2.2.2.2.2.2.2.2.2.2.2.2.2.2.1,x_1.2.2.2.2.2.2.2.2.2.2.2.2.2.2.2.2.2.2.2.2))[j28]?).bind λx_2 =>
 some (a0.1,a0.2.1,a0.2.2.1,a0.2.2.2.1,a0.2.2.2.2.1,a0.2.2.2.2.2.1,a0.2.2.2.2.2.2.1,a0.2.2.2.2.2.2.2.1,a0.2.2.2.2.2.2.2.2.1,a0.2.2.2.2.2.2.2.2.2.1,a0.2.2.2.2.2.2.2.2.2.2.1,a0.2.2.2.2.2.2.2.2.2.2.2.1,((a0.2.2.2.2.2.2.2.2.2.2.2.2.1.set j9 (x.1,x.2.1,1,x.2.2.2.1,x.2.2.2.2.1,x.2.2.2.2.2.1,x.2.2.2.2.2.2.1,x.2.2.2.2.2.2.2.1,x.2.2.2.2.2.2.2.2.1,x.2.2.2.2.2.2.2.2.2.1,x.2.2.2.2.2.2.2.2.2.2.1,x.2.2.2.2.2.2.2.2.2.2.2.1,x.2.2.2.2.2.2.2.2.2.2.2.2.1,x.2.2.2.2.2.2.2.2.2.2.2.2.2.1,x.2.2.2.2.2.2.2.2.2.2.2.2.2.2.1,x.2.2.2.2.2.2.2.2.2.2.2.2.2.2.2.1,x.2.2.2.2.2.2.2.2.2.2.2.2.2.2.2.2.1,x.2.2.2.2.2.2.2.2.2.2.2.2.2.2.2.2.2.1,x.2.2.2.2.2.2.2.2.2.2.2.2.2.2.2.2.2.2.1,x.2.2.2.2.2.2.2.2.2.2.2.2.2.2.2.2.2.2.2.1,x.2.2.2.2.2.2.2.2.2.2.2.2.2.2.2.2.2.2.2.2)).set j21 (x_1.1,x_1.2.1,x_1.2.2.1,x_1.2.2.2.1,x_1.2.2.2.2.1,x_1.2.2.2.2.2.1,x_1.2.2.2.2.2.2.1,x_1.2.2.2.2.2.2.2.1,t20.1,t20.2.1,t20.2.2.1,t20.2.2.2.1,t20.2.2.2.2.1,t20.2.2.2.2.2.1,t20.2.2.2.2.2.2.1,t20.2.2.2.2.2.2.2.1,t20.2.2.2.2.2.2.2.2.1,t20.2.2.2.2.2.2.2.2.2.1,t20.2.2.2.2.2.2.2.2.2.2,x_1.2.2.2.2.2.2.2.2.2.2.2.2.2.2.2.2.2.2.2.1,x_1.2.2.2.2.2.2.2.2.2.2.2.2.2.2.2.2.2.2.2.2)).set j28 (x_2.1,x_2.2.1,x_2.2.2.1,x_2.2.2.2.1,x_2.2.2.2.2.1,x_2.2.2.2.2.2.1,x_2.2.2.2.2.2.2.1,x_2.2.2.2.2.2.2.2.1,x_2.2.2.2.2.2.2.2.2.1,x_2.2.2.2.2.2.2.2.2.2.1,x_2.2.2.2.2.2.2.2.2.2.2.1,x_2.2.2.2.2.2.2.2.2.2.2.2.1,x_2.2.2.2.2.2.2.2.2.2.2.2.2.1,x_2.2.2.2.2.2.2.2.2.2.2.2.2.2.1,x_2.2.2.2.2.2.2.2.2.2.2.2.2.2.2.1,x_2.2.2.2.2.2.2.2.2.2.2.2.2.2.2.2.1,x_2.2.2.2.2.2.2.2.2.2.2.2.2.2.2.2.2.1,x_2.2.2.2.2.2.2.2.2.2.2.2.2.2.2.2.2.2.1,x_2.2.2.2.2.2.2.2.2.2.2.2.2.2.2.2.2.2.2.1,0,x_2.2.2.2.2.2.2.2.2.2.2.2.2.2.2.2.2.2.2.2.2),a0.2.2.2.2.2.2.2.2.2.2.2.2.2.1,a0.2.2.2.2.2.2.2.2.2.2.2.2.2.2)
def lH:FL:=(322,⟨[.ptr vO (some false),.val false uI false],[],λa=>fC a.1 a.2⟩)::lG
theorem rk:Gd lH:=uK rj 322 Tryz.f322 [] Tryz.func322
def dW (a0:uN) (k1:Int):Option uN :=
 (wO a0.2.2.2.2.2.2.2.2.2.2.2.2.1.length 0 k1).bind λp =>
 (uV ([]:List vF) ((a0.2.2.2.2.2.2.2.2.2.2.2.2.1.take p.2).drop p.1)).bind λzs12 =>
 (wO a0.2.2.2.2.2.2.2.2.2.2.2.2.1.length (uB (k1+1)) (a0.2.2.2.2.2.2.2.2.2.2.2.2.1.length:Int)).bind λp_1 =>
 (uV zs12 ((a0.2.2.2.2.2.2.2.2.2.2.2.2.1.take p_1.2).drop p_1.1)).bind λzs20 =>
 some (a0.1,a0.2.1,a0.2.2.1,a0.2.2.2.1,a0.2.2.2.2.1,a0.2.2.2.2.2.1,a0.2.2.2.2.2.2.1,a0.2.2.2.2.2.2.2.1,a0.2.2.2.2.2.2.2.2.1,a0.2.2.2.2.2.2.2.2.2.1,a0.2.2.2.2.2.2.2.2.2.2.1,a0.2.2.2.2.2.2.2.2.2.2.2.1,zs20,a0.2.2.2.2.2.2.2.2.2.2.2.2.2.1,a0.2.2.2.2.2.2.2.2.2.2.2.2.2.2)
def lI:FL:=(323,⟨[.ptr vO (some false),.val false uI false],[],λa=>dW a.1 a.2⟩)::lH
theorem rl:Gd lI:=uK rk 323 Tryz.f323 [] Tryz.func323
def dX (p0:uN) (i1:Int):Option uN :=
 (ix p0.2.2.2.2.2.2.2.2.2.2.2.2.1.length i1).bind λj16 =>
 (p0.2.2.2.2.2.2.2.2.2.2.2.2.1[j16]?).bind λx18 =>
 (fB p0.2.2.2.2.2.2.2.2.2.2.2.1 x18.2.1).bind λt19 =>
 (cond (t19.2==0) (some (t19.1.1 != 162)) (some false)).bind λt28 =>
 cond t28
 ((ix p0.2.2.2.2.2.2.2.2.2.2.2.2.1.length i1).bind λj35 =>
 (p0.2.2.2.2.2.2.2.2.2.2.2.2.1[j35]?).bind λx =>
 (fC (p0.1,p0.2.1,p0.2.2.1,p0.2.2.2.1,p0.2.2.2.2.1,p0.2.2.2.2.2.1,p0.2.2.2.2.2.2.1,p0.2.2.2.2.2.2.2.1,p0.2.2.2.2.2.2.2.2.1,p0.2.2.2.2.2.2.2.2.2.1,p0.2.2.2.2.2.2.2.2.2.2.1,p0.2.2.2.2.2.2.2.2.2.2.2.1,p0.2.2.2.2.2.2.2.2.2.2.2.2.1.set j35 (x.1,x.2.1,x.2.2.1,t19.1.1,t19.1.2.1,t19.1.2.2.1,t19.1.2.2.2.1,t19.1.2.2.2.2,x.2.2.2.2.2.2.2.2.1,x.2.2.2.2.2.2.2.2.2.1,x.2.2.2.2.2.2.2.2.2.2.1,x.2.2.2.2.2.2.2.2.2.2.2.1,x.2.2.2.2.2.2.2.2.2.2.2.2.1,x.2.2.2.2.2.2.2.2.2.2.2.2.2.1,x.2.2.2.2.2.2.2.2.2.2.2.2.2.2.1,x.2.2.2.2.2.2.2.2.2.2.2.2.2.2.2.1,x.2.2.2.2.2.2.2.2.2.2.2.2.2.2.2.2.1,x.2.2.2.2.2.2.2.2.2.2.2.2.2.2.2.2.2.1,x.2.2.2.2.2.2.2.2.2.2.2.2.2.2.2.2.2.2.1,x.2.2.2.2.2.2.2.2.2.2.2.2.2.2.2.2.2.2.2.1,x.2.2.2.2.2.2.2.2.2.2.2.2.2.2.2.2.2.2.2.2),p0.2.2.2.2.2.2.2.2.2.2.2.2.2.1,p0.2.2.2.2.2.2.2.2.2.2.2.2.2.2) i1).bind λt39 =>
 some t39)
 (cond (t19.2==3)
 ((bm p0.2.2.2.2.2.2.2.2.1).bind λt48 =>
 (dW (p0.1,p0.2.1,p0.2.2.1,p0.2.2.2.1,p0.2.2.2.2.1,p0.2.2.2.2.2.1,p0.2.2.2.2.2.2.1,p0.2.2.2.2.2.2.2.1,t48,p0.2.2.2.2.2.2.2.2.2.1,p0.2.2.2.2.2.2.2.2.2.2.1,p0.2.2.2.2.2.2.2.2.2.2.2.1,p0.2.2.2.2.2.2.2.2.2.2.2.2.1,p0.2.2.2.2.2.2.2.2.2.2.2.2.2.1,p0.2.2.2.2.2.2.2.2.2.2.2.2.2.2) i1).bind λt64 =>
 some t64)
 ((bm p0.2.2.2.2.2.2.2.1).bind λt58 =>
 (dW (p0.1,p0.2.1,p0.2.2.1,p0.2.2.2.1,p0.2.2.2.2.1,p0.2.2.2.2.2.1,p0.2.2.2.2.2.2.1,t58,p0.2.2.2.2.2.2.2.2.1,p0.2.2.2.2.2.2.2.2.2.1,p0.2.2.2.2.2.2.2.2.2.2.1,p0.2.2.2.2.2.2.2.2.2.2.2.1,p0.2.2.2.2.2.2.2.2.2.2.2.2.1,p0.2.2.2.2.2.2.2.2.2.2.2.2.2.1,p0.2.2.2.2.2.2.2.2.2.2.2.2.2.2) i1).bind λt64_1 =>
 some t64_1))
def lJ:FL:=(242,⟨[.ptr vO (some false),.val false uI false],[],λa=>dX a.1 a.2⟩)::lI
theorem rm:Gd lJ:=uK rl 242 Tryz.f242 [] Tryz.func242
def dY (a0:uN) (k1:Int) (p2:v9):Option (uN×List wa) :=
 (ix a0.2.2.2.2.2.2.2.2.2.2.2.2.1.length k1).bind λj13 =>
 (a0.2.2.2.2.2.2.2.2.2.2.2.2.1[j13]?).bind λx15 =>
 (dW a0 k1).bind λt21 =>
 some (t21,[(x15.1,p2.1,p2.2.1,p2.2.2.1,p2.2.2.2.1,p2.2.2.2.2)])
def lK:FL:=(244,⟨[.ptr vO (some false),.val false uI false,.val true wQ false],[.val false (.one (.sl yW)) (some false)],λa=>dY a.1 a.2.1 a.2.2⟩)::lJ
theorem rn:Gd lK:=uK rm 244 Tryz.f244 [] Tryz.func244
def gV (p0:uN) (i1:Int):Option (uN×List wa) :=
 (ix p0.2.2.2.2.2.2.2.2.2.2.2.2.1.length i1).bind λj14 =>
 (p0.2.2.2.2.2.2.2.2.2.2.2.2.1[j14]?).bind λx15 =>
 cond (p0.2.2.2.2.2.2.2.2.2.2.1==x15.2.2.2.2.2.2.2.2.2.2.2.2.2.2.2.2.2.2.1)
 ((fw (p0.1,p0.2.1,p0.2.2.1,p0.2.2.2.1,p0.2.2.2.2.1,p0.2.2.2.2.2.1,p0.2.2.2.2.2.2.1,p0.2.2.2.2.2.2.2.1,p0.2.2.2.2.2.2.2.2.1,p0.2.2.2.2.2.2.2.2.2.1,p0.2.2.2.2.2.2.2.2.2.2.1) (x15.2.2.2.1,x15.2.2.2.2.1,x15.2.2.2.2.2.1,x15.2.2.2.2.2.2.1,x15.2.2.2.2.2.2.2.1)).bind λt32 =>
 (dY (t32.1.1,t32.1.2.1,t32.1.2.2.1,t32.1.2.2.2.1,t32.1.2.2.2.2.1,t32.1.2.2.2.2.2.1,t32.1.2.2.2.2.2.2.1,t32.1.2.2.2.2.2.2.2.1,t32.1.2.2.2.2.2.2.2.2.1,t32.1.2.2.2.2.2.2.2.2.2.1,t32.1.2.2.2.2.2.2.2.2.2.2,p0.2.2.2.2.2.2.2.2.2.2.2.1,p0.2.2.2.2.2.2.2.2.2.2.2.2.1,p0.2.2.2.2.2.2.2.2.2.2.2.2.2.1,p0.2.2.2.2.2.2.2.2.2.2.2.2.2.2) i1 t32.2).bind λt42 =>
 some t42)
 (cond (decide (x15.2.2.2.2.2.2.2.2.2.2.2.2.2.2.2.2.2.2.2.2>=3))
 ((cu x15.2.2.2.2.2.2.2.1).bind λt52 =>
 (cM (162,x15.2.2.2.2.1,6,1,t52) false).bind λt57 =>
 (dY p0 i1 t57).bind λt58 =>
 some t58)
 ((ix p0.2.2.2.2.2.2.2.2.2.2.2.2.1.length i1).bind λj67 =>
 (p0.2.2.2.2.2.2.2.2.2.2.2.2.1[j67]?).bind λx =>
 (fC (p0.1,p0.2.1,p0.2.2.1,p0.2.2.2.1,p0.2.2.2.2.1,p0.2.2.2.2.2.1,p0.2.2.2.2.2.2.1,p0.2.2.2.2.2.2.2.1,p0.2.2.2.2.2.2.2.2.1,p0.2.2.2.2.2.2.2.2.2.1,p0.2.2.2.2.2.2.2.2.2.2.1,p0.2.2.2.2.2.2.2.2.2.2.2.1,p0.2.2.2.2.2.2.2.2.2.2.2.2.1.set j67 (x.1,x.2.1,x.2.2.1,x.2.2.2.1,x.2.2.2.2.1,x.2.2.2.2.2.1,x.2.2.2.2.2.2.1,x.2.2.2.2.2.2.2.1,x.2.2.2.2.2.2.2.2.1,x.2.2.2.2.2.2.2.2.2.1,x.2.2.2.2.2.2.2.2.2.2.1,x.2.2.2.2.2.2.2.2.2.2.2.1,x.2.2.2.2.2.2.2.2.2.2.2.2.1,x.2.2.2.2.2.2.2.2.2.2.2.2.2.1,x.2.2.2.2.2.2.2.2.2.2.2.2.2.2.1,x.2.2.2.2.2.2.2.2.2.2.2.2.2.2.2.1,x.2.2.2.2.2.2.2.2.2.2.2.2.2.2.2.2.1,x.2.2.2.2.2.2.2.2.2.2.2.2.2.2.2.2.2.1,x.2.2.2.2.2.2.2.2.2.2.2.2.2.2.2.2.2.2.1,x.2.2.2.2.2.2.2.2.2.2.2.2.2.2.2.2.2.2.2.1,uB (x15.2.2.2.2.2.2.2.2.2.2.2.2.2.2.2.2.2.2.2.2+1)),p0.2.2.2.2.2.2.2.2.2.2.2.2.2.1,p0.2.2.2.2.2.2.2.2.2.2.2.2.2.2) i1).bind λt71 =>
 some (t71,([]:List wa))))
def lL:FL:=(243,⟨[.ptr vO (some false),.val false uI false],[.val false (.one (.sl yW)) (some false)],λa=>gV a.1 a.2⟩)::lK
theorem rp:Gd lL:=uK rn 243 Tryz.f243 [] Tryz.func243
def gW (p0:uN) (i1:Int):Option (uN×List wa) :=
 (ix p0.2.2.2.2.2.2.2.2.2.2.2.2.1.length i1).bind λj14 =>
 (p0.2.2.2.2.2.2.2.2.2.2.2.2.1[j14]?).bind λx15 =>
 cond (x15.2.2.1==0)
 ((dX p0 i1).bind λt35 =>
 some (t35,([]:List wa)))
 ((cond (x15.2.2.1==1)
 (some (decide (x15.2.2.2.2.2.2.2.2.2.2.2.2.2.2.2.2.2.2.2.1<(x15.2.2.2.2.2.2.2.1.length:Int))))
 (some false)).bind λt48 =>
 cond t48
 ((ix p0.2.2.2.2.2.2.2.2.2.2.2.2.1.length i1).bind λj57 =>
 (p0.2.2.2.2.2.2.2.2.2.2.2.2.1[j57]?).bind λx =>
 some ((p0.1,p0.2.1,p0.2.2.1,p0.2.2.2.1,p0.2.2.2.2.1,p0.2.2.2.2.2.1,p0.2.2.2.2.2.2.1,p0.2.2.2.2.2.2.2.1,p0.2.2.2.2.2.2.2.2.1,p0.2.2.2.2.2.2.2.2.2.1,p0.2.2.2.2.2.2.2.2.2.2.1,p0.2.2.2.2.2.2.2.2.2.2.2.1,p0.2.2.2.2.2.2.2.2.2.2.2.2.1.set j57 (x.1,x.2.1,x.2.2.1,x.2.2.2.1,x.2.2.2.2.1,x.2.2.2.2.2.1,x.2.2.2.2.2.2.1,x.2.2.2.2.2.2.2.1,x.2.2.2.2.2.2.2.2.1,x.2.2.2.2.2.2.2.2.2.1,x.2.2.2.2.2.2.2.2.2.2.1,x.2.2.2.2.2.2.2.2.2.2.2.1,x.2.2.2.2.2.2.2.2.2.2.2.2.1,x.2.2.2.2.2.2.2.2.2.2.2.2.2.1,x.2.2.2.2.2.2.2.2.2.2.2.2.2.2.1,x.2.2.2.2.2.2.2.2.2.2.2.2.2.2.2.1,x.2.2.2.2.2.2.2.2.2.2.2.2.2.2.2.2.1,x.2.2.2.2.2.2.2.2.2.2.2.2.2.2.2.2.2.1,x.2.2.2.2.2.2.2.2.2.2.2.2.2.2.2.2.2.2.1,uB (x15.2.2.2.2.2.2.2.2.2.2.2.2.2.2.2.2.2.2.2.1+1),x.2.2.2.2.2.2.2.2.2.2.2.2.2.2.2.2.2.2.2.2),p0.2.2.2.2.2.2.2.2.2.2.2.2.2.1,p0.2.2.2.2.2.2.2.2.2.2.2.2.2.2),([]:List wa)))
 (cond (x15.2.2.1==1)
 ((ix p0.2.2.2.2.2.2.2.2.2.2.2.2.1.length i1).bind λj68 =>
 (p0.2.2.2.2.2.2.2.2.2.2.2.2.1[j68]?).bind λx_1 =>
 some ((p0.1,p0.2.1,p0.2.2.1,p0.2.2.2.1,p0.2.2.2.2.1,p0.2.2.2.2.2.1,p0.2.2.2.2.2.2.1,p0.2.2.2.2.2.2.2.1,p0.2.2.2.2.2.2.2.2.1,p0.2.2.2.2.2.2.2.2.2.1,p0.2.2.2.2.2.2.2.2.2.2.1,p0.2.2.2.2.2.2.2.2.2.2.2.1,p0.2.2.2.2.2.2.2.2.2.2.2.2.1.set j68 (x_1.1,x_1.2.1,2,x_1.2.2.2.1,x_1.2.2.2.2.1,x_1.2.2.2.2.2.1,x_1.2.2.2.2.2.2.1,x_1.2.2.2.2.2.2.2.1,x_1.2.2.2.2.2.2.2.2.1,x_1.2.2.2.2.2.2.2.2.2.1,x_1.2.2.2.2.2.2.2.2.2.2.1,x_1.2.2.2.2.2.2.2.2.2.2.2.1,x_1.2.2.2.2.2.2.2.2.2.2.2.2.1,x_1.2.2.2.2.2.2.2.2.2.2.2.2.2.1,x_1.2.2.2.2.2.2.2.2.2.2.2.2.2.2.1,x_1.2.2.2.2.2.2.2.2.2.2.2.2.2.2.2.1,x_1.2.2.2.2.2.2.2.2.2.2.2.2.2.2.2.2.1,x_1.2.2.2.2.2.2.2.2.2.2.2.2.2.2.2.2.2.1,x_1.2.2.2.2.2.2.2.2.2.2.2.2.2.2.2.2.2.2.1,x_1.2.2.2.2.2.2.2.2.2.2.2.2.2.2.2.2.2.2.2.1,x_1.2.2.2.2.2.2.2.2.2.2.2.2.2.2.2.2.2.2.2.2),p0.2.2.2.2.2.2.2.2.2.2.2.2.2.1,p0.2.2.2.2.2.2.2.2.2.2.2.2.2.2),([]:List wa)))
 (cond (x15.2.2.2.1==163)
 ((gV p0 i1).bind λt77 =>
 some t77)
 ((gR (x15.2.2.2.2.2.2.2.2.1,x15.2.2.2.2.2.2.2.2.2.1,x15.2.2.2.2.2.2.2.2.2.2.1,x15.2.2.2.2.2.2.2.2.2.2.2.1,x15.2.2.2.2.2.2.2.2.2.2.2.2.1,x15.2.2.2.2.2.2.2.2.2.2.2.2.2.1,x15.2.2.2.2.2.2.2.2.2.2.2.2.2.2.1,x15.2.2.2.2.2.2.2.2.2.2.2.2.2.2.2.1,x15.2.2.2.2.2.2.2.2.2.2.2.2.2.2.2.2.1,x15.2.2.2.2.2.2.2.2.2.2.2.2.2.2.2.2.2.1,x15.2.2.2.2.2.2.2.2.2.2.2.2.2.2.2.2.2.2.1) (x15.2.2.2.1,x15.2.2.2.2.1,x15.2.2.2.2.2.1,x15.2.2.2.2.2.2.1,x15.2.2.2.2.2.2.2.1)).bind λt21 =>
 (dY p0 i1 t21.2.1).bind λt28 =>
 some t28))))
def lM:FL:=(140,⟨[.ptr vO (some false),.val false uI false],[.val false (.one (.sl yW)) (some false)],λa=>gW a.1 a.2⟩)::lL
theorem rq:Gd lM:=uK rp 140 Tryz.f140 [] Tryz.func140
def br (a0:uN) (k1:Int):Option (uN×List wa) :=
 (f7 a0).bind λt9 =>
 (dy a0).bind λt11 =>
 (cond (!t11)
 (some true)
 ((ae k1 0 (uB ((a0.2.2.2.2.2.2.2.2.2.2.2.2.1.length:Int)-1))).bind λt19 =>
 some (!t19))).bind λt21 =>
 cond t21
 (some (t9,([]:List wa)))
 ((gW t9 k1).bind λt25 =>
 some t25)
def lN:FL:=(47,⟨[.val true vO false,.val false uI false],[.val true vO (some false),.val false (.one (.sl yW)) (some false)],λa=>br a.1 a.2⟩)::lM
theorem rr:Gd lN:=uK rq 47 Tryz.f47 [] Tryz.func47
def dZ (b0:uz) (word1:List UInt8):Option uN :=
 (aN b0).bind λt6 =>
 (cond (!t6) (some true) (some (decide ((word1.length:Int)>20)))).bind λt12 =>
 cond t12
 (some (0,[],[],[],[],[],0,0,0,0,0,[],[],0,0))
 ((ap b0).bind λt15 =>
 some (t15.1,t15.2.1,t15.2.2.1,t15.2.2.2.1,t15.2.2.2.2.1,t15.2.2.2.2.2.1,t15.2.2.2.2.2.2.1,t15.2.2.2.2.2.2.2.1,t15.2.2.2.2.2.2.2.2.1,t15.2.2.2.2.2.2.2.2.2.1,t15.2.2.2.2.2.2.2.2.2.2,word1,[],0,0))
def lO:FL:=(58,⟨[.val true uR false,.val false Iw false],[.val true vO (some true)],λa=>dZ a.1 a.2⟩)::lN
theorem ru:Gd lO:=uK rr 58 Tryz.f58 [] Tryz.func58
def cR (i4:Int) (b0:List Int) (b1:Int) (b2:Int) (b0_1:Int) (b1_1:Int) (b2_1:Int) (b3:Int) (b4:List uC):Option ((Int×List Int×Int×Int×Int×Int×Int×Int×List uC)⊕(List Int×Int×Int×Int×Int×Int×Int×List uC)) :=
 cond (decide (i4>0))
 ((aH (b0,b1,b2)).bind λt35 =>
 (aA t35.1).bind λt37 =>
 (uV b4 [(t35.2,t37.2.1,t37.2.2.1,t37.2.2.2.1,t37.2.2.2.2)]).bind λzs40 =>
 some (.inl (uB (i4-1),t37.1.1,t37.1.2.1,t37.1.2.2,b0_1,b1_1,b2_1,b3,zs40)))
 (some (.inr (b0,b1,b2,b0_1,b1_1,b2_1,b3,b4)))
def cS (i4_1:Int) (b0_4:List Int) (b1_4:Int) (b2_4:Int) (b0_5:Int) (b1_5:Int) (b2_5:Int) (b3_2:Int) (b4_2:List uC):Option ((Int×List Int×Int×Int×Int×Int×Int×Int×List uC)⊕(List Int×Int×Int×Int×Int×Int×Int×List uC)) :=
 cond (decide (i4_1>0))
 ((aH (b0_4,b1_4,b2_4)).bind λt35_1 =>
 (aA t35_1.1).bind λt37_1 =>
 (uV b4_2 [(t35_1.2,t37_1.2.1,t37_1.2.2.1,t37_1.2.2.2.1,t37_1.2.2.2.2)]).bind λzs40_1 =>
 some (.inl (uB (i4_1-1),t37_1.1.1,t37_1.1.2.1,t37_1.1.2.2,b0_5,b1_5,b2_5,b3_2,zs40_1)))
 (some (.inr (b0_4,b1_4,b2_4,b0_5,b1_5,b2_5,b3_2,b4_2)))
def gX (c0:uM):Option (uM×v9) :=
 (af c0 ([160,161,162,163,165]:List Int)).bind λt7 =>
 (cE t7.1).bind λt9 =>
 (aw t9.2).bind λt10 =>
 (cond (t7.2==162) (some true) (some (t7.2==165))).bind λt19 =>
 cond t19
 ((aa t9.1 4).bind λt21 =>
 (aa t21.1 5).bind λt24 =>
 (aa t24.1 4).bind λt27 =>
 (loop (λz=>cR z.1 z.2.1 z.2.2.1 z.2.2.2.1 z.2.2.2.2.1 z.2.2.2.2.2.1 z.2.2.2.2.2.2.1 z.2.2.2.2.2.2.2.1 z.2.2.2.2.2.2.2.2) (t27.2,t27.1.1,t27.1.2.1,t27.1.2.2,t7.2,t10,t21.2,t24.2,[])).bind λd =>
 some ((d.1,d.2.1,d.2.2.1),d.2.2.2))
 ((aa t9.1 4).bind λt27_1 =>
 (loop (λz=>cS z.1 z.2.1 z.2.2.1 z.2.2.2.1 z.2.2.2.2.1 z.2.2.2.2.2.1 z.2.2.2.2.2.2.1 z.2.2.2.2.2.2.2.1 z.2.2.2.2.2.2.2.2) (t27_1.2,t27_1.1.1,t27_1.1.2.1,t27_1.1.2.2,t7.2,t10,0,0,[])).bind λd_1 =>
 some ((d_1.1,d_1.2.1,d_1.2.2.1),d_1.2.2.2))
def lP:FL:=(194,⟨[.ptr vP none],[.val true wQ (some true)],λa=>gX a⟩)::lO
theorem rz:Gd lP:=uK ru 194 Tryz.f194 [(0,⟨⟨[(4,false,[dI])],[(1,.box [.dat (.sl (.one (.int .u8))),dI,dI]),(270336,.box [dI,dI,dI,dI,.own 1000000000]),(1000000000,.root uU true)]⟩,
 ⟨[],[(1,.box [.dat (.sl (.one (.int .u8))),dI,dI]),(270336,.box [dI,dI,dI,dI,.own 1000000300]),(1000000300,.root uU true)]⟩,none⟩)] Tryz.func194
def gY (c0:uM) (b1:List Int):Option (uM×List Int) :=
 cond ((b1.length:Int)==0)
 (some (c0,b1))
 ((aa c0 5).bind λt10 =>
 cond (t10.2==0)
 ((aa t10.1 (b1.length:Int)).bind λt17 =>
 (af t17.1 ([0,1,2,4,5,6,48,127,128,129,160,255]:List Int)).bind λt20 =>
 (ix b1.length t17.2).bind λj22 =>
 (b1[j22]?).bind λx =>
 some (t20.1,b1.set j22 (IntKind.u8.wrap (t20.2))))
 (cond (t10.2==1)
 ((uV b1 ([3]:List Int)).bind λzs27 =>
 some (t10.1,zs27))
 (cond (t10.2==2)
 ((aa t10.1 (b1.length:Int)).bind λt34 =>
 (wO b1.length 0 t34.2).bind λp =>
 some (t34.1,(b1.take p.2).drop p.1))
 (some (t10.1,b1)))))
def lQ:FL:=(231,⟨[.ptr vP none,.val false wv true],[.val false wv none],λa=>gY a.1 a.2⟩)::lP
theorem rA:Gd lQ:=uK rz 231 Tryz.f231 [] Tryz.func231
def cU (word0:List UInt8) (p1:v9):Option (List Int) :=
 (fq p1).bind λt8 =>
 (cond ((t8.length:Int)==0) (some true) (some (decide ((word0.length:Int)>20)))).bind λt16 =>
 cond t16
 (some ([]:List Int))
 ((bc 1).bind λt19 =>
 (ar ([]:List Int) 2 t19).bind λt20 =>
 (ar t20 4 (xr word0)).bind λt23 =>
 (uV t23 t8).bind λzs25 =>
 cond (decide ((zs25.length:Int)>250))
 (some ([]:List Int))
 ((ar ([]:List Int) 48 zs25).bind λt32 =>
 some t32))
def lR:FL:=(232,⟨[.val false Iw false,.val true wQ false],[.val false wv (some true)],λa=>cU a.1 a.2⟩)::lQ
theorem rB:Gd lR:=uK rA 232 Tryz.f232 [] Tryz.func232
def bJ (c0:uM) (b1:uz):Option (uM×List Int) :=
 (aa c0 10).bind λt6 =>
 cond (t6.2==0)
 ((bG t6.1 b1).bind λt12 =>
 (cU [121,97,114,100] t12.2).bind λt13 =>
 (gY t12.1 t13).bind λt14 =>
 some t14)
 (cond (t6.2==1)
 ((bG t6.1 b1).bind λt19 =>
 (cU [111,116,104,101,114] t19.2).bind λt20 =>
 some (t19.1,t20))
 (cond (t6.2==2)
 ((gX t6.1).bind λt24 =>
 (cU [121,97,114,100] t24.2).bind λt25 =>
 some (t24.1,t25))
 ((bG t6.1 b1).bind λt28 =>
 (cU [121,97,114,100] t28.2).bind λt29 =>
 some (t28.1,t29))))
def lS:FL:=(128,⟨[.ptr vP none,.val true uR false],[.val false wv none],λa=>bJ a.1 a.2⟩)::lR
theorem rC:Gd lS:=uK rB 128 Tryz.f128 [] Tryz.func128
def e9 (b0:uz):Option uz :=
 (ap b0).bind λt5 =>
 (aN b0).bind λt7 =>
 cond (!t7)
 (some t5)
 ((bm b0.2.2.2.2.2.2.1).bind λt12 =>
 (cJ b0.2.2.2.1).bind λt16 =>
 (ca (t5.1,t5.2.1,t5.2.2.1,t16,t5.2.2.2.2.1,t5.2.2.2.2.2.1,t12,t5.2.2.2.2.2.2.2.1,t5.2.2.2.2.2.2.2.2.1,t5.2.2.2.2.2.2.2.2.2.1,t5.2.2.2.2.2.2.2.2.2.2)).bind λt19 =>
 some t19)
def lT:FL:=(208,⟨[.val true uR false],[.val true uR (some true)],λa=>e9 a⟩)::lS
theorem rD:Gd lT:=uK rC 208 Tryz.f208 [] Tryz.func208
def gZ (i6:Int) (b0:List Int) (b1:Int) (b2:Int) (b0_1:Int) (b1_1:List UInt8) (b6:Int) (b7:Int) (b8:Int) (b9:Int) (b10:Int) (b11:List UInt8) (b13:Int) (b14:Int) (b2_1:List Pt) (b3:List uF) (b4:List uQ) (b5:List Int) (b12:List vF):Option ((Int×List Int×Int×Int×Int×List UInt8×Int×Int×Int×Int×Int×List UInt8×Int×Int×List Pt×List uF×List uQ×List Int×List vF)⊕(List Int×Int×Int×Int×List UInt8×Int×Int×Int×Int×Int×List UInt8×Int×Int×List Pt×List uF×List uQ×List Int×List vF)) :=
 cond (decide (i6>0))
 ((aa (b0,b1,b2) 6).bind λt19 =>
 cond (t19.2==0)
 (cond (t19.2==0)
 ((bJ t19.1 (b0_1,b1_1,b2_1,b3,b4,b5,b6,b7,b8,b9,b10)).bind λt38 =>
 (bn (b0_1,b1_1,b2_1,b3,b4,b5,b6,b7,b8,b9,b10,b11,b12,b13,b14) t38.2).bind λt39 =>
 some (.inl (uB (i6-1),t38.1.1,t38.1.2.1,t38.1.2.2,t39.1,t39.2.1,t39.2.2.2.2.2.2.1,t39.2.2.2.2.2.2.2.1,t39.2.2.2.2.2.2.2.2.1,t39.2.2.2.2.2.2.2.2.2.1,t39.2.2.2.2.2.2.2.2.2.2.1,t39.2.2.2.2.2.2.2.2.2.2.2.1,t39.2.2.2.2.2.2.2.2.2.2.2.2.2.1,t39.2.2.2.2.2.2.2.2.2.2.2.2.2.2,t39.2.2.1,t39.2.2.2.1,t39.2.2.2.2.1,t39.2.2.2.2.2.1,t39.2.2.2.2.2.2.2.2.2.2.2.2.1)))
 (cond (t19.2==2)
 ((e9 (b0_1,b1_1,b2_1,b3,b4,b5,b6,b7,b8,b9,b10)).bind λt44 =>
 some (.inl (uB (i6-1),t19.1.1,t19.1.2.1,t19.1.2.2,t44.1,t44.2.1,t44.2.2.2.2.2.2.1,t44.2.2.2.2.2.2.2.1,t44.2.2.2.2.2.2.2.2.1,t44.2.2.2.2.2.2.2.2.2.1,t44.2.2.2.2.2.2.2.2.2.2,b11,b13,b14,t44.2.2.1,t44.2.2.2.1,t44.2.2.2.2.1,t44.2.2.2.2.2.1,b12)))
 ((aa t19.1 (uB ((b12.length:Int)+1))).bind λt27 =>
 (br (b0_1,b1_1,b2_1,b3,b4,b5,b6,b7,b8,b9,b10,b11,b12,b13,b14) t27.2).bind λt28 =>
 some (.inl (uB (i6-1),t27.1.1,t27.1.2.1,t27.1.2.2,t28.1.1,t28.1.2.1,t28.1.2.2.2.2.2.2.1,t28.1.2.2.2.2.2.2.2.1,t28.1.2.2.2.2.2.2.2.2.1,t28.1.2.2.2.2.2.2.2.2.2.1,t28.1.2.2.2.2.2.2.2.2.2.2.1,t28.1.2.2.2.2.2.2.2.2.2.2.2.1,t28.1.2.2.2.2.2.2.2.2.2.2.2.2.2.1,t28.1.2.2.2.2.2.2.2.2.2.2.2.2.2.2,t28.1.2.2.1,t28.1.2.2.2.1,t28.1.2.2.2.2.1,t28.1.2.2.2.2.2.1,t28.1.2.2.2.2.2.2.2.2.2.2.2.2.1)))))
 (cond (t19.2==1)
 ((bJ t19.1 (b0_1,b1_1,b2_1,b3,b4,b5,b6,b7,b8,b9,b10)).bind λt38_1 =>
 (bn (b0_1,b1_1,b2_1,b3,b4,b5,b6,b7,b8,b9,b10,b11,b12,b13,b14) t38_1.2).bind λt39_1 =>
 some (.inl (uB (i6-1),t38_1.1.1,t38_1.1.2.1,t38_1.1.2.2,t39_1.1,t39_1.2.1,t39_1.2.2.2.2.2.2.1,t39_1.2.2.2.2.2.2.2.1,t39_1.2.2.2.2.2.2.2.2.1,t39_1.2.2.2.2.2.2.2.2.2.1,t39_1.2.2.2.2.2.2.2.2.2.2.1,t39_1.2.2.2.2.2.2.2.2.2.2.2.1,t39_1.2.2.2.2.2.2.2.2.2.2.2.2.2.1,t39_1.2.2.2.2.2.2.2.2.2.2.2.2.2.2,t39_1.2.2.1,t39_1.2.2.2.1,t39_1.2.2.2.2.1,t39_1.2.2.2.2.2.1,t39_1.2.2.2.2.2.2.2.2.2.2.2.2.1)))
 (cond (t19.2==2)
 ((e9 (b0_1,b1_1,b2_1,b3,b4,b5,b6,b7,b8,b9,b10)).bind λt44_1 =>
 some (.inl (uB (i6-1),t19.1.1,t19.1.2.1,t19.1.2.2,t44_1.1,t44_1.2.1,t44_1.2.2.2.2.2.2.1,t44_1.2.2.2.2.2.2.2.1,t44_1.2.2.2.2.2.2.2.2.1,t44_1.2.2.2.2.2.2.2.2.2.1,t44_1.2.2.2.2.2.2.2.2.2.2,b11,b13,b14,t44_1.2.2.1,t44_1.2.2.2.1,t44_1.2.2.2.2.1,t44_1.2.2.2.2.2.1,b12)))
 ((aa t19.1 (uB ((b12.length:Int)+1))).bind λt27_1 =>
 (br (b0_1,b1_1,b2_1,b3,b4,b5,b6,b7,b8,b9,b10,b11,b12,b13,b14) t27_1.2).bind λt28_1 =>
 some (.inl (uB (i6-1),t27_1.1.1,t27_1.1.2.1,t27_1.1.2.2,t28_1.1.1,t28_1.1.2.1,t28_1.1.2.2.2.2.2.2.1,t28_1.1.2.2.2.2.2.2.2.1,t28_1.1.2.2.2.2.2.2.2.2.1,t28_1.1.2.2.2.2.2.2.2.2.2.1,t28_1.1.2.2.2.2.2.2.2.2.2.2.1,t28_1.1.2.2.2.2.2.2.2.2.2.2.2.1,t28_1.1.2.2.2.2.2.2.2.2.2.2.2.2.2.1,t28_1.1.2.2.2.2.2.2.2.2.2.2.2.2.2.2,t28_1.1.2.2.1,t28_1.1.2.2.2.1,t28_1.1.2.2.2.2.1,t28_1.1.2.2.2.2.2.1,t28_1.1.2.2.2.2.2.2.2.2.2.2.2.2.1))))))
 (some (.inr (b0,b1,b2,b0_1,b1_1,b6,b7,b8,b9,b10,b11,b13,b14,b2_1,b3,b4,b5,b12)))
def hC (c0:uM) (most1:Int):Option (uM×uN) :=
 (cD c0).bind λt8 =>
 (dZ t8.2 [121,97,114,100]).bind λt9 =>
 (aa t8.1 (uB (most1+1))).bind λt13 =>
 (loop (λz=>gZ z.1 z.2.1 z.2.2.1 z.2.2.2.1 z.2.2.2.2.1 z.2.2.2.2.2.1 z.2.2.2.2.2.2.1 z.2.2.2.2.2.2.2.1 z.2.2.2.2.2.2.2.2.1 z.2.2.2.2.2.2.2.2.2.1 z.2.2.2.2.2.2.2.2.2.2.1 z.2.2.2.2.2.2.2.2.2.2.2.1 z.2.2.2.2.2.2.2.2.2.2.2.2.1 z.2.2.2.2.2.2.2.2.2.2.2.2.2.1 z.2.2.2.2.2.2.2.2.2.2.2.2.2.2.1 z.2.2.2.2.2.2.2.2.2.2.2.2.2.2.2.1 z.2.2.2.2.2.2.2.2.2.2.2.2.2.2.2.2.1 z.2.2.2.2.2.2.2.2.2.2.2.2.2.2.2.2.2.1 z.2.2.2.2.2.2.2.2.2.2.2.2.2.2.2.2.2.2) (t13.2,t13.1.1,t13.1.2.1,t13.1.2.2,t9.1,t9.2.1,t9.2.2.2.2.2.2.1,t9.2.2.2.2.2.2.2.1,t9.2.2.2.2.2.2.2.2.1,t9.2.2.2.2.2.2.2.2.2.1,t9.2.2.2.2.2.2.2.2.2.2.1,t9.2.2.2.2.2.2.2.2.2.2.2.1,t9.2.2.2.2.2.2.2.2.2.2.2.2.2.1,t9.2.2.2.2.2.2.2.2.2.2.2.2.2.2,t9.2.2.1,t9.2.2.2.1,t9.2.2.2.2.1,t9.2.2.2.2.2.1,t9.2.2.2.2.2.2.2.2.2.2.2.2.1)).bind λd =>
 some ((d.1,d.2.1,d.2.2.1),(d.2.2.2.1,d.2.2.2.2.1,d.2.2.2.2.2.2.2.2.2.2.2.2.2.1,d.2.2.2.2.2.2.2.2.2.2.2.2.2.2.1,d.2.2.2.2.2.2.2.2.2.2.2.2.2.2.2.1,d.2.2.2.2.2.2.2.2.2.2.2.2.2.2.2.2.1,d.2.2.2.2.2.1,d.2.2.2.2.2.2.1,d.2.2.2.2.2.2.2.1,d.2.2.2.2.2.2.2.2.1,d.2.2.2.2.2.2.2.2.2.1,d.2.2.2.2.2.2.2.2.2.2.1,d.2.2.2.2.2.2.2.2.2.2.2.2.2.2.2.2.2,d.2.2.2.2.2.2.2.2.2.2.2.1,d.2.2.2.2.2.2.2.2.2.2.2.2.1))
def lU:FL:=(126,⟨[.ptr vP none,.val false uI false],[.val true vO (some false)],λa=>hC a.1 a.2⟩)::lT
theorem rE:Gd lU:=uK rD 126 Tryz.f126 [(0,⟨⟨[(6,false,[dI])],[(1,.box [.dat (.sl (.one (.int .u8))),dI,dI]),(266240,.box [dI,dS,.own 1000000000,.own 1000000001,.own 1000000002,.own 1000000003,dI,dI,dI,dI,dI,dS,.own 1000000004,dI,dI]),(1000000000,.root wX false),(1000000001,.root uY false),(1000000002,.root vI false),(1000000003,.root uI false),(1000000004,.root z6 false)]⟩,
 ⟨[],[(1,.box [.dat (.sl (.one (.int .u8))),dI,dI]),(266240,.box [dI,dS,.own 1000000300,.own 1000000301,.own 1000000302,.own 1000000303,dI,dI,dI,dI,dI,dS,.own 1000000304,dI,dI]),(1000000300,.root wX false),(1000000301,.root uY false),(1000000302,.root vI false),(1000000303,.root uI false),(1000000304,.root z6 false)]⟩,none⟩)] Tryz.func126
def hN (t6:Int) (b0:Int) (b1:List UInt8) (b6:Int) (b7:Int) (b8:Int) (b9:Int) (b10:Int) (b11:List UInt8) (b13:Int) (b14:Int) (b2:List Pt) (b3:List uF) (b4:List uQ) (b5:List Int) (b12:List vF):Option ((Int×Int×List UInt8×Int×Int×Int×Int×Int×List UInt8×Int×Int×List Pt×List uF×List uQ×List Int×List vF)⊕(Int×List UInt8×Int×Int×Int×Int×Int×List UInt8×Int×Int×List Pt×List uF×List uQ×List Int×List vF)) :=
 cond (decide (t6<6))
 ((bn (b0,b1,b2,b3,b4,b5,b6,b7,b8,b9,b10,b11,b12,b13,b14) ([1]:List Int)).bind λt63 =>
 some (.inl (uB (t6+1),t63.1,t63.2.1,t63.2.2.2.2.2.2.1,t63.2.2.2.2.2.2.2.1,t63.2.2.2.2.2.2.2.2.1,t63.2.2.2.2.2.2.2.2.2.1,t63.2.2.2.2.2.2.2.2.2.2.1,t63.2.2.2.2.2.2.2.2.2.2.2.1,t63.2.2.2.2.2.2.2.2.2.2.2.2.2.1,t63.2.2.2.2.2.2.2.2.2.2.2.2.2.2,t63.2.2.1,t63.2.2.2.1,t63.2.2.2.2.1,t63.2.2.2.2.2.1,t63.2.2.2.2.2.2.2.2.2.2.2.2.1)))
 (some (.inr (b0,b1,b6,b7,b8,b9,b10,b11,b13,b14,b2,b3,b4,b5,b12)))
def fD (p0:uM) (i1:Int):Option (uM×uN) :=
 (hC p0 i1).bind λt9 =>
 (aa t9.1 16).bind λt11 =>
 cond (t11.2==0)
 ((fo t11.1).bind λt15 =>
 some (t15.1,(t15.2.1,t15.2.2.1,t15.2.2.2.1,t15.2.2.2.2.1,t15.2.2.2.2.2.1,t15.2.2.2.2.2.2.1,t15.2.2.2.2.2.2.2.1,t15.2.2.2.2.2.2.2.2.1,t15.2.2.2.2.2.2.2.2.2.1,t15.2.2.2.2.2.2.2.2.2.2.1,t15.2.2.2.2.2.2.2.2.2.2.2,t9.2.2.2.2.2.2.2.2.2.2.2.2.1,t9.2.2.2.2.2.2.2.2.2.2.2.2.2.1,t9.2.2.2.2.2.2.2.2.2.2.2.2.2.2.1,t9.2.2.2.2.2.2.2.2.2.2.2.2.2.2.2)))
 (cond (t11.2==1)
 ((af t11.1 ([(-1),0,1000000,1000001]:List Int)).bind λt21 =>
 some (t21.1,(t9.2.1,t9.2.2.1,t9.2.2.2.1,t9.2.2.2.2.1,t9.2.2.2.2.2.1,t9.2.2.2.2.2.2.1,t9.2.2.2.2.2.2.2.1,t9.2.2.2.2.2.2.2.2.1,t9.2.2.2.2.2.2.2.2.2.1,t9.2.2.2.2.2.2.2.2.2.2.1,t9.2.2.2.2.2.2.2.2.2.2.2.1,t9.2.2.2.2.2.2.2.2.2.2.2.2.1,t9.2.2.2.2.2.2.2.2.2.2.2.2.2.1,t9.2.2.2.2.2.2.2.2.2.2.2.2.2.2.1,t21.2)))
 (cond (t11.2==2)
 ((af t11.1 ([(-1),1000000]:List Int)).bind λt27 =>
 some (t27.1,(t9.2.1,t9.2.2.1,t9.2.2.2.1,t9.2.2.2.2.1,t9.2.2.2.2.2.1,t9.2.2.2.2.2.2.1,t9.2.2.2.2.2.2.2.1,t9.2.2.2.2.2.2.2.2.1,t9.2.2.2.2.2.2.2.2.2.1,t9.2.2.2.2.2.2.2.2.2.2.1,t9.2.2.2.2.2.2.2.2.2.2.2.1,t9.2.2.2.2.2.2.2.2.2.2.2.2.1,t9.2.2.2.2.2.2.2.2.2.2.2.2.2.1,t27.2,t9.2.2.2.2.2.2.2.2.2.2.2.2.2.2.2)))
 (cond (t11.2==3)
 ((aa t11.1 2).bind λt36 =>
 (aa t36.1 4).bind λt39 =>
 (aa t39.1 3).bind λt41 =>
 (aa t41.1 5).bind λt44 =>
 (bG t44.1 (t9.2.1,t9.2.2.1,t9.2.2.2.1,t9.2.2.2.2.1,t9.2.2.2.2.2.1,t9.2.2.2.2.2.2.1,t9.2.2.2.2.2.2.2.1,t9.2.2.2.2.2.2.2.2.1,t9.2.2.2.2.2.2.2.2.2.1,t9.2.2.2.2.2.2.2.2.2.2.1,t9.2.2.2.2.2.2.2.2.2.2.2.1)).bind λt48 =>
 (cD t48.1).bind λt50 =>
 (uV t9.2.2.2.2.2.2.2.2.2.2.2.2.2.1 ([(uB (t9.2.2.2.2.2.2.2.2.2.2.2.2.2.2.2+t36.2),[],t39.2,t48.2.1,t48.2.2.1,t48.2.2.2.1,t48.2.2.2.2.1,t48.2.2.2.2.2,t50.2.1,t50.2.2.1,t50.2.2.2.1,t50.2.2.2.2.1,t50.2.2.2.2.2.1,t50.2.2.2.2.2.2.1,t50.2.2.2.2.2.2.2.1,t50.2.2.2.2.2.2.2.2.1,t50.2.2.2.2.2.2.2.2.2.1,t50.2.2.2.2.2.2.2.2.2.2.1,t50.2.2.2.2.2.2.2.2.2.2.2,uB (t41.2-1),t44.2)])).bind λzs53 =>
 some (t50.1,(t9.2.1,t9.2.2.1,t9.2.2.2.1,t9.2.2.2.2.1,t9.2.2.2.2.2.1,t9.2.2.2.2.2.2.1,t9.2.2.2.2.2.2.2.1,t9.2.2.2.2.2.2.2.2.1,t9.2.2.2.2.2.2.2.2.2.1,t9.2.2.2.2.2.2.2.2.2.2.1,t9.2.2.2.2.2.2.2.2.2.2.2.1,t9.2.2.2.2.2.2.2.2.2.2.2.2.1,zs53,t9.2.2.2.2.2.2.2.2.2.2.2.2.2.2.1,t9.2.2.2.2.2.2.2.2.2.2.2.2.2.2.2)))
 (cond (t11.2==4)
 ((loop (λz=>hN z.1 z.2.1 z.2.2.1 z.2.2.2.1 z.2.2.2.2.1 z.2.2.2.2.2.1 z.2.2.2.2.2.2.1 z.2.2.2.2.2.2.2.1 z.2.2.2.2.2.2.2.2.1 z.2.2.2.2.2.2.2.2.2.1 z.2.2.2.2.2.2.2.2.2.2.1 z.2.2.2.2.2.2.2.2.2.2.2.1 z.2.2.2.2.2.2.2.2.2.2.2.2.1 z.2.2.2.2.2.2.2.2.2.2.2.2.2.1 z.2.2.2.2.2.2.2.2.2.2.2.2.2.2.1 z.2.2.2.2.2.2.2.2.2.2.2.2.2.2.2) (0,t9.2.1,t9.2.2.1,t9.2.2.2.2.2.2.2.1,t9.2.2.2.2.2.2.2.2.1,t9.2.2.2.2.2.2.2.2.2.1,t9.2.2.2.2.2.2.2.2.2.2.1,t9.2.2.2.2.2.2.2.2.2.2.2.1,t9.2.2.2.2.2.2.2.2.2.2.2.2.1,t9.2.2.2.2.2.2.2.2.2.2.2.2.2.2.1,t9.2.2.2.2.2.2.2.2.2.2.2.2.2.2.2,t9.2.2.2.1,t9.2.2.2.2.1,t9.2.2.2.2.2.1,t9.2.2.2.2.2.2.1,t9.2.2.2.2.2.2.2.2.2.2.2.2.2.1)).bind λd =>
 some (t11.1,(d.1,d.2.1,d.2.2.2.2.2.2.2.2.2.2.1,d.2.2.2.2.2.2.2.2.2.2.2.1,d.2.2.2.2.2.2.2.2.2.2.2.2.1,d.2.2.2.2.2.2.2.2.2.2.2.2.2.1,d.2.2.1,d.2.2.2.1,d.2.2.2.2.1,d.2.2.2.2.2.1,d.2.2.2.2.2.2.1,d.2.2.2.2.2.2.2.1,d.2.2.2.2.2.2.2.2.2.2.2.2.2.2,d.2.2.2.2.2.2.2.2.1,d.2.2.2.2.2.2.2.2.2.1)))
 (some (t11.1,t9.2))))))
def lV:FL:=(137,⟨[.ptr vP none,.val false uI false],[.val true vO none],λa=>fD a.1 a.2⟩)::lU
theorem rF:Gd lV:=uK rE 137 Tryz.f137 [(1,⟨⟨[(6,false,[dI])],[(266240,.box [dI,dS,.own 1000001000,.own 1000001001,.own 1000001002,.own 1000001003,dI,dI,dI,dI,dI,dS,.own 1000001004,dI,dI]),(1000001000,.root wX false),(1000001001,.root uY false),(1000001002,.root vI false),(1000001003,.root uI false),(1000001004,.root z6 false)]⟩,
 ⟨[],[(266240,.box [dI,dS,.own 1000001300,.own 1000001301,.own 1000001302,.own 1000001303,dI,dI,dI,dI,dI,dS,.own 1000001304,dI,dI]),(1000001300,.root wX false),(1000001301,.root uY false),(1000001302,.root vI false),(1000001303,.root uI false),(1000001304,.root z6 false)]⟩,none⟩)] Tryz.func137
def cV (n1:Int) (i6:Int) (b0:List Int) (b1:Int) (b2:Int) (out5:List Int):Option ((Int×List Int×Int×Int×List Int)⊕(List Int×Int×Int×List Int)) :=
 cond (decide (i6<n1))
 ((bS (b0,b1,b2)).bind λt15 =>
 (uV out5 [IntKind.u8.wrap (t15.2)]).bind λzs18 =>
 some (.inl (uB (i6+1),t15.1.1,t15.1.2.1,t15.1.2.2,zs18)))
 (some (.inr (b0,b1,b2,out5)))
def fE (c0:uM) (n1:Int):Option (uM×List Int) :=
 (loop (λz=>cV n1 z.1 z.2.1 z.2.2.1 z.2.2.2.1 z.2.2.2.2) (0,c0.1,c0.2.1,c0.2.2,([]:List Int))).bind λd =>
 some ((d.1,d.2.1,d.2.2.1),d.2.2.2)
def lW:FL:=(355,⟨[.ptr vP none,.val false uI false],[.val false wv (some true)],λa=>fE a.1 a.2⟩)::lV
theorem rG:Gd lW:=uK rF 355 Tryz.f355 [(0,⟨⟨[(5,false,[.own 1000000000]),(6,false,[dI])],[(1,.box [.dat (.sl (.one (.int .u8))),dI,dI]),(1000000000,.root (.one (.int .u8)) true)]⟩,
 ⟨[(5,false,[.own 1000000300])],[(1,.box [.dat (.sl (.one (.int .u8))),dI,dI]),(1000000300,.root (.one (.int .u8)) true)]⟩,none⟩)] Tryz.func355
def jg (c0:uM):Option (uM×List Int) :=
 (af c0 ([0,1,2,5,9]:List Int)).bind λt6 =>
 (fE t6.1 t6.2).bind λt7 =>
 some t7
def lX:FL:=(324,⟨[.ptr vP none],[.val false wv (some true)],λa=>jg a⟩)::lW
theorem rH:Gd lX:=uK rG 324 Tryz.f324 [] Tryz.func324
def hP (c0:uM):Option (uM×zi) :=
 (af c0 ([0,11,12,13,14,11,12]:List Int)).bind λt5 =>
 (bE t5.1).bind λt7 =>
 (af t7.1 ([0,0,0,1,2,3]:List Int)).bind λt10 =>
 (jg t10.1).bind λt12 =>
 some (t12.1,(t5.2,t7.2,t10.2,t12.2))
def lY:FL:=(251,⟨[.ptr vP none],[.val true AN (some true)],λa=>hP a⟩)::lX
theorem rI:Gd lY:=uK rH 251 Tryz.f251 [] Tryz.func251
def fF (c0:uM) (b1:uz):Option (uM×Act) :=
 (af c0 ([1,1,2,2,2,2,2,3,4,5,6]:List Int)).bind λt8 =>
 cond (t8.2==1)
 ((bJ t8.1 b1).bind λt16 =>
 some (t16.1,(t8.2,0,false,t16.2,0,0,0,[],0,0,0,0,0)))
 (cond (t8.2==2)
 ((af t8.1 ([0,0,1,2]:List Int)).bind λt22 =>
 some (t22.1,(t8.2,t22.2,false,[],0,0,0,[],0,0,0,0,0)))
 (cond (t8.2==3)
 ((aa t8.1 4).bind λt27 =>
 (hP t27.1).bind λt30 =>
 some (t30.1,(t8.2,t27.2,false,[],t30.2.1,t30.2.2.1,t30.2.2.2.1,t30.2.2.2.2,0,0,0,0,0)))
 (cond (t8.2==4)
 ((aa t8.1 4).bind λt35 =>
 (dD t35.1).bind λt38 =>
 some (t38.1,(t8.2,t35.2,false,[],0,0,0,[],t38.2.1,t38.2.2.1,t38.2.2.2.1,t38.2.2.2.2.1,t38.2.2.2.2.2)))
 (cond (t8.2==5)
 ((aa t8.1 4).bind λt43 =>
 (bo t43.1 3).bind λt46 =>
 some (t46.1,(t8.2,t43.2,!t46.2,[],0,0,0,[],0,0,0,0,0)))
 (some (t8.1,(t8.2,0,false,[],0,0,0,[],0,0,0,0,0)))))))
def lZ:FL:=(151,⟨[.ptr vP none,.val true uR false],[.val true zX none],λa=>fF a.1 a.2⟩)::lY
theorem rJ:Gd lZ:=uK rI 151 Tryz.f151 [] Tryz.func151
def ea (b1:uz) (i8:Int) (b0:List Int) (b1_1:Int) (b2:Int) (out7:List Act):Option ((Int×List Int×Int×Int×List Act)⊕(List Int×Int×Int×List Act)) :=
 cond (decide (i8>0))
 ((fF (b0,b1_1,b2) b1).bind λt20 =>
 (uV out7 [t20.2]).bind λzs22 =>
 some (.inl (uB (i8-1),t20.1.1,t20.1.2.1,t20.1.2.2,zs22)))
 (some (.inr (b0,b1_1,b2,out7)))
def fG (c0:uM) (b1:uz) (most2:Int):Option (uM×List Act) :=
 (aa c0 most2).bind λt12 =>
 (loop (λz=>ea b1 z.1 z.2.1 z.2.2.1 z.2.2.2.1 z.2.2.2.2) (t12.2,t12.1.1,t12.1.2.1,t12.1.2.2,([]:List Act))).bind λd =>
 some ((d.1,d.2.1,d.2.2.1),d.2.2.2)
def m5:FL:=(145,⟨[.ptr vP none,.val true uR false,.val false uI false],[.val false (.one (.sl zX)) none],λa=>fG a.1 a.2.1 a.2.2⟩)::lZ
theorem rK:Gd m5:=uK rJ 145 Tryz.f145 [(0,⟨⟨[(7,false,[.own 1000000000]),(8,false,[dI])],[(1,.box [.dat (.sl (.one (.int .u8))),dI,dI]),(1000000000,.root zX false)]⟩,
 ⟨[(7,false,[.own 1000000300])],[(1,.box [.dat (.sl (.one (.int .u8))),dI,dI]),(1000000300,.root zX false)]⟩,none⟩)] Tryz.func145
def hU (code0:List Int):Option (uN×List Act) :=
 (fH code0).bind λt7 =>
 (fD t7 2).bind λt9 =>
 (bK code0 14).bind λt15 =>
 (fG t9.1 (t9.2.1,t9.2.2.1,t9.2.2.2.1,t9.2.2.2.2.1,t9.2.2.2.2.2.1,t9.2.2.2.2.2.2.1,t9.2.2.2.2.2.2.2.1,t9.2.2.2.2.2.2.2.2.1,t9.2.2.2.2.2.2.2.2.2.1,t9.2.2.2.2.2.2.2.2.2.2.1,t9.2.2.2.2.2.2.2.2.2.2.2.1) (uB (6+t15))).bind λt17 =>
 some (t9.2,t17.2)
def m6:FL:=(59,⟨[.val false wv false],[.val true vO none,.val false (.one (.sl zX)) none],λa=>hU a⟩)::m5
theorem rL:Gd m6:=uK rK 59 Tryz.f59 [] Tryz.func59
def ce (a0:uN) (x1:Act):Option (uN×(List vZ)×List wa) :=
 (cW a0).bind λt11 =>
 (ed a0).bind λt13 =>
 cond (!t13)
 (some (t11,[],[]))
 ((cf t11 x1).bind λt18 =>
 some t18)
def m7:FL:=(61,⟨[.val true vO false,.val true zX false],[.val true vO (some true),.val false (.one (.sl AZ)) (some true),.val false (.one (.sl yW)) none],λa=>ce a.1 a.2⟩)::m6
theorem rM:Gd m7:=uK rL 61 Tryz.f61 [] Tryz.func61
def hZ (l1:List Act) (t19:Int) (b0:Int) (b1:List UInt8) (b6:Int) (b7:Int) (b8:Int) (b9:Int) (b10:Int) (b11:List UInt8) (b13:Int) (b14:Int) (outs8:List vZ) (dones9:List wa) (b2:List Pt) (b3:List uF) (b4:List uQ) (b5:List Int) (b12:List vF):Option ((Int×Int×List UInt8×Int×Int×Int×Int×Int×List UInt8×Int×Int×List vZ×List wa×List Pt×List uF×List uQ×List Int×List vF)⊕(Int×List UInt8×Int×Int×Int×Int×Int×List UInt8×Int×Int×List vZ×List wa×List Pt×List uF×List uQ×List Int×List vF)) :=
 cond (decide (t19<(l1.length:Int)))
 ((at? l1 t19).bind λx22 =>
 cond (decide (t19>=60))
 (some (.inr (b0,b1,b6,b7,b8,b9,b10,b11,b13,b14,outs8,dones9,b2,b3,b4,b5,b12)))
 ((ce (b0,b1,b2,b3,b4,b5,b6,b7,b8,b9,b10,b11,b12,b13,b14) x22).bind λt29 =>
 (uV outs8 t29.2.1).bind λzs36 =>
 (uV dones9 t29.2.2).bind λzs39 =>
 some (.inl (uB (t19+1),t29.1.1,t29.1.2.1,t29.1.2.2.2.2.2.2.1,t29.1.2.2.2.2.2.2.2.1,t29.1.2.2.2.2.2.2.2.2.1,t29.1.2.2.2.2.2.2.2.2.2.1,t29.1.2.2.2.2.2.2.2.2.2.2.1,t29.1.2.2.2.2.2.2.2.2.2.2.2.1,t29.1.2.2.2.2.2.2.2.2.2.2.2.2.2.1,t29.1.2.2.2.2.2.2.2.2.2.2.2.2.2.2,zs36,zs39,t29.1.2.2.1,t29.1.2.2.2.1,t29.1.2.2.2.2.1,t29.1.2.2.2.2.2.1,t29.1.2.2.2.2.2.2.2.2.2.2.2.2.1))))
 (some (.inr (b0,b1,b6,b7,b8,b9,b10,b11,b13,b14,outs8,dones9,b2,b3,b4,b5,b12)))
def fJ (a0:uN) (l1:List Act):Option (uN×(List vZ)×List wa) :=
 (cW a0).bind λt16 =>
 (loop (λz=>hZ l1 z.1 z.2.1 z.2.2.1 z.2.2.2.1 z.2.2.2.2.1 z.2.2.2.2.2.1 z.2.2.2.2.2.2.1 z.2.2.2.2.2.2.2.1 z.2.2.2.2.2.2.2.2.1 z.2.2.2.2.2.2.2.2.2.1 z.2.2.2.2.2.2.2.2.2.2.1 z.2.2.2.2.2.2.2.2.2.2.2.1 z.2.2.2.2.2.2.2.2.2.2.2.2.1 z.2.2.2.2.2.2.2.2.2.2.2.2.2.1 z.2.2.2.2.2.2.2.2.2.2.2.2.2.2.1 z.2.2.2.2.2.2.2.2.2.2.2.2.2.2.2.1 z.2.2.2.2.2.2.2.2.2.2.2.2.2.2.2.2.1 z.2.2.2.2.2.2.2.2.2.2.2.2.2.2.2.2.2) (0,t16.1,t16.2.1,t16.2.2.2.2.2.2.1,t16.2.2.2.2.2.2.2.1,t16.2.2.2.2.2.2.2.2.1,t16.2.2.2.2.2.2.2.2.2.1,t16.2.2.2.2.2.2.2.2.2.2.1,t16.2.2.2.2.2.2.2.2.2.2.2.1,t16.2.2.2.2.2.2.2.2.2.2.2.2.2.1,t16.2.2.2.2.2.2.2.2.2.2.2.2.2.2,[],[],t16.2.2.1,t16.2.2.2.1,t16.2.2.2.2.1,t16.2.2.2.2.2.1,t16.2.2.2.2.2.2.2.2.2.2.2.2.1)).bind λd =>
 some ((d.1,d.2.1,d.2.2.2.2.2.2.2.2.2.2.2.2.1,d.2.2.2.2.2.2.2.2.2.2.2.2.2.1,d.2.2.2.2.2.2.2.2.2.2.2.2.2.2.1,d.2.2.2.2.2.2.2.2.2.2.2.2.2.2.2.1,d.2.2.1,d.2.2.2.1,d.2.2.2.2.1,d.2.2.2.2.2.1,d.2.2.2.2.2.2.1,d.2.2.2.2.2.2.2.1,d.2.2.2.2.2.2.2.2.2.2.2.2.2.2.2.2,d.2.2.2.2.2.2.2.2.1,d.2.2.2.2.2.2.2.2.2.1),d.2.2.2.2.2.2.2.2.2.2.1,d.2.2.2.2.2.2.2.2.2.2.2.1)
def m8:FL:=(60,⟨[.val true vO false,.val false (.one (.sl zX)) false],[.val true vO (some true),.val false (.one (.sl AZ)) (some true),.val false (.one (.sl yW)) none],λa=>fJ a.1 a.2⟩)::m7
theorem rN:Gd m8:=uK rM 60 Tryz.f60 [(0,⟨⟨[(8,false,[.own 1000000000]),(9,false,[.own 1000000001]),(19,false,[dI])],[(265216,.box [dI,dS,.own 1000000002,.own 1000000003,.own 1000000004,.own 1000000005,dI,dI,dI,dI,dI,dS,.own 1000000006,dI,dI]),(1000000000,.root AZ true),(1000000001,.root yW false),(1000000002,.root wX true),(1000000003,.root uY true),(1000000004,.root vI true),(1000000005,.root uI true),(1000000006,.root z6 true)]⟩,
 ⟨[(8,false,[.own 1000000300]),(9,false,[.own 1000000301])],[(265216,.box [dI,dS,.own 1000000302,.own 1000000303,.own 1000000304,.own 1000000305,dI,dI,dI,dI,dI,dS,.own 1000000306,dI,dI]),(1000000300,.root AZ true),(1000000301,.root yW false),(1000000302,.root wX true),(1000000303,.root uY true),(1000000304,.root vI true),(1000000305,.root uI true),(1000000306,.root z6 true)]⟩,none⟩)] Tryz.func60
def i0 (a0:zi) (b1:zi):Option Bool :=
 (cond (a0.1==b1.1) (some (a0.2.1==b1.2.1)) (some false)).bind λt16 =>
 (cond t16 (some (a0.2.2.1==b1.2.2.1)) (some false)).bind λt23 =>
 (cond t23 (some ((vW a0.2.2.2)==(vW b1.2.2.2))) (some false)).bind λt32 =>
 some t32
def m9:FL:=(146,⟨[.val true AN false,.val true AN false],[.val false vr (some true)],λa=>i0 a.1 a.2⟩)::m8
theorem rO:Gd m9:=uK rN 146 Tryz.f146 [] Tryz.func146
def ee (a0:List vZ) (b1:List vZ) (i5:Int):Option (Int⊕(Unit⊕Bool)) :=
 cond (decide (i5<(a0.length:Int)))
 ((at? a0 i5).bind λx19 =>
 (at? b1 i5).bind λx24 =>
 (cond (x19.1 != x24.1)
 (some true)
 ((at? a0 i5).bind λx31 =>
 (at? b1 i5).bind λx36 =>
 (i0 x31.2 x36.2).bind λt39 =>
 some (!t39))).bind λt41 =>
 cond t41 (some (.inr (.inr false))) (some (.inl (uB (i5+1)))))
 (some (.inr (.inl ())))
def fK (a0:List vZ) (b1:List vZ):Option Bool :=
 cond ((a0.length:Int) != (b1.length:Int))
 (some false)
 ((loop (λz=>ee a0 b1 z) 0).bind (Sum.elim (λd =>
 some true) (λr=>some r)))
def ma:FL:=(62,⟨[.val false (.one (.sl AZ)) false,.val false (.one (.sl AZ)) false],[.val false vr (some true)],λa=>fK a.1 a.2⟩)::m9
theorem rP:Gd ma:=uK rO 62 Tryz.f62 [(0,⟨⟨(5,false,[dI])::us 29 12 [],[]⟩,
 ⟨[],[]⟩,some ⟨[(4,false,[dB])],[]⟩⟩)] Tryz.func62
def ia (code0:List Int):Option (uz×List Act) :=
 (fH code0).bind λt7 =>
 (fo t7).bind λt9 =>
 (bK code0 10).bind λt14 =>
 (fG t9.1 t9.2 (uB (6+t14))).bind λt16 =>
 some (t9.2,t16.2)
def rQ:FL:=(63,⟨[.val false wv false],[.val true uR none,.val false (.one (.sl zX)) none],λa=>ia a⟩)::ma
theorem rR:Gd rQ:=uK rP 63 Tryz.f63 [] Tryz.func63
def ib (t28:uN×List Act) (t11:Int) (b0:Int) (b1:List UInt8) (b2:List Pt) (b3:List uF) (b4:List uQ) (b5:List Int) (b6:Int) (b7:Int) (b8:Int) (b9:Int) (b10:Int) (b11:List UInt8) (b12:List vF) (b13:Int) (b14:Int) (t9:List vZ) (t10:List wa):Option ((Int×Int×List UInt8×List Pt×List uF×List uQ×List Int×Int×Int×Int×Int×Int×List UInt8×List vF×Int×Int×List vZ×List wa)⊕(Int×List UInt8×List Pt×List uF×List uQ×List Int×Int×Int×Int×Int×Int×List UInt8×List vF×Int×Int×List vZ×List wa)) :=
 cond (decide (t11<(t28.2.length:Int)))
 ((at? t28.2 t11).bind λx51 =>
 (ce (b0,b1,b2,b3,b4,b5,b6,b7,b8,b9,b10,b11,b12,b13,b14) x51).bind λt53 =>
 (uV t9 t53.2.1).bind λzs60 =>
 (uV t10 t53.2.2).bind λzs63 =>
 some (.inl (uB (t11+1),t53.1.1,t53.1.2.1,t53.1.2.2.1,t53.1.2.2.2.1,t53.1.2.2.2.2.1,t53.1.2.2.2.2.2.1,t53.1.2.2.2.2.2.2.1,t53.1.2.2.2.2.2.2.2.1,t53.1.2.2.2.2.2.2.2.2.1,t53.1.2.2.2.2.2.2.2.2.2.1,t53.1.2.2.2.2.2.2.2.2.2.2.1,t53.1.2.2.2.2.2.2.2.2.2.2.2.1,t53.1.2.2.2.2.2.2.2.2.2.2.2.2.1,t53.1.2.2.2.2.2.2.2.2.2.2.2.2.2.1,t53.1.2.2.2.2.2.2.2.2.2.2.2.2.2.2,zs60,zs63)))
 (some (.inr (b0,b1,b2,b3,b4,b5,b6,b7,b8,b9,b10,b11,b12,b13,b14,t9,t10)))
def cX (t82:uz×List Act) (t18:Int) (t17:List Act):Option ((Int×List Act)⊕(List Act)) :=
 cond (decide (t18<(t82.2.length:Int)))
 ((at? t82.2 t18).bind λx94 =>
 cond (decide (x94.1>=3))
 ((at? t82.2 t18).bind λx101 =>
 (uV t17 [x101]).bind λzs104 =>
 some (.inl (uB (t18+1),zs104)))
 (some (.inl (uB (t18+1),t17))))
 (some (.inr t17))
def DG (p0:List Int):Option Bool :=
 (jh p0).bind λt25 =>
 cond t25
 (some true)
 ((hU p0).bind λt28 =>
 (fJ t28.1 t28.2).bind λt34 =>
 (loop (λz=>ib t28 z.1 z.2.1 z.2.2.1 z.2.2.2.1 z.2.2.2.2.1 z.2.2.2.2.2.1 z.2.2.2.2.2.2.1 z.2.2.2.2.2.2.2.1 z.2.2.2.2.2.2.2.2.1 z.2.2.2.2.2.2.2.2.2.1 z.2.2.2.2.2.2.2.2.2.2.1 z.2.2.2.2.2.2.2.2.2.2.2.1 z.2.2.2.2.2.2.2.2.2.2.2.2.1 z.2.2.2.2.2.2.2.2.2.2.2.2.2.1 z.2.2.2.2.2.2.2.2.2.2.2.2.2.2.1 z.2.2.2.2.2.2.2.2.2.2.2.2.2.2.2.1 z.2.2.2.2.2.2.2.2.2.2.2.2.2.2.2.2.1 z.2.2.2.2.2.2.2.2.2.2.2.2.2.2.2.2.2) (0,t28.1.1,t28.1.2.1,t28.1.2.2.1,t28.1.2.2.2.1,t28.1.2.2.2.2.1,t28.1.2.2.2.2.2.1,t28.1.2.2.2.2.2.2.1,t28.1.2.2.2.2.2.2.2.1,t28.1.2.2.2.2.2.2.2.2.1,t28.1.2.2.2.2.2.2.2.2.2.1,t28.1.2.2.2.2.2.2.2.2.2.2.1,t28.1.2.2.2.2.2.2.2.2.2.2.2.1,t28.1.2.2.2.2.2.2.2.2.2.2.2.2.1,t28.1.2.2.2.2.2.2.2.2.2.2.2.2.2.1,t28.1.2.2.2.2.2.2.2.2.2.2.2.2.2.2,([]:List vZ),([]:List wa))).bind λd =>
 (fL t34.1 (d.1,d.2.1,d.2.2.1,d.2.2.2.1,d.2.2.2.2.1,d.2.2.2.2.2.1,d.2.2.2.2.2.2.1,d.2.2.2.2.2.2.2.1,d.2.2.2.2.2.2.2.2.1,d.2.2.2.2.2.2.2.2.2.1,d.2.2.2.2.2.2.2.2.2.2.1,d.2.2.2.2.2.2.2.2.2.2.2.1,d.2.2.2.2.2.2.2.2.2.2.2.2.1,d.2.2.2.2.2.2.2.2.2.2.2.2.2.1,d.2.2.2.2.2.2.2.2.2.2.2.2.2.2.1)).bind λt66 =>
 (cond (!t66)
 (some true)
 ((fK t34.2.1 d.2.2.2.2.2.2.2.2.2.2.2.2.2.2.2.1).bind λt71 =>
 some (!t71))).bind λt73 =>
 (cond t73
 (some true)
 ((fM t34.2.2 d.2.2.2.2.2.2.2.2.2.2.2.2.2.2.2.2).bind λt77 =>
 some (!t77))).bind λt79 =>
 cond t79
 (some false)
 ((ia p0).bind λt82 =>
 (loop (λz=>cX t82 z.1 z.2) (0,([]:List Act))).bind λd_1 =>
 (fN t82.1 t82.2).bind λt107 =>
 (cg t82.1 [121,97,114,100]).bind λt109 =>
 (fJ t109 d_1).bind λt113 =>
 (fN t82.1 d_1).bind λt120 =>
 (cY t107 t120).bind λt121 =>
 (cond t121
 ((aN t82.1).bind λt124 =>
 (cond (!t124)
 (some true)
 ((cY (t113.1.1,t113.1.2.1,t113.1.2.2.1,t113.1.2.2.2.1,t113.1.2.2.2.2.1,t113.1.2.2.2.2.2.1,t113.1.2.2.2.2.2.2.1,t113.1.2.2.2.2.2.2.2.1,t113.1.2.2.2.2.2.2.2.2.1,t113.1.2.2.2.2.2.2.2.2.2.1,t113.1.2.2.2.2.2.2.2.2.2.2.1) t107).bind λt130 =>
 some t130)).bind λt131 =>
 some t131)
 (some false)).bind λt132 =>
 some t132))
def EV:Fn:=⟨[.val false wv false],[.val false vr (some true)],λa=>DG a⟩
def IL:List (Nat×uP):=[(0,⟨⟨[(9,false,[.own 1000000000]),(10,false,[.own 1000000001]),(11,false,[dI])],[(1312768,.box [dI,dS,.dat (.sl wX),.dat (.sl uY),.dat (.sl vI),.dat (.sl uI),dI,dI,dI,dI,dI,dS,.dat (.sl z6),dI,dI]),(1000000000,.root AZ true),(1000000001,.root yW false)]⟩,
 ⟨[(9,false,[.own 1000000300]),(10,false,[.own 1000000301])],[(1312768,.box [dI,dS,.dat (.sl wX),.dat (.sl uY),.dat (.sl vI),.dat (.sl uI),dI,dI,dI,dI,dI,dS,.dat (.sl z6),dI,dI]),(1000000300,.root AZ true),(1000000301,.root yW false)]⟩,none⟩),
 (2,⟨⟨[(17,false,[.own 1000002000]),(18,false,[dI])],[(1000002000,.root zX false)]⟩,
 ⟨[(17,false,[.own 1000002300])],[(1000002300,.root zX false)]⟩,none⟩)]
theorem m_laws_FnActs:Dh Tryz.prog 8 EV:=T0 rR 8 Tryz.f8 IL EV Tryz.func8
def ef (a0:uN) (k1:Int):Option (uN×List wa) :=
 (cW a0).bind λt9 =>
 (ed a0).bind λt11 =>
 (cond (!t11)
 (some true)
 ((ac k1 0 (uB ((a0.2.2.2.2.2.2.2.2.2.2.2.2.1.length:Int)-1))).bind λt19 =>
 some (!t19))).bind λt21 =>
 cond t21
 (some (t9,[]))
 ((eg t9 k1).bind λt24 =>
 some t24)
end
end Go.V.W

