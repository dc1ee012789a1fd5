/- The law FnJunk: part of the proof that for every input it returns true. No condition. -/
import Derived.Test.YthcdcolihokdmaaGreatFnJunkP1
set_option linter.unusedVariables false
set_option linter.unusedSimpArgs false
namespace Go.V.W
open Go.Proofs
noncomputable section
theorem mV:xb Tryz.prog ⟨tis,ib,[],false⟩:=ic.cons Hf
def ft (l0:List rR) (tag1:Int) (mac2:Int) (port3:Int):Option (List rR) :=
 (bM l0 tag1 mac2).bind λt18 =>
 (ch l0).bind λt20 =>
 (cond (!t20)
 (some true)
 ((ci (tag1,mac2,port3,0,false)).bind λt24 =>
 some (!t24))).bind λt26 =>
 (cond t26
 (some true)
 ((cond (decide (t18>=0))
 ((at? l0 t18).bind λx33 =>
 some x33.2.2.2.2)
 (some false)).bind λt36 =>
 some t36)).bind λt37 =>
 (cond t37
 (some true)
 ((cond (decide (t18<0)) (some (decide ((l0.length:Int)>=12))) (some false)).bind λt45 =>
 some t45)).bind λt46 =>
 cond t46
 ((bN l0).bind λt48 =>
 some t48)
 ((ee l0 (tag1,mac2,port3,0,false)).bind λt51 =>
 some t51)
def ie:FL:=(201,⟨[.val false (.one (.sl sr)) false,.val false rQ false,.val false rQ false,.val false rQ false],[.val false (.one (.sl sr)) (some true)],λa=>ft a.1 a.2.1 a.2.2.1 a.2.2.2⟩)::ib
theorem mW:Gd ie:=rS mV 201 Tryz.f201 [] Tryz.func201
def cW (ports0:Int) (i5:Int) (b1:List Int):Option ((Int×List Int)⊕(List Int)) :=
 cond (decide (i5<ports0))
 ((sf b1 ([1]:List Int)).bind λzs27 =>
 some (.inl (rJ (i5+1),zs27)))
 (some (.inr b1))
def ef (ports0:Int):Option sR :=
 (ae ports0 1 6).bind λt7 =>
 cond (!t7)
 (some ([],[]))
 ((shl .i64 1 (IntKind.u64.wrap (ports0))).bind λt12 =>
 (loop (λz=>cW ports0 z.1 z.2) (0,[])).bind λd =>
 some ([(1,rJ (t12-1),rJ (t12-1))],d))
def ig:FL:=(298,⟨[.val false rQ false],[.val true uq (some true)],λa=>ef a⟩)::ie
theorem mX:Gd ig:=rS mW 298 Tryz.f298 [(0,⟨⟨[(5,false,[dI])],[(1054720,.box [.same 1052672,.own 1000000000]),(1000000000,.root rQ true)]⟩,
 ⟨[],[(1054720,.box [.same 1052672,.own 1000000300]),(1000000300,.root rQ true)]⟩,none⟩)] Tryz.func298
def cX (ports1:Int) (i6:Int) (b0:Int) (b1:List UInt8) (b6:Int) (b7:Int) (b8:Int) (b9:Int) (b10:Int) (b2:List Pt) (b3:List rR):Option ((Int×Int×List UInt8×Int×Int×Int×Int×Int×List Pt×List rR)⊕(Int×List UInt8×Int×Int×Int×Int×Int×List Pt×List rR)) :=
 cond (decide (i6<ports1))
 ((sf b2 [(false,1,false,0,0,0,0,0)]).bind λzs29 =>
 some (.inl (rJ (i6+1),b0,b1,b6,b7,b8,b9,b10,zs29,b3)))
 (some (.inr (b0,b1,b6,b7,b8,b9,b10,b2,b3)))
def eh (id0:Int) (ports1:Int):Option rI :=
 (ae id0 1 99).bind λt8 =>
 (cond (!t8)
 (some true)
 ((ae ports1 1 6).bind λt12 =>
 some (!t12))).bind λt14 =>
 cond t14
 (some (0,[],[],[],[],[],0,0,0,0,0))
 ((ef ports1).bind λt18 =>
 (loop (λz=>cX ports1 z.1 z.2.1 z.2.2.1 z.2.2.2.1 z.2.2.2.2.1 z.2.2.2.2.2.1 z.2.2.2.2.2.2.1 z.2.2.2.2.2.2.2.1 z.2.2.2.2.2.2.2.2.1 z.2.2.2.2.2.2.2.2.2) (0,id0,[],0,0,0,0,0,[],[])).bind λd =>
 some (d.1,d.2.1,d.2.2.2.2.2.2.2.1,d.2.2.2.2.2.2.2.2,t18.1,t18.2,d.2.2.1,d.2.2.2.1,d.2.2.2.2.1,d.2.2.2.2.2.1,d.2.2.2.2.2.2.1))
def ii:FL:=(210,⟨[.val false rQ false,.val false rQ false],[.val true s7 (some true)],λa=>eh a.1 a.2⟩)::ig
theorem mY:Gd ii:=rS mX 210 Tryz.f210 [(0,⟨⟨[(6,false,[dI])],[(791552,.box [dI,dS,.own 1000000000,.own 1000000001,.same 789504,.same 789505,dI,dI,dI,dI,dI]),(1000000000,.root uG true),(1000000001,.root sr true)]⟩,
 ⟨[],[(791552,.box [dI,dS,.own 1000000300,.own 1000000301,.same 789504,.same 789505,dI,dI,dI,dI,dI]),(1000000300,.root uG true),(1000000301,.root sr true)]⟩,none⟩)] Tryz.func210
def fu (c0:sc):Option (sc×zb) :=
 (aa c0 5).bind λt4 =>
 (ai t4.1 ([0,1,2,5,10,100]:List Int)).bind λt8 =>
 (ai t8.1 ([0,1,2,9,10]:List Int)).bind λt11 =>
 (aa t11.1 5).bind λt13 =>
 (aa t13.1 4).bind λt16 =>
 some (t16.1,(rJ (1+t4.2),t8.2,t11.2,rJ (1+t13.2),t16.2))
def ij:FL:=(299,⟨[.ptr uc none],[.val true xr (some true)],λa=>fu a⟩)::ii
theorem mZ:Gd ij:=rS mY 299 Tryz.f299 [] Tryz.func299
def cY (n1:Int) (i6:Int) (b0:List Int) (b1:Int) (b2:Int) (out5:List Pt):Option ((Int×List Int×Int×Int×List Pt)⊕(List Int×Int×Int×List Pt)) :=
 cond (decide (i6<n1))
 ((bb (b0,b1,b2) 4).bind λt15 =>
 (ai t15.1 ([1,1,2,5,10]:List Int)).bind λt19 =>
 cond (!t15.2)
 ((bb t19.1 4).bind λt25 =>
 cond (!t25.2)
 ((fu t25.1).bind λt30 =>
 (sf out5 [(!t15.2,t19.2,true,t30.2.1,t30.2.2.1,t30.2.2.2.1,t30.2.2.2.2.1,t30.2.2.2.2.2)]).bind λzs35 =>
 some (.inl (rJ (i6+1),t30.1.1,t30.1.2.1,t30.1.2.2,zs35)))
 ((sf out5 [(!t15.2,t19.2,false,0,0,0,0,0)]).bind λzs35_1 =>
 some (.inl (rJ (i6+1),t25.1.1,t25.1.2.1,t25.1.2.2,zs35_1))))
 ((sf out5 [(!t15.2,t19.2,false,0,0,0,0,0)]).bind λzs35_2 =>
 some (.inl (rJ (i6+1),t19.1.1,t19.1.2.1,t19.1.2.2,zs35_2))))
 (some (.inr (b0,b1,b2,out5)))
def ei (c0:sc) (n1:Int):Option (sc×List Pt) :=
 (loop (λz=>cY n1 z.1 z.2.1 z.2.2.1 z.2.2.2.1 z.2.2.2.2) (0,c0.1,c0.2.1,c0.2.2,([]:List Pt))).bind λd =>
 some ((d.1,d.2.1,d.2.2.1),d.2.2.2)
def il:FL:=(211,⟨[.ptr uc none,.val false rQ false],[.val false (.one (.sl uG)) (some true)],λa=>ei a.1 a.2⟩)::ij
theorem na:Gd il:=rS mZ 211 Tryz.f211 [(0,⟨⟨(5,false,[.own 1000000000])::(6,false,[dI])::us 24 3 [],[(1,.box [.dat (.sl (.one (.int .u8))),dI,dI]),(1000000000,.root uG true)]⟩,
 ⟨[(5,false,[.own 1000000300])],[(1,.box [.dat (.sl (.one (.int .u8))),dI,dI]),(1000000300,.root uG true)]⟩,none⟩)] Tryz.func211
def cZ (x0:sR) (v1:sR):Option (sR×Bool) :=
 (aI x0 (v1.2.length:Int)).bind λt10 =>
 cond (!t10)
 ((aJ v1).bind λt13 =>
 some (t13,false))
 (some (x0,true))
def ip:FL:=(349,⟨[.val true uq true,.val true uq false],[.val true uq (some true),.val false sS (some true)],λa=>cZ a.1 a.2⟩)::il
theorem nb:Gd ip:=rS na 349 Tryz.f349 [] Tryz.func349
def ej (v0:sR) (port1:Int) (id2:Int):Option (sR×Bool) :=
 (aI v0 (v0.2.length:Int)).bind λt13 =>
 (cond (!t13)
 (some true)
 ((ae port1 0 (rJ ((v0.2.length:Int)-1))).bind λt21 =>
 some (!t21))).bind λt23 =>
 cond t23
 ((aJ v0).bind λt25 =>
 some (t25,false))
 ((aJ v0).bind λt27 =>
 (ix t27.2.length port1).bind λj32 =>
 (t27.2[j32]?).bind λx =>
 (cZ (t27.1,t27.2.set j32 id2) v0).bind λt35 =>
 some t35)
def iq:FL:=(300,⟨[.val true uq false,.val false rQ false,.val false rQ false],[.val true uq (some true),.val false sS (some true)],λa=>ej a.1 a.2.1 a.2.2⟩)::ip
theorem nc:Gd iq:=rS nb 300 Tryz.f300 [] Tryz.func300
def em (v0:sR) (id1:Int):Option (sR×Bool) :=
 (bc v0 id1).bind λt10 =>
 (aI v0 (v0.2.length:Int)).bind λt15 =>
 (cond (!t15) (some true) (some (decide (t10<0)))).bind λt20 =>
 cond t20
 ((aJ v0).bind λt22 =>
 some (t22,false))
 ((aJ v0).bind λt24 =>
 (cut v0.1 0 t10).bind λt29 =>
 (sf ([]:List s5) t29).bind λzs30 =>
 (cut v0.1 (rJ (t10+1)) (v0.1.length:Int)).bind λt35 =>
 (sf zs30 t35).bind λzs36 =>
 (cZ (zs36,t24.2) v0).bind λt40 =>
 some t40)
def ir:FL:=(301,⟨[.val true uq false,.val false rQ false],[.val true uq (some true),.val false sS (some true)],λa=>em a.1 a.2⟩)::iq
theorem nd:Gd ir:=rS nc 301 Tryz.f301 [] Tryz.func301
def eo (v0:sR) (r1:s5):Option (sR×Bool) :=
 (aI v0 (v0.2.length:Int)).bind λt10 =>
 cond (!t10)
 ((aJ v0).bind λt13 =>
 some (t13,false))
 ((bf v0 r1).bind λt16 =>
 (cZ t16 v0).bind λt18 =>
 some t18)
def iu:FL:=(302,⟨[.val true uq false,.val true tv false],[.val true uq (some true),.val false sS (some true)],λa=>eo a.1 a.2⟩)::ir
theorem ne:Gd iu:=rS nd 302 Tryz.f302 [] Tryz.func302
def fv (c0:sc) (ports1:Int):Option (sc×s5) :=
 (shl .i64 1 (IntKind.u64.wrap (ports1))).bind λt9 =>
 (aa c0 (rJ ((rJ (t9-1))+1))).bind λt14 =>
 (ai t14.1 ([1,2,3,2]:List Int)).bind λt17 =>
 (aa t17.1 (rJ ((rJ (t9-1))+1))).bind λt23 =>
 some (t23.1,(t17.2,t14.2,vn .i64 t14.2 t23.2))
def iv:FL:=(303,⟨[.ptr uc none,.val false rQ false],[.val true tv (some true)],λa=>fv a.1 a.2⟩)::iu
theorem ng:Gd iv:=rS ne 303 Tryz.f303 [] Tryz.func303
def da (ports1:Int) (i6:Int) (b0:List Int) (b1:Int) (b2:Int) (b0_1:List s5) (b1_1:List Int):Option ((Int×List Int×Int×Int×List s5×List Int)⊕(List Int×Int×Int×List s5×List Int)) :=
 cond (decide (i6>0))
 ((aa (b0,b1,b2) 4).bind λt16 =>
 cond (t16.2==0)
 ((aa t16.1 ports1).bind λt31 =>
 (aa t31.1 3).bind λt33 =>
 (ej (b0_1,b1_1) t31.2 (rJ (1+t33.2))).bind λt35 =>
 some (.inl (rJ (i6-1),t33.1.1,t33.1.2.1,t33.1.2.2,t35.1.1,t35.1.2)))
 (cond (t16.2==1)
 ((aa t16.1 2).bind λt43 =>
 (em (b0_1,b1_1) (rJ (2+t43.2))).bind λt45 =>
 some (.inl (rJ (i6-1),t43.1.1,t43.1.2.1,t43.1.2.2,t45.1.1,t45.1.2)))
 ((fv t16.1 ports1).bind λt21 =>
 (eo (b0_1,b1_1) t21.2).bind λt22 =>
 some (.inl (rJ (i6-1),t21.1.1,t21.1.2.1,t21.1.2.2,t22.1.1,t22.1.2)))))
 (some (.inr (b0,b1,b2,b0_1,b1_1)))
def ep (c0:sc) (ports1:Int):Option (sc×sR) :=
 (ef ports1).bind λt8 =>
 (aa c0 6).bind λt10 =>
 (loop (λz=>da ports1 z.1 z.2.1 z.2.2.1 z.2.2.2.1 z.2.2.2.2.1 z.2.2.2.2.2) (t10.2,t10.1.1,t10.1.2.1,t10.1.2.2,t8.1,t8.2)).bind λd =>
 some ((d.1,d.2.1,d.2.2.1),d.2.2.2)
def iw:FL:=(212,⟨[.ptr uc none,.val false rQ false],[.val true uq (some true)],λa=>ep a.1 a.2⟩)::iv
theorem nh:Gd iw:=rS ng 212 Tryz.f212 [(0,⟨⟨[(6,false,[dI])],[(1,.box [.dat (.sl (.one (.int .u8))),dI,dI]),(265216,.box [.own 1000000000,.own 1000000001]),(1000000000,.root tv true),(1000000001,.root rQ true)]⟩,
 ⟨[],[(1,.box [.dat (.sl (.one (.int .u8))),dI,dI]),(265216,.box [.own 1000000300,.own 1000000301]),(1000000300,.root tv true),(1000000301,.root rQ true)]⟩,none⟩)] Tryz.func212
def de (c0:sc):Option (sc×Int) :=
 (ai c0 ([11,12,13,14]:List Int)).bind λt5 =>
 some t5
def iy:FL:=(213,⟨[.ptr uc none],[.val false rQ (some true)],λa=>de a⟩)::iw
theorem ni:Gd iy:=rS nh 213 Tryz.f213 [] Tryz.func213
def eq (l0:List rR) (tag1:Int) (mac2:Int) (port3:Int):Option ((List rR)×Bool) :=
 (ch l0).bind λt16 =>
 (cond (!t16)
 (some true)
 ((ci (tag1,mac2,port3,0,true)).bind λt20 =>
 some (!t20))).bind λt22 =>
 (cond t22
 (some true)
 ((bM l0 tag1 mac2).bind λt27 =>
 (cond (decide (t27<0)) (some (decide ((l0.length:Int)>=12))) (some false)).bind λt33 =>
 some t33)).bind λt34 =>
 cond t34
 ((bN l0).bind λt36 =>
 some (t36,false))
 ((ee l0 (tag1,mac2,port3,0,true)).bind λt39 =>
 some (t39,true))
def iz:FL:=(214,⟨[.val false (.one (.sl sr)) false,.val false rQ false,.val false rQ false,.val false rQ false],[.val false (.one (.sl sr)) (some true),.val false sS (some true)],λa=>eq a.1 a.2.1 a.2.2.1 a.2.2.2⟩)::iy
theorem nj:Gd iz:=rS ni 214 Tryz.f214 [] Tryz.func214
def dg (t7:sc×Int) (t5:Int) (b0:List Int) (b1:Int) (b2:Int) (b0_1:Int) (b1_1:List UInt8) (b6:Int) (b7:Int) (b8:Int) (b9:Int) (b10:Int) (b3:List rR):Option ((Int×List Int×Int×Int×Int×List UInt8×Int×Int×Int×Int×Int×List rR)⊕(List Int×Int×Int×Int×List UInt8×Int×Int×Int×Int×Int×List rR)) :=
 cond (decide (t5>0))
 ((aa (b0,b1,b2) 3).bind λt35 =>
 (de t35.1).bind λt38 =>
 (aa t38.1 (rJ (1+t7.2))).bind λt41 =>
 (ft b3 (rJ (1+t35.2)) t38.2 t41.2).bind λt42 =>
 some (.inl (rJ (t5-1),t41.1.1,t41.1.2.1,t41.1.2.2,b0_1,b1_1,b6,b7,b8,b9,b10,t42)))
 (some (.inr (b0,b1,b2,b0_1,b1_1,b6,b7,b8,b9,b10,b3)))
def fw (p0:sc):Option (sc×rI) :=
 (aa p0 4).bind λt7 =>
 (aa t7.1 5).bind λt10 =>
 (eh (rJ (1+t10.2)) (rJ (1+t7.2))).bind λt13 =>
 (aU t10.1 ([[],[121,97,114,100],[98,49]]:List (List UInt8))).bind λt16 =>
 (ei t16.1 (rJ (1+t7.2))).bind λt20 =>
 (ep t20.1 (rJ (1+t7.2))).bind λt24 =>
 (aa t24.1 6).bind λt27 =>
 (loop (λz=>dg t7 z.1 z.2.1 z.2.2.1 z.2.2.2.1 z.2.2.2.2.1 z.2.2.2.2.2.1 z.2.2.2.2.2.2.1 z.2.2.2.2.2.2.2.1 z.2.2.2.2.2.2.2.2.1 z.2.2.2.2.2.2.2.2.2.1 z.2.2.2.2.2.2.2.2.2.2.1 z.2.2.2.2.2.2.2.2.2.2.2) (t27.2,t27.1.1,t27.1.2.1,t27.1.2.2,t13.1,t16.2,t13.2.2.2.2.2.2.1,t13.2.2.2.2.2.2.2.1,t13.2.2.2.2.2.2.2.2.1,t13.2.2.2.2.2.2.2.2.2.1,t13.2.2.2.2.2.2.2.2.2.2,t13.2.2.2.1)).bind λd =>
 (bb (d.1,d.2.1,d.2.2.1) 3).bind λt45 =>
 cond t45.2
 ((de t45.1).bind λt50 =>
 (aa t50.1 (rJ (1+t7.2))).bind λt53 =>
 (eq d.2.2.2.2.2.2.2.2.2.2 1 t50.2 t53.2).bind λt54 =>
 (aa t53.1 5).bind λt59 =>
 (ai t59.1 ([0,1,5,1000000]:List Int)).bind λt63 =>
 some (t63.1,(d.2.2.2.1,d.2.2.2.2.1,t20.2,t54.1,t24.2.1,t24.2.2,t59.2,d.2.2.2.2.2.2.1,d.2.2.2.2.2.2.2.1,d.2.2.2.2.2.2.2.2.1,t63.2)))
 ((aa t45.1 5).bind λt59_1 =>
 (ai t59_1.1 ([0,1,5,1000000]:List Int)).bind λt63_1 =>
 some (t63_1.1,(d.2.2.2.1,d.2.2.2.2.1,t20.2,d.2.2.2.2.2.2.2.2.2.2,t24.2.1,t24.2.2,t59_1.2,d.2.2.2.2.2.2.1,d.2.2.2.2.2.2.2.1,d.2.2.2.2.2.2.2.2.1,t63_1.2)))
def iA:FL:=(128,⟨[.ptr uc none],[.val true s7 (some true)],λa=>fw a⟩)::iz
theorem nk:Gd iA:=rS nj 128 Tryz.f128 [(0,⟨⟨[(5,false,[dI])],[(1,.box [.dat (.sl (.one (.int .u8))),dI,dI]),(530432,.box [dI,dS,.same 1051712,.own 1000000000,.same 1313856,.same 1313857,dI,dI,dI,dI,dI]),(1000000000,.root sr true)]⟩,
 ⟨[],[(1,.box [.dat (.sl (.one (.int .u8))),dI,dI]),(530432,.box [dI,dS,.same 1051712,.own 1000000300,.same 1313856,.same 1313857,dI,dI,dI,dI,dI]),(1000000300,.root sr true)]⟩,none⟩)] Tryz.func128
def cj (l0:List rR) (i4:Int) (out3:List rR):Option ((Int×List rR)⊕(List rR)) :=
 cond (decide (i4<(l0.length:Int)))
 ((at? l0 i4).bind λx15 =>
 cond x15.2.2.2.2
 ((sf out3 [x15]).bind λzs22 =>
 some (.inl (rJ (i4+1),zs22)))
 (cond (decide (x15.2.2.2.1<4))
 ((sf out3 [(x15.1,x15.2.1,x15.2.2.1,rJ (x15.2.2.2.1+1),x15.2.2.2.2)]).bind λzs33 =>
 some (.inl (rJ (i4+1),zs33)))
 (some (.inl (rJ (i4+1),out3)))))
 (some (.inr out3))
def fx (l0:List rR):Option (List rR) :=
 (loop (λz=>cj l0 z.1 z.2) (0,([]:List rR))).bind λd =>
 some d
def iB:FL:=(215,⟨[.val false (.one (.sl sr)) false],[.val false (.one (.sl sr)) (some true)],λa=>fx a⟩)::iA
theorem nl:Gd iB:=rS nk 215 Tryz.f215 [(0,⟨⟨[(3,false,[.own 1000000000]),(4,false,[dI])],[(1000000000,.root sr true)]⟩,
 ⟨[(3,false,[.own 1000000300])],[(1000000300,.root sr true)]⟩,none⟩)] Tryz.func215
def dh (b0:rI):Option rI :=
 (ap b0).bind λt5 =>
 (aV b0).bind λt7 =>
 cond (!t7)
 (some t5)
 ((bg b0.2.2.2.2.2.2.1).bind λt12 =>
 (fx b0.2.2.2.1).bind λt16 =>
 (bO (t5.1,t5.2.1,t5.2.2.1,t16,t5.2.2.2.2.1,t5.2.2.2.2.2.1,t12,t5.2.2.2.2.2.2.2.1,t5.2.2.2.2.2.2.2.2.1,t5.2.2.2.2.2.2.2.2.2.1,t5.2.2.2.2.2.2.2.2.2.2)).bind λt19 =>
 some t19)
def iC:FL:=(129,⟨[.val true s7 false],[.val true s7 (some true)],λa=>dh a⟩)::iB
theorem nn:Gd iC:=rS nl 129 Tryz.f129 [] Tryz.func129
def fy (i6:Int) (b0:List Int) (b1:Int) (b2:Int) (b0_1:Int) (b1_1:List UInt8) (b6:Int) (b7:Int) (b8:Int) (b9:Int) (b10:Int) (b11:List UInt8) (b13:Int) (b14:Int) (b2_1:List Pt) (b3:List rR) (b4:List s5) (b5:List Int) (b12:List sY):Option ((Int×List Int×Int×Int×Int×List UInt8×Int×Int×Int×Int×Int×List UInt8×Int×Int×List Pt×List rR×List s5×List Int×List sY)⊕(List Int×Int×Int×Int×List UInt8×Int×Int×Int×Int×Int×List UInt8×Int×Int×List Pt×List rR×List s5×List Int×List sY)) :=
 cond (decide (i6>0))
 ((aa (b0,b1,b2) 6).bind λt19 =>
 cond (t19.2==0)
 (cond (t19.2==0)
 ((ck t19.1 (b0_1,b1_1,b2_1,b3,b4,b5,b6,b7,b8,b9,b10)).bind λt38 =>
 (bP (b0_1,b1_1,b2_1,b3,b4,b5,b6,b7,b8,b9,b10,b11,b12,b13,b14) t38.2).bind λt39 =>
 some (.inl (rJ (i6-1),t38.1.1,t38.1.2.1,t38.1.2.2,t39.1,t39.2.1,t39.2.2.2.2.2.2.1,t39.2.2.2.2.2.2.2.1,t39.2.2.2.2.2.2.2.2.1,t39.2.2.2.2.2.2.2.2.2.1,t39.2.2.2.2.2.2.2.2.2.2.1,t39.2.2.2.2.2.2.2.2.2.2.2.1,t39.2.2.2.2.2.2.2.2.2.2.2.2.2.1,t39.2.2.2.2.2.2.2.2.2.2.2.2.2.2,t39.2.2.1,t39.2.2.2.1,t39.2.2.2.2.1,t39.2.2.2.2.2.1,t39.2.2.2.2.2.2.2.2.2.2.2.2.1)))
 (cond (t19.2==2)
 ((dh (b0_1,b1_1,b2_1,b3,b4,b5,b6,b7,b8,b9,b10)).bind λt44 =>
 some (.inl (rJ (i6-1),t19.1.1,t19.1.2.1,t19.1.2.2,t44.1,t44.2.1,t44.2.2.2.2.2.2.1,t44.2.2.2.2.2.2.2.1,t44.2.2.2.2.2.2.2.2.1,t44.2.2.2.2.2.2.2.2.2.1,t44.2.2.2.2.2.2.2.2.2.2,b11,b13,b14,t44.2.2.1,t44.2.2.2.1,t44.2.2.2.2.1,t44.2.2.2.2.2.1,b12)))
 ((aa t19.1 (rJ ((b12.length:Int)+1))).bind λt27 =>
 (bt (b0_1,b1_1,b2_1,b3,b4,b5,b6,b7,b8,b9,b10,b11,b12,b13,b14) t27.2).bind λt28 =>
 some (.inl (rJ (i6-1),t27.1.1,t27.1.2.1,t27.1.2.2,t28.1.1,t28.1.2.1,t28.1.2.2.2.2.2.2.1,t28.1.2.2.2.2.2.2.2.1,t28.1.2.2.2.2.2.2.2.2.1,t28.1.2.2.2.2.2.2.2.2.2.1,t28.1.2.2.2.2.2.2.2.2.2.2.1,t28.1.2.2.2.2.2.2.2.2.2.2.2.1,t28.1.2.2.2.2.2.2.2.2.2.2.2.2.2.1,t28.1.2.2.2.2.2.2.2.2.2.2.2.2.2.2,t28.1.2.2.1,t28.1.2.2.2.1,t28.1.2.2.2.2.1,t28.1.2.2.2.2.2.1,t28.1.2.2.2.2.2.2.2.2.2.2.2.2.1)))))
 (cond (t19.2==1)
 ((ck t19.1 (b0_1,b1_1,b2_1,b3,b4,b5,b6,b7,b8,b9,b10)).bind λt38_1 =>
 (bP (b0_1,b1_1,b2_1,b3,b4,b5,b6,b7,b8,b9,b10,b11,b12,b13,b14) t38_1.2).bind λt39_1 =>
 some (.inl (rJ (i6-1),t38_1.1.1,t38_1.1.2.1,t38_1.1.2.2,t39_1.1,t39_1.2.1,t39_1.2.2.2.2.2.2.1,t39_1.2.2.2.2.2.2.2.1,t39_1.2.2.2.2.2.2.2.2.1,t39_1.2.2.2.2.2.2.2.2.2.1,t39_1.2.2.2.2.2.2.2.2.2.2.1,t39_1.2.2.2.2.2.2.2.2.2.2.2.1,t39_1.2.2.2.2.2.2.2.2.2.2.2.2.2.1,t39_1.2.2.2.2.2.2.2.2.2.2.2.2.2.2,t39_1.2.2.1,t39_1.2.2.2.1,t39_1.2.2.2.2.1,t39_1.2.2.2.2.2.1,t39_1.2.2.2.2.2.2.2.2.2.2.2.2.1)))
 (cond (t19.2==2)
 ((dh (b0_1,b1_1,b2_1,b3,b4,b5,b6,b7,b8,b9,b10)).bind λt44_1 =>
 some (.inl (rJ (i6-1),t19.1.1,t19.1.2.1,t19.1.2.2,t44_1.1,t44_1.2.1,t44_1.2.2.2.2.2.2.1,t44_1.2.2.2.2.2.2.2.1,t44_1.2.2.2.2.2.2.2.2.1,t44_1.2.2.2.2.2.2.2.2.2.1,t44_1.2.2.2.2.2.2.2.2.2.2,b11,b13,b14,t44_1.2.2.1,t44_1.2.2.2.1,t44_1.2.2.2.2.1,t44_1.2.2.2.2.2.1,b12)))
 ((aa t19.1 (rJ ((b12.length:Int)+1))).bind λt27_1 =>
 (bt (b0_1,b1_1,b2_1,b3,b4,b5,b6,b7,b8,b9,b10,b11,b12,b13,b14) t27_1.2).bind λt28_1 =>
 some (.inl (rJ (i6-1),t27_1.1.1,t27_1.1.2.1,t27_1.1.2.2,t28_1.1.1,t28_1.1.2.1,t28_1.1.2.2.2.2.2.2.1,t28_1.1.2.2.2.2.2.2.2.1,t28_1.1.2.2.2.2.2.2.2.2.1,t28_1.1.2.2.2.2.2.2.2.2.2.1,t28_1.1.2.2.2.2.2.2.2.2.2.2.1,t28_1.1.2.2.2.2.2.2.2.2.2.2.2.1,t28_1.1.2.2.2.2.2.2.2.2.2.2.2.2.2.1,t28_1.1.2.2.2.2.2.2.2.2.2.2.2.2.2.2,t28_1.1.2.2.1,t28_1.1.2.2.2.1,t28_1.1.2.2.2.2.1,t28_1.1.2.2.2.2.2.1,t28_1.1.2.2.2.2.2.2.2.2.2.2.2.2.1))))))
 (some (.inr (b0,b1,b2,b0_1,b1_1,b6,b7,b8,b9,b10,b11,b13,b14,b2_1,b3,b4,b5,b12)))
def fA (c0:sc) (most1:Int):Option (sc×s9) :=
 (fw c0).bind λt8 =>
 (fB t8.2 [121,97,114,100]).bind λt9 =>
 (aa t8.1 (rJ (most1+1))).bind λt13 =>
 (loop (λz=>fy z.1 z.2.1 z.2.2.1 z.2.2.2.1 z.2.2.2.2.1 z.2.2.2.2.2.1 z.2.2.2.2.2.2.1 z.2.2.2.2.2.2.2.1 z.2.2.2.2.2.2.2.2.1 z.2.2.2.2.2.2.2.2.2.1 z.2.2.2.2.2.2.2.2.2.2.1 z.2.2.2.2.2.2.2.2.2.2.2.1 z.2.2.2.2.2.2.2.2.2.2.2.2.1 z.2.2.2.2.2.2.2.2.2.2.2.2.2.1 z.2.2.2.2.2.2.2.2.2.2.2.2.2.2.1 z.2.2.2.2.2.2.2.2.2.2.2.2.2.2.2.1 z.2.2.2.2.2.2.2.2.2.2.2.2.2.2.2.2.1 z.2.2.2.2.2.2.2.2.2.2.2.2.2.2.2.2.2.1 z.2.2.2.2.2.2.2.2.2.2.2.2.2.2.2.2.2.2) (t13.2,t13.1.1,t13.1.2.1,t13.1.2.2,t9.1,t9.2.1,t9.2.2.2.2.2.2.1,t9.2.2.2.2.2.2.2.1,t9.2.2.2.2.2.2.2.2.1,t9.2.2.2.2.2.2.2.2.2.1,t9.2.2.2.2.2.2.2.2.2.2.1,t9.2.2.2.2.2.2.2.2.2.2.2.1,t9.2.2.2.2.2.2.2.2.2.2.2.2.2.1,t9.2.2.2.2.2.2.2.2.2.2.2.2.2.2,t9.2.2.1,t9.2.2.2.1,t9.2.2.2.2.1,t9.2.2.2.2.2.1,t9.2.2.2.2.2.2.2.2.2.2.2.2.1)).bind λd =>
 some ((d.1,d.2.1,d.2.2.1),(d.2.2.2.1,d.2.2.2.2.1,d.2.2.2.2.2.2.2.2.2.2.2.2.2.1,d.2.2.2.2.2.2.2.2.2.2.2.2.2.2.1,d.2.2.2.2.2.2.2.2.2.2.2.2.2.2.2.1,d.2.2.2.2.2.2.2.2.2.2.2.2.2.2.2.2.1,d.2.2.2.2.2.1,d.2.2.2.2.2.2.1,d.2.2.2.2.2.2.2.1,d.2.2.2.2.2.2.2.2.1,d.2.2.2.2.2.2.2.2.2.1,d.2.2.2.2.2.2.2.2.2.2.1,d.2.2.2.2.2.2.2.2.2.2.2.2.2.2.2.2.2,d.2.2.2.2.2.2.2.2.2.2.2.1,d.2.2.2.2.2.2.2.2.2.2.2.2.1))
def iD:FL:=(56,⟨[.ptr uc none,.val false rQ false],[.val true tB (some false)],λa=>fA a.1 a.2⟩)::iC
theorem np:Gd iD:=rS nn 56 Tryz.f56 [(0,⟨⟨[(6,false,[dI])],[(1,.box [.dat (.sl (.one (.int .u8))),dI,dI]),(266240,.box [dI,dS,.own 1000000000,.own 1000000001,.own 1000000002,.own 1000000003,dI,dI,dI,dI,dI,dS,.own 1000000004,dI,dI]),(1000000000,.root uG false),(1000000001,.root sr false),(1000000002,.root tv false),(1000000003,.root rQ false),(1000000004,.root xM false)]⟩,
 ⟨[],[(1,.box [.dat (.sl (.one (.int .u8))),dI,dI]),(266240,.box [dI,dS,.own 1000000300,.own 1000000301,.own 1000000302,.own 1000000303,dI,dI,dI,dI,dI,dS,.own 1000000304,dI,dI]),(1000000300,.root uG false),(1000000301,.root sr false),(1000000302,.root tv false),(1000000303,.root rQ false),(1000000304,.root xM false)]⟩,none⟩)] Tryz.func56
def cl (code0:List Int) (most1:Int):Option Int :=
 let n5:=rJ (3+(rJ ((code0.length:Int).tdiv 12)))
 cond (decide (n5>most1)) (some most1) (some n5)
def iE:FL:=(57,⟨[.val false tb false,.val false rQ false],[.val false rQ (some true)],λa=>cl a.1 a.2⟩)::iD
theorem nq:Gd iE:=rS np 57 Tryz.f57 [] Tryz.func57
def fC (code0:List Int):Option (s9×List Int) :=
 (es code0).bind λt7 =>
 (cl code0 14).bind λt10 =>
 (fA t7 (rJ (6+t10))).bind λt12 =>
 (ck t12.1 (t12.2.1,t12.2.2.1,t12.2.2.2.1,t12.2.2.2.2.1,t12.2.2.2.2.2.1,t12.2.2.2.2.2.2.1,t12.2.2.2.2.2.2.2.1,t12.2.2.2.2.2.2.2.2.1,t12.2.2.2.2.2.2.2.2.2.1,t12.2.2.2.2.2.2.2.2.2.2.1,t12.2.2.2.2.2.2.2.2.2.2.2.1)).bind λt17 =>
 some (t12.2,t17.2)
def iF:FL:=(10,⟨[.val false tb false],[.val true tB none,.val false tb none],λa=>fC a⟩)::iE
theorem nr:Gd iF:=rS nq 10 Tryz.f10 [] Tryz.func10
def fD (code0:List Int):Option ((List UInt8)×List Int) :=
 (es code0).bind λt8 =>
 (aU t8 ([[121,97,114,100],[121,97,114,100],[111,112,101,110]]:List (List UInt8))).bind λt11 =>
 (cm t11.1).bind λt13 =>
 (bb t13.1 8).bind λt15 =>
 cond t15.2
 ((aa t15.1 3).bind λt20 =>
 (aK t20.2).bind λt21 =>
 (ak ([]:List Int) 2 t21).bind λt22 =>
 (ak t22 4 ([121,97,114,100]:List Int)).bind λt25 =>
 (dj t13.2).bind λt27 =>
 (sf t25 t27).bind λzs28 =>
 (ak ([]:List Int) 48 zs28).bind λt29 =>
 some (t11.2,t29))
 ((bQ [121,97,114,100] t13.2).bind λt33 =>
 (eu t15.1 t33).bind λt34 =>
 some (t11.2,t34.2))
def iG:FL:=(11,⟨[.val false tb false],[.val false FT (some true),.val false tb none],λa=>fD a⟩)::iF
theorem nu:Gd iG:=rS nr 11 Tryz.f11 [] Tryz.func11
def bu (b0:List Int):Option (List Int) :=
 (sf [] b0).bind λzs4 =>
 some zs4
def iH:FL:=(77,⟨[.val false tb false],[.val false tb (some true)],λa=>bu a⟩)::iG
theorem nv:Gd iH:=rS nu 77 Tryz.f77 [] Tryz.func77
def cn (p0:List Int) (i1:Int):Option (Int×(List Int)×Int×Bool) :=
 (cond (decide (i1<0)) (some true) (some (decide (i1>(rJ ((p0.length:Int)-2)))))).bind λt18 =>
 cond t18
 (some (0,[],0,false))
 ((at? p0 (rJ (i1+1))).bind λx22 =>
 cond (decide ((rJ (x22))>=128))
 ((cond ((rJ (x22)) != 129) (some true) (some (decide ((rJ (i1+2))>=(p0.length:Int))))).bind λt36 =>
 (cond t36
 (some true)
 ((at? p0 (rJ (i1+2))).bind λx40 =>
 some (decide (x40<128)))).bind λt43 =>
 cond t43
 (some (0,[],0,false))
 ((at? p0 (rJ (i1+2))).bind λx46 =>
 (cond (decide ((rJ (x46))>250))
 (some true)
 (some (decide ((rJ (x46))>(rJ ((p0.length:Int)-(rJ ((rJ (i1+2))+1)))))))).bind λt60 =>
 cond t60
 (some (0,[],0,false))
 ((at? p0 i1).bind λx63 =>
 (cut p0 (rJ ((rJ (i1+2))+1)) (rJ ((rJ ((rJ (i1+2))+1))+(rJ (x46))))).bind λt71 =>
 (bu t71).bind λt72 =>
 let t6:=rJ ((rJ ((rJ (i1+2))+1))+(rJ (x46)))
 some (rJ (x63),t72,t6,true))))
 ((cond (decide ((rJ (x22))>250))
 (some true)
 (some (decide ((rJ (x22))>(rJ ((p0.length:Int)-(rJ (i1+2)))))))).bind λt60_1 =>
 cond t60_1
 (some (0,[],0,false))
 ((at? p0 i1).bind λx63_1 =>
 (cut p0 (rJ (i1+2)) (rJ ((rJ (i1+2))+(rJ (x22))))).bind λt71_1 =>
 (bu t71_1).bind λt72_1 =>
 let t6_1:=rJ ((rJ (i1+2))+(rJ (x22)))
 some (rJ (x63_1),t72_1,t6_1,true))))
def iI:FL:=(68,⟨[.val false tb false,.val false rQ false],[.val false rQ (some true),.val false tb (some true),.val false rQ (some true),.val false sS (some true)],λa=>cn a.1 a.2⟩)::iH
theorem nx:Gd iI:=rS nv 68 Tryz.f68 [] Tryz.func68
def bv (r0:ul) (tag1:Int):Option (ul×List Int) :=
 (cn r0.1 r0.2.1).bind λt18 =>
 (cond r0.2.2 (some true) (some (!t18.2.2.2))).bind λt30 =>
 (cond t30 (some true) (some (t18.1 != tag1))).bind λt35 =>
 cond t35
 (some ((r0.1,r0.2.1,true),[]))
 (some ((r0.1,t18.2.2.1,r0.2.2),t18.2.1))
def iJ:FL:=(70,⟨[.ptr wz none,.val false rQ false],[.val false tb (some true)],λa=>bv a.1 a.2⟩)::iI
theorem ny:Gd iJ:=rS nx 70 Tryz.f70 [] Tryz.func70
def ac (n0:Int) (low1:Int) (high2:Int):Option Bool :=
 (cond (decide (n0>=low1)) (some (decide (n0<=high2))) (some false)).bind λt14 =>
 some t14
def iK:FL:=(74,⟨[.val false rQ false,.val false rQ false,.val false rQ false],[.val false sS (some true)],λa=>ac a.1 a.2.1 a.2.2⟩)::iJ
theorem nz:Gd iK:=rS ny 74 Tryz.f74 [] Tryz.func74
def aL (n0_1:Int) (k3:Int):Option (Int⊕Int) :=
 (cond (decide (k3<4))
 ((shl .i64 (-1) (rJ ((rJ (8*k3))-1))).bind λt16 =>
 (shl .i64 1 (rJ ((rJ (8*k3))-1))).bind λt20 =>
 (ac n0_1 t16 (rJ (t20-1))).bind λt22 =>
 some (!t22))
 (some false)).bind λt24 =>
 cond t24 (some (.inl (rJ (k3+1)))) (some (.inr k3))
def az (n0_1:Int) (i5:Int) (out4:List Int):Option ((Int×List Int)⊕(List Int)) :=
 cond (decide (i5>=0))
 ((shr .i64 n0_1 (rJ (8*i5))).bind λt37 =>
 (sf out4 [IntKind.u8.wrap (t37)]).bind λzs40 =>
 some (.inl (rJ (i5-1),zs40)))
 (some (.inr out4))
def dk (n0:Int):Option (List Int) :=
 let n0_1:=max2 (-2147483648) (min2 n0 2147483647)
 (loop (λz=>aL n0_1 z) 1).bind λd =>
 (loop (λz=>az n0_1 z.1 z.2) (rJ (d-1),[])).bind λd_1 =>
 some d_1
def iL:FL:=(224,⟨[.val false rQ false],[.val false tb (some true)],λa=>dk a⟩)::iK
theorem nA:Gd iL:=rS nz 224 Tryz.f224 [(0,⟨⟨(3,false,[dI])::us 12 12 [],[]⟩,
 ⟨[(3,false,[dI])],[]⟩,none⟩),
 (2,⟨⟨[(4,false,[.own 1000002000]),(5,false,[dI])],[(1000002000,.root (.one (.int .u8)) true)]⟩,
 ⟨[(4,false,[.own 1000002300])],[(1000002300,.root (.one (.int .u8)) true)]⟩,none⟩)] Tryz.func224
def dl (t17:List Int) (n4_1:Int) (t19:Int):Option ((Int×Int)⊕Int) :=
 cond (decide (t19<(t17.length:Int)))
 ((at? t17 t19).bind λx21 =>
 let n4_2:=zC .i64 (rJ (n4_1*2^8)) (rJ (x21))
 some (.inl (n4_2,rJ (t19+1))))
 (some (.inr n4_1))
def ev (b0:List Int):Option (Int×Bool) :=
 (ac (b0.length:Int) 1 4).bind λt9 =>
 cond (!t9)
 (some (0,false))
 ((at? b0 0).bind λx12 =>
 let n4:=rJ (IntKind.i8.wrap (x12))
 (cut b0 1 (b0.length:Int)).bind λt17 =>
 (loop (λz=>dl t17 z.1 z.2) (n4,0)).bind λd =>
 (dk d).bind λt30 =>
 cond ((t30.length:Int) != (b0.length:Int)) (some (0,false)) (some (d,true)))
def iM:FL:=(139,⟨[.val false tb false],[.val false rQ (some true),.val false sS (some true)],λa=>ev a⟩)::iL
theorem nB:Gd iM:=rS nA 139 Tryz.f139 [(0,⟨⟨[(4,false,[dI]),(19,false,[dI])],[]⟩,
 ⟨[(4,false,[dI])],[]⟩,none⟩)] Tryz.func139
def co (r0:ul) (tag1:Int):Option (ul×Int) :=
 (bv r0 tag1).bind λt10 =>
 (ev t10.2).bind λt11 =>
 (cond t10.1.2.2 (some true) (some (!t11.2))).bind λt22 =>
 some ((t10.1.1,t10.1.2.1,t22),t11.1)
def iN:FL:=(69,⟨[.ptr wz none,.val false rQ false],[.val false rQ (some true)],λa=>co a.1 a.2⟩)::iM
theorem nC:Gd iN:=rS nB 69 Tryz.f69 [] Tryz.func69
def gE (r0:ul):Option (ul×Bool) :=
 (cond (!r0.2.2) (some (r0.2.1==(r0.1.length:Int))) (some false)).bind λt19 =>
 some (r0,t19)
def iO:FL:=(140,⟨[.ptr wz none],[.val false sS (some true)],λa=>gE a⟩)::iN
theorem nD:Gd iO:=rS nC 140 Tryz.f140 [] Tryz.func140
def aM (o0:List Int) (t7:Int):Option (Int⊕(Unit⊕Bool)) :=
 cond (decide (t7<(o0.length:Int)))
 ((at? o0 t7).bind λx9 =>
 (ac x9 0 100000).bind λt12 =>
 cond (!t12) (some (.inr (.inr false))) (some (.inl (rJ (t7+1)))))
 (some (.inr (.inl ())))
def al (o0:List Int):Option Bool :=
 (loop (λz=>aM o0 z) 0).bind (Sum.elim (λd =>
 (ac (o0.length:Int) 1 10).bind λt17 =>
 some t17) (λr=>some r))
def iP:FL:=(311,⟨[.val false uw false],[.val false sS (some true)],λa=>al a⟩)::iO
theorem nE:Gd iP:=rS nD 311 Tryz.f311 [(0,⟨⟨[(7,false,[dI])],[]⟩,
 ⟨[],[]⟩,some ⟨[(2,false,[dB])],[]⟩⟩)] Tryz.func311
def bR (x14:Int) (k6:Int):Option (Int⊕Int) :=
 (shr .i64 x14 (rJ (7*k6))).bind λt19 =>
 cond (decide (t19>127)) (some (.inl (rJ (k6+1)))) (some (.inr k6))
def cp (x14:Int) (k6_2:Int) (out3_1:List Int):Option ((Int×List Int)⊕(List Int)) :=
 cond (decide (k6_2>0))
 ((shr .i64 x14 (rJ (7*k6_2))).bind λt31 =>
 (sf out3_1 [IntKind.u8.wrap (rJ ((vn .i64 t31 127)+128))]).bind λzs36 =>
 some (.inl (rJ (k6_2-1),zs36)))
 (some (.inr out3_1))
def dq (o0:List Int) (t12:Int) (out3:List Int):Option ((Int×List Int)⊕(List Int)) :=
 cond (decide (t12<(o0.length:Int)))
 ((at? o0 t12).bind λx14 =>
 (loop (λz=>bR x14 z) 0).bind λd =>
 (loop (λz=>cp x14 z.1 z.2) (d,out3)).bind λd_1 =>
 (sf d_1 [IntKind.u8.wrap (vn .i64 x14 127)]).bind λzs42 =>
 some (.inl (rJ (t12+1),zs42)))
 (some (.inr out3))
def cq (o0:List Int):Option (List Int) :=
 (al o0).bind λt8 =>
 cond (!t8)
 (some [])
 ((loop (λz=>dq o0 z.1 z.2) (0,[])).bind λd_2 =>
 some d_2)
def iQ:FL:=(231,⟨[.val false uw false],[.val false tb (some true)],λa=>cq a⟩)::iP
theorem nF:Gd iQ:=rS nE 231 Tryz.f231 [(0,⟨⟨[(3,false,[.own 1000000000]),(12,false,[dI])],[(1000000000,.root (.one (.int .u8)) true)]⟩,
 ⟨[(3,false,[.own 1000000300])],[(1000000300,.root (.one (.int .u8)) true)]⟩,none⟩),
 (2,⟨⟨[(6,false,[dI])],[]⟩,
 ⟨[(6,false,[dI])],[]⟩,none⟩),
 (4,⟨⟨[(3,false,[.own 1000004000]),(6,false,[dI])],[(1000004000,.root (.one (.int .u8)) true)]⟩,
 ⟨[(3,false,[.own 1000004300])],[(1000004300,.root (.one (.int .u8)) true)]⟩,none⟩)] Tryz.func231
def aw (b0:List Int) (n5:Int) (t11:Int) (out4:List Int):Option ((Int×Int×List Int)⊕((List Int)⊕(Bool×List Int))) :=
 cond (decide (t11<(b0.length:Int)))
 ((at? b0 t11).bind λx14 =>
 cond (decide (t11>=40))
 (some (.inr (.inr (false,[]))))
 (let n5_1:=zC .i64 (rJ ((min2 n5 1048576)*2^7)) (rJ (vn .u8 x14 127))
 cond (decide (x14<128))
 ((sf out4 [n5_1]).bind λzs30 =>
 some (.inl (0,rJ (t11+1),zs30)))
 (some (.inl (n5_1,rJ (t11+1),out4)))))
 (some (.inr (.inl out4)))
def bS (b0:List Int):Option ((List Int)×Bool) :=
 (loop (λz=>aw b0 z.1 z.2.1 z.2.2) (0,0,[])).bind (Sum.elim (λd =>
 (cq d).bind λt33 =>
 (cond ((t33.length:Int)==0) (some true) (some (!((tC t33)==(tC b0))))).bind λt43 =>
 cond t43 (some ([],false)) (some (d,true))) (λr=>some (r.2,r.1)))
def iR:FL:=(225,⟨[.val false tb false],[.val false uw (some true),.val false sS (some true)],λa=>bS a⟩)::iQ
theorem nG:Gd iR:=rS nF 225 Tryz.f225 [(0,⟨⟨[(4,false,[.own 1000000000]),(5,false,[dI]),(11,false,[dI])],[(1000000000,.root rQ true)]⟩,
 ⟨[(4,false,[.own 1000000300])],[(1000000300,.root rQ true)]⟩,some ⟨[(2,false,[.own 1000000600]),(3,false,[dB])],[(1000000600,.root rQ true)]⟩⟩)] Tryz.func225
def aA (n0:Int):Option Bool :=
 (ac n0 (-2147483648) 2147483647).bind λt4 =>
 some t4
def iS:FL:=(312,⟨[.val false rQ false],[.val false sS (some true)],λa=>aA a⟩)::iR
theorem nH:Gd iS:=rS nG 312 Tryz.f312 [] Tryz.func312
def dt (a0:List Int) (b1:List Int) (t13:Int):Option (Int⊕(Unit⊕Bool)) :=
 cond (decide (t13<(a0.length:Int)))
 ((at? a0 t13).bind λx18 =>
 (at? b1 t13).bind λx22 =>
 cond (x18 != x22) (some (.inr (.inr false))) (some (.inl (rJ (t13+1)))))
 (some (.inr (.inl ())))
def aE (a0:List Int) (b1:List Int):Option Bool :=
 cond ((a0.length:Int) != (b1.length:Int))
 (some false)
 ((loop (λz=>dt a0 b1 z) 0).bind (Sum.elim (λd =>
 some true) (λr=>some r)))
def iT:FL:=(357,⟨[.val false uw false,.val false uw false],[.val false sS (some true)],λa=>aE a.1 a.2⟩)::iS
theorem nI:Gd iT:=rS nH 357 Tryz.f357 [(0,⟨⟨[(13,false,[dI])],[]⟩,
 ⟨[],[]⟩,some ⟨[(4,false,[dB])],[]⟩⟩)] Tryz.func357
def bh (a0:vl) (b1:vl):Option Bool :=
 (cond (a0.1==b1.1) (some (a0.2.1==b1.2.1)) (some false)).bind λt16 =>
 (cond t16 (some (a0.2.2.1==b1.2.2.1)) (some false)).bind λt23 =>
 (cond t23
 ((aE a0.2.2.2 b1.2.2.2).bind λt29 =>
 some t29)
 (some false)).bind λt30 =>
 some t30
def iU:FL:=(355,⟨[.val true wR false,.val true wR false],[.val false sS (some true)],λa=>bh a.1 a.2⟩)::iT
theorem nJ:Gd iU:=rS nI 355 Tryz.f355 [] Tryz.func355
def ao (v0:vl):Option Bool :=
 cond (v0.1==2)
 ((aA v0.2.1).bind λt17 =>
 (cond t17
 ((bh v0 (v0.1,v0.2.1,[],[])).bind λt43 =>
 some t43)
 (some false)).bind λt44 =>
 some t44)
 (cond (v0.1==4)
 (let ok4:=decide ((v0.2.2.1.length:Int)<=20)
 (cond ok4
 ((bh v0 (v0.1,0,v0.2.2.1,[])).bind λt43_1 =>
 some t43_1)
 (some false)).bind λt44_1 =>
 some t44_1)
 (cond (v0.1==6)
 ((al v0.2.2.2).bind λt34 =>
 (cond t34
 ((bh v0 (v0.1,0,[],v0.2.2.2)).bind λt43_2 =>
 some t43_2)
 (some false)).bind λt44_2 =>
 some t44_2)
 (cond (v0.1==5)
 (cond (v0.1==5)
 (((bh v0 (v0.1,0,[],[])).bind λt43_3 =>
 some t43_3).bind λt44_3 =>
 some t44_3)
 (some false))
 (cond (v0.1==128)
 (cond (v0.1==128)
 (((bh v0 (v0.1,0,[],[])).bind λt43_4 =>
 some t43_4).bind λt44_4 =>
 some t44_4)
 (some false))
 (cond (v0.1==130)
 (((bh v0 (v0.1,0,[],[])).bind λt43_5 =>
 some t43_5).bind λt44_5 =>
 some t44_5)
 (some false))))))
def iV:FL:=(310,⟨[.val true wR false],[.val false sS (some true)],λa=>ao a⟩)::iU
theorem nK:Gd iV:=rS nJ 310 Tryz.f310 [] Tryz.func310
def fE (b0:List Int) (at1:Int):Option (vl×Int×Bool) :=
 (cn b0 at1).bind λt15 =>
 cond (!t15.2.2.2)
 (some ((0,0,[],[]),0,false))
 (cond (t15.1==2)
 ((ev t15.2.1).bind λt33 =>
 (cond (!t33.2)
 (some true)
 ((ao (t15.1,t33.1,[],[])).bind λt54 =>
 some (!t54))).bind λt56 =>
 cond t56
 (some ((0,0,[],[]),0,false))
 (some ((t15.1,t33.1,[],[]),t15.2.2.1,true)))
 (cond (t15.1==4)
 ((cond (!t15.2.2.2)
 (some true)
 ((ao (t15.1,0,tC t15.2.1,[])).bind λt54_1 =>
 some (!t54_1))).bind λt56_1 =>
 cond t56_1
 (some ((0,0,[],[]),0,false))
 (some ((t15.1,0,tC t15.2.1,[]),t15.2.2.1,true)))
 (cond (t15.1==6)
 ((bS t15.2.1).bind λt46 =>
 (cond (!t46.2)
 (some true)
 ((ao (t15.1,0,[],t46.1)).bind λt54_2 =>
 some (!t54_2))).bind λt56_2 =>
 cond t56_2
 (some ((0,0,[],[]),0,false))
 (some ((t15.1,0,[],t46.1),t15.2.2.1,true)))
 (let ok10:=(t15.2.1.length:Int)==0
 (cond (!ok10)
 (some true)
 ((ao (t15.1,0,[],[])).bind λt54_3 =>
 some (!t54_3))).bind λt56_3 =>
 cond t56_3
 (some ((0,0,[],[]),0,false))
 (some ((t15.1,0,[],[]),t15.2.2.1,true))))))
def iW:FL:=(226,⟨[.val false tb false,.val false rQ false],[.val true wR (some true),.val false rQ (some true),.val false sS (some true)],λa=>fE a.1 a.2⟩)::iV
theorem nL:Gd iW:=rS nK 226 Tryz.f226 [] Tryz.func226
def fF (b0:List Int):Option (rK×Bool) :=
 (bv (b0,0,false) 6).bind λt15 =>
 (bS t15.2).bind λt16 =>
 (fE b0 t15.1.2.1).bind λt25 =>
 (cond t15.1.2.2 (some true) (some (!t16.2))).bind λt36 =>
 (cond t36 (some true) (some (!t25.2.2))).bind λt40 =>
 (cond t40 (some true) (some (t25.2.1 != (b0.length:Int)))).bind λt46 =>
 cond t46
 (some (([],0,0,[],[]),false))
 (some ((t16.1,t25.1.1,t25.1.2.1,t25.1.2.2.1,t25.1.2.2.2),true))
def iX:FL:=(141,⟨[.val false tb false],[.val true rX (some true),.val false sS (some true)],λa=>fF a⟩)::iW
theorem nM:Gd iX:=rS nL 141 Tryz.f141 [] Tryz.func141
def fG (p0:sj) (t35:Int):Option (Int⊕(Unit⊕Bool)) :=
 cond (decide (t35<(p0.2.2.2.2.length:Int)))
 ((at? p0.2.2.2.2 t35).bind λx38 =>
 (cond (decide (t35>=10))
 (some true)
 ((al x38.1).bind λt45 =>
 some (!t45))).bind λt47 =>
 (cond t47
 (some true)
 ((ao x38.2).bind λt51 =>
 some (!t51))).bind λt53 =>
 cond t53 (some (.inr (.inr false))) (some (.inl (rJ (t35+1)))))
 (some (.inr (.inl ())))
def iY (p0:sj) (t35_1:Int):Option (Int⊕(Unit⊕Bool)) :=
 cond (decide (t35_1<(p0.2.2.2.2.length:Int)))
 ((at? p0.2.2.2.2 t35_1).bind λx38_1 =>
 (cond (decide (t35_1>=10))
 (some true)
 ((al x38_1.1).bind λt45_1 =>
 some (!t45_1))).bind λt47_1 =>
 (cond t47_1
 (some true)
 ((ao x38_1.2).bind λt51_1 =>
 some (!t51_1))).bind λt53_1 =>
 cond t53_1 (some (.inr (.inr false))) (some (.inl (rJ (t35_1+1)))))
 (some (.inr (.inl ())))
def iZ (p0:sj) (t35_2:Int):Option (Int⊕(Unit⊕Bool)) :=
 cond (decide (t35_2<(p0.2.2.2.2.length:Int)))
 ((at? p0.2.2.2.2 t35_2).bind λx38_2 =>
 (cond (decide (t35_2>=10))
 (some true)
 ((al x38_2.1).bind λt45_2 =>
 some (!t45_2))).bind λt47_2 =>
 (cond t47_2
 (some true)
 ((ao x38_2.2).bind λt51_2 =>
 some (!t51_2))).bind λt53_2 =>
 cond t53_2 (some (.inr (.inr false))) (some (.inl (rJ (t35_2+1)))))
 (some (.inr (.inl ())))
def ja (p0:sj) (t35_3:Int):Option (Int⊕(Unit⊕Bool)) :=
 cond (decide (t35_3<(p0.2.2.2.2.length:Int)))
 ((at? p0.2.2.2.2 t35_3).bind λx38_3 =>
 (cond (decide (t35_3>=10))
 (some true)
 ((al x38_3.1).bind λt45_3 =>
 some (!t45_3))).bind λt47_3 =>
 (cond t47_3
 (some true)
 ((ao x38_3.2).bind λt51_3 =>
 some (!t51_3))).bind λt53_3 =>
 cond t53_3 (some (.inr (.inr false))) (some (.inl (rJ (t35_3+1)))))
 (some (.inr (.inl ())))
def jb (p0:sj) (t35_4:Int):Option (Int⊕(Unit⊕Bool)) :=
 cond (decide (t35_4<(p0.2.2.2.2.length:Int)))
 ((at? p0.2.2.2.2 t35_4).bind λx38_4 =>
 (cond (decide (t35_4>=10))
 (some true)
 ((al x38_4.1).bind λt45_4 =>
 some (!t45_4))).bind λt47_4 =>
 (cond t47_4
 (some true)
 ((ao x38_4.2).bind λt51_4 =>
 some (!t51_4))).bind λt53_4 =>
 cond t53_4 (some (.inr (.inr false))) (some (.inl (rJ (t35_4+1)))))
 (some (.inr (.inl ())))
def jc (p0:sj) (t35_5:Int):Option (Int⊕(Unit⊕Bool)) :=
 cond (decide (t35_5<(p0.2.2.2.2.length:Int)))
 ((at? p0.2.2.2.2 t35_5).bind λx38_5 =>
 (cond (decide (t35_5>=10))
 (some true)
 ((al x38_5.1).bind λt45_5 =>
 some (!t45_5))).bind λt47_5 =>
 (cond t47_5
 (some true)
 ((ao x38_5.2).bind λt51_5 =>
 some (!t51_5))).bind λt53_5 =>
 cond t53_5 (some (.inr (.inr false))) (some (.inl (rJ (t35_5+1)))))
 (some (.inr (.inl ())))
def jd (p0:sj) (t35_6:Int):Option (Int⊕(Unit⊕Bool)) :=
 cond (decide (t35_6<(p0.2.2.2.2.length:Int)))
 ((at? p0.2.2.2.2 t35_6).bind λx38_6 =>
 (cond (decide (t35_6>=10))
 (some true)
 ((al x38_6.1).bind λt45_6 =>
 some (!t45_6))).bind λt47_6 =>
 (cond t47_6
 (some true)
 ((ao x38_6.2).bind λt51_6 =>
 some (!t51_6))).bind λt53_6 =>
 cond t53_6 (some (.inr (.inr false))) (some (.inl (rJ (t35_6+1)))))
 (some (.inr (.inl ())))
def je (p0:sj) (t35_7:Int):Option (Int⊕(Unit⊕Bool)) :=
 cond (decide (t35_7<(p0.2.2.2.2.length:Int)))
 ((at? p0.2.2.2.2 t35_7).bind λx38_7 =>
 (cond (decide (t35_7>=10))
 (some true)
 ((al x38_7.1).bind λt45_7 =>
 some (!t45_7))).bind λt47_7 =>
 (cond t47_7
 (some true)
 ((ao x38_7.2).bind λt51_7 =>
 some (!t51_7))).bind λt53_7 =>
 cond t53_7 (some (.inr (.inr false))) (some (.inl (rJ (t35_7+1)))))
 (some (.inr (.inl ())))
def jf (p0:sj) (t35_8:Int):Option (Int⊕(Unit⊕Bool)) :=
 cond (decide (t35_8<(p0.2.2.2.2.length:Int)))
 ((at? p0.2.2.2.2 t35_8).bind λx38_8 =>
 (cond (decide (t35_8>=10))
 (some true)
 ((al x38_8.1).bind λt45_8 =>
 some (!t45_8))).bind λt47_8 =>
 (cond t47_8
 (some true)
 ((ao x38_8.2).bind λt51_8 =>
 some (!t51_8))).bind λt53_8 =>
 cond t53_8 (some (.inr (.inr false))) (some (.inl (rJ (t35_8+1)))))
 (some (.inr (.inl ())))
def cr (p0:sj):Option Bool :=
 cond (p0.1==160)
 (cond (p0.1==160)
 ((cond (p0.2.2.1 != 0) (some true) (some (p0.2.2.2.1 != 0))).bind λt18 =>
 cond t18
 (some false)
 ((loop (λz=>fG p0 z) 0).bind (Sum.elim (λd =>
 (aA p0.2.1).bind λt57 =>
 some t57) (λr=>some r))))
 (cond (p0.1==162)
 (cond (p0.1==162)
 ((ac p0.2.2.1 0 1000).bind λt24 =>
 (cond (!t24)
 (some true)
 ((ac p0.2.2.2.1 0 1000).bind λt29 =>
 some (!t29))).bind λt31 =>
 cond t31
 (some false)
 ((loop (λz=>iY p0 z) 0).bind (Sum.elim (λd_1 =>
 (aA p0.2.1).bind λt57_1 =>
 some t57_1) (λr_1=>some r_1))))
 (some false))
 (cond (p0.1==165)
 ((ac p0.2.2.1 0 1000).bind λt24_1 =>
 (cond (!t24_1)
 (some true)
 ((ac p0.2.2.2.1 0 1000).bind λt29_1 =>
 some (!t29_1))).bind λt31_1 =>
 cond t31_1
 (some false)
 ((loop (λz=>iZ p0 z) 0).bind (Sum.elim (λd_2 =>
 (aA p0.2.1).bind λt57_2 =>
 some t57_2) (λr_2=>some r_2))))
 (some false))))
 (cond (p0.1==161)
 (cond (p0.1==161)
 ((cond (p0.2.2.1 != 0) (some true) (some (p0.2.2.2.1 != 0))).bind λt18_1 =>
 cond t18_1
 (some false)
 ((loop (λz=>ja p0 z) 0).bind (Sum.elim (λd_3 =>
 (aA p0.2.1).bind λt57_3 =>
 some t57_3) (λr_3=>some r_3))))
 (cond (p0.1==162)
 (cond (p0.1==162)
 ((ac p0.2.2.1 0 1000).bind λt24_2 =>
 (cond (!t24_2)
 (some true)
 ((ac p0.2.2.2.1 0 1000).bind λt29_2 =>
 some (!t29_2))).bind λt31_2 =>
 cond t31_2
 (some false)
 ((loop (λz=>jb p0 z) 0).bind (Sum.elim (λd_4 =>
 (aA p0.2.1).bind λt57_4 =>
 some t57_4) (λr_4=>some r_4))))
 (some false))
 (cond (p0.1==165)
 ((ac p0.2.2.1 0 1000).bind λt24_3 =>
 (cond (!t24_3)
 (some true)
 ((ac p0.2.2.2.1 0 1000).bind λt29_3 =>
 some (!t29_3))).bind λt31_3 =>
 cond t31_3
 (some false)
 ((loop (λz=>jc p0 z) 0).bind (Sum.elim (λd_5 =>
 (aA p0.2.1).bind λt57_5 =>
 some t57_5) (λr_5=>some r_5))))
 (some false))))
 (cond (p0.1==163)
 ((cond (p0.2.2.1 != 0) (some true) (some (p0.2.2.2.1 != 0))).bind λt18_2 =>
 cond t18_2
 (some false)
 ((loop (λz=>jd p0 z) 0).bind (Sum.elim (λd_6 =>
 (aA p0.2.1).bind λt57_6 =>
 some t57_6) (λr_6=>some r_6))))
 (cond (p0.1==162)
 (cond (p0.1==162)
 ((ac p0.2.2.1 0 1000).bind λt24_4 =>
 (cond (!t24_4)
 (some true)
 ((ac p0.2.2.2.1 0 1000).bind λt29_4 =>
 some (!t29_4))).bind λt31_4 =>
 cond t31_4
 (some false)
 ((loop (λz=>je p0 z) 0).bind (Sum.elim (λd_7 =>
 (aA p0.2.1).bind λt57_7 =>
 some t57_7) (λr_7=>some r_7))))
 (some false))
 (cond (p0.1==165)
 ((ac p0.2.2.1 0 1000).bind λt24_5 =>
 (cond (!t24_5)
 (some true)
 ((ac p0.2.2.2.1 0 1000).bind λt29_5 =>
 some (!t29_5))).bind λt31_5 =>
 cond t31_5
 (some false)
 ((loop (λz=>jf p0 z) 0).bind (Sum.elim (λd_8 =>
 (aA p0.2.1).bind λt57_8 =>
 some t57_8) (λr_8=>some r_8))))
 (some false)))))
def jg:FL:=(227,⟨[.val true ud false],[.val false sS (some true)],λa=>cr a⟩)::iX
theorem nN:Gd jg:=rS nM 227 Tryz.f227 [(1,⟨⟨(35,false,[dI])::us 43 4 (us 49 4 []),[]⟩,
 ⟨[],[]⟩,some ⟨[(2,false,[dB])],[]⟩⟩)] Tryz.func227
def ct (tag0:Int) (body1:List Int):Option ((List Int)×Bool) :=
 (ac tag0 0 255).bind λt8 =>
 (cond (!t8) (some true) (some (decide ((body1.length:Int)>250)))).bind λt14 =>
 cond t14
 (some ([],false))
 (cond (decide ((body1.length:Int)>=128))
 ((sf [IntKind.u8.wrap (tag0)] ([129]:List Int)).bind λzs23 =>
 (sf zs23 [IntKind.u8.wrap ((body1.length:Int))]).bind λzs29 =>
 (sf zs29 body1).bind λzs31 =>
 some (zs31,true))
 ((sf [IntKind.u8.wrap (tag0)] [IntKind.u8.wrap ((body1.length:Int))]).bind λzs29_1 =>
 (sf zs29_1 body1).bind λzs31_1 =>
 some (zs31_1,true)))
def jh:FL:=(228,⟨[.val false rQ false,.val false tb false],[.val false tb (some true),.val false sS (some true)],λa=>ct a.1 a.2⟩)::jg
theorem nO:Gd jh:=rS nN 228 Tryz.f228 [] Tryz.func228
def bj (b0:List Int) (tag1:Int) (body2:List Int):Option (List Int) :=
 (ct tag1 body2).bind λt12 =>
 (bu b0).bind λt16 =>
 (sf t16 t12.1).bind λzs18 =>
 some zs18
def ji:FL:=(230,⟨[.val false tb false,.val false rQ false,.val false tb false],[.val false tb (some true)],λa=>bj a.1 a.2.1 a.2.2⟩)::jh
theorem nP:Gd ji:=rS nO 230 Tryz.f230 [] Tryz.func230
def fH (b0:List Int) (v1:vl):Option (List Int) :=
 (ao v1).bind λt7 =>
 cond (!t7)
 ((bu b0).bind λt10 =>
 some t10)
 (cond (v1.1==2)
 ((dk v1.2.1).bind λt17 =>
 (bj b0 v1.1 t17).bind λt32 =>
 some t32)
 (cond (v1.1==4)
 ((bj b0 v1.1 (uF v1.2.2.1)).bind λt32_1 =>
 some t32_1)
 (cond (v1.1==6)
 ((cq v1.2.2.2).bind λt27 =>
 (bj b0 v1.1 t27).bind λt32_2 =>
 some t32_2)
 ((bj b0 v1.1 []).bind λt32_3 =>
 some t32_3))))
def jj:FL:=(229,⟨[.val false tb false,.val true wR false],[.val false tb (some true)],λa=>fH a.1 a.2⟩)::ji
theorem nQ:Gd jj:=rS nP 229 Tryz.f229 [] Tryz.func229
def du (out0:List Int) (tag1:Int) (n2:Int):Option (List Int) :=
 (dk n2).bind λt10 =>
 (bj out0 tag1 t10).bind λt11 =>
 some t11
def jk:FL:=(232,⟨[.val false tb false,.val false rQ false,.val false rQ false],[.val false tb (some true)],λa=>du a.1 a.2.1 a.2.2⟩)::jj
theorem nR:Gd jk:=rS nQ 232 Tryz.f232 [] Tryz.func232
def dv (p0:sj) (t18:Int) (t3:List Int):Option ((Int×List Int)⊕((List Int)⊕(List Int))) :=
 cond (decide (t18<(p0.2.2.2.2.length:Int)))
 ((at? p0.2.2.2.2 t18).bind λx20 =>
 (cq x20.1).bind λt25 =>
 (bj [] 6 t25).bind λt26 =>
 (fH t26 x20.2).bind λt29 =>
 (ct 48 t29).bind λt30 =>
 cond (!t30.2)
 (some (.inr (.inr [])))
 ((sf t3 t30.1).bind λzs37 =>
 some (.inl (rJ (t18+1),zs37))))
 (some (.inr (.inl t3)))
def ez (p0:sj):Option (List Int) :=
 (cr p0).bind λt13 =>
 cond (!t13)
 (some [])
 ((loop (λz=>dv p0 z.1 z.2) (0,[])).bind (Sum.elim (λd =>
 (ct 48 d).bind λt41 =>
 cond (!t41.2)
 (some [])
 ((du [] 2 p0.2.1).bind λt51 =>
 (du t51 2 p0.2.2.1).bind λt54 =>
 (du t54 2 p0.2.2.2.1).bind λt57 =>
 (sf t57 t41.1).bind λzs59 =>
 (ct p0.1 zs59).bind λt60 =>
 cond (!t60.2) (some []) (some t60.1))) (λr=>some r)))
def jl:FL:=(142,⟨[.val true ud false],[.val false tb (some true)],λa=>ez a⟩)::jk
theorem nS:Gd jl:=rS nR 142 Tryz.f142 [(0,⟨⟨[(3,false,[.own 1000000000]),(18,false,[dI])],[(1000000000,.root (.one (.int .u8)) true)]⟩,
 ⟨[(3,false,[.own 1000000300])],[(1000000300,.root (.one (.int .u8)) true)]⟩,some ⟨[(2,false,[.own 1000000600])],[(1000000600,.root (.one (.int .u8)) true)]⟩⟩)] Tryz.func142
def aC (b0:Int) (b1:Int) (b2:Int) (b3:Int) (b0_1:Int) (b1_1:Int) (b2_1:Int) (b3_1:Int) (b0_2:List Int) (b1_2:Int) (b2_2:Bool) (b4:List rK) (b4_1:List rK):Option ((Int×Int×Int×Int×Int×Int×Int×Int×List Int×Int×Bool×List rK×List rK)⊕((Int×Int×Int×Int×Int×Int×Int×Int×List Int×Int×Bool×List rK×List rK)⊕(Bool×Int×Int×Int×Int×List rK))) :=
 cond (decide (b1_2<(b0_2.length:Int)))
 ((bv (b0_2,b1_2,b2_2) 48).bind λt64 =>
 (fF t64.2).bind λt65 =>
 (cond (!t65.2) (some true) (some (decide ((b4_1.length:Int)>=10)))).bind λt75 =>
 cond t75
 (some (.inr (.inr (false,0,0,0,0,[]))))
 ((sf b4_1 [t65.1]).bind λzs81 =>
 some (.inl (b0,b1,b2,b3,b0_1,b1_1,b2_1,b3_1,t64.1.1,t64.1.2.1,t64.1.2.2,b4,zs81))))
 (some (.inr (.inl (b0,b1,b2,b3,b0_1,b1_1,b2_1,b3_1,b0_2,b1_2,b2_2,b4,b4_1))))
def fJ (p0:List Int):Option (sj×Bool) :=
 (cn p0 0).bind λt16 =>
 (cond (!t16.2.2.2) (some true) (some (t16.2.2.1 != (p0.length:Int)))).bind λt28 =>
 cond t28
 (some ((0,0,0,0,[]),false))
 ((co (t16.2.1,0,false) 2).bind λt36 =>
 (co t36.1 2).bind λt39 =>
 (co t39.1 2).bind λt42 =>
 (bv t42.1 48).bind λt45 =>
 (gE t45.1).bind λt49 =>
 cond (!t49.2)
 (some ((0,0,0,0,[]),false))
 ((loop (λz=>aC z.1 z.2.1 z.2.2.1 z.2.2.2.1 z.2.2.2.2.1 z.2.2.2.2.2.1 z.2.2.2.2.2.2.1 z.2.2.2.2.2.2.2.1 z.2.2.2.2.2.2.2.2.1 z.2.2.2.2.2.2.2.2.2.1 z.2.2.2.2.2.2.2.2.2.2.1 z.2.2.2.2.2.2.2.2.2.2.2.1 z.2.2.2.2.2.2.2.2.2.2.2.2) (0,0,0,0,t16.1,t36.2,t39.2,t42.2,t45.2,0,false,[],[])).bind (Sum.elim (λd =>
 (ez (d.2.2.2.2.1,d.2.2.2.2.2.1,d.2.2.2.2.2.2.1,d.2.2.2.2.2.2.2.1,d.2.2.2.2.2.2.2.2.2.2.2.2)).bind λt84 =>
 (cond ((t84.length:Int)==0) (some true) (some (!((tC t84)==(tC p0))))).bind λt94 =>
 cond t94
 (some ((0,0,0,0,[]),false))
 (some ((d.2.2.2.2.1,d.2.2.2.2.2.1,d.2.2.2.2.2.2.1,d.2.2.2.2.2.2.2.1,d.2.2.2.2.2.2.2.2.2.2.2.2),true))) (λr=>some (r.2,r.1)))))
def jm:FL:=(71,⟨[.val false tb false],[.val true ud (some true),.val false sS (some true)],λa=>fJ a⟩)::jl
theorem nT:Gd jm:=rS nS 71 Tryz.f71 [(0,⟨⟨us 71 4 [],[(1024,.box [dI,dI,dI,dI,.own 1000000000]),(1051648,.box [dI,dI,dI,dI,.own 1000000001]),(2363392,.box [.dat (.sl (.one (.int .u8))),dI,dB]),(1000000000,.root rX true),(1000000001,.root rX true)]⟩,
 ⟨[],[(1024,.box [dI,dI,dI,dI,.own 1000000300]),(1051648,.box [dI,dI,dI,dI,.own 1000000301]),(2363392,.box [.dat (.sl (.one (.int .u8))),dI,dB]),(1000000300,.root rX true),(1000000301,.root rX true)]⟩,some ⟨[(3,false,[dB])],[(1024,.box [dI,dI,dI,dI,.own 1000000600]),(1000000600,.root rX true)]⟩⟩)] Tryz.func71
def cu (p0:List UInt8) (i1:List Int):Option (sj×Int) :=
 (cn i1 0).bind λt17 =>
 (cond (!t17.2.2.2) (some true) (some (t17.1 != 48))).bind λt27 =>
 (cond t27 (some true) (some (t17.2.2.1 != (i1.length:Int)))).bind λt33 =>
 cond t33
 (some ((0,0,0,0,[]),1))
 ((co (t17.2.1,0,false) 2).bind λt39 =>
 (bv t39.1 4).bind λt41 =>
 cond t41.1.2.2
 (some ((0,0,0,0,[]),1))
 (cond (t39.2 != 1)
 (some ((0,0,0,0,[]),2))
 (cond (!((tC t41.2)==p0))
 (some ((0,0,0,0,[]),3))
 ((cut t17.2.1 t41.1.2.1 (t17.2.1.length:Int)).bind λt64 =>
 (fJ t64).bind λt65 =>
 cond (!t65.2) (some ((0,0,0,0,[]),1)) (some (t65.1,0))))))
def jn:FL:=(12,⟨[.val false FT false,.val false tb false],[.val true ud (some true),.val false rQ (some true)],λa=>cu a.1 a.2⟩)::jm
theorem nU:Gd jn:=rS nT 12 Tryz.f12 [] Tryz.func12
def fK (l0:List rR):Option (List rR) :=
 (sf [] l0).bind λzs4 =>
 some zs4
def jo:FL:=(233,⟨[.val false (.one (.sl sr)) false],[.val false (.one (.sl sr)) (some true)],λa=>fK a⟩)::jn
theorem nV:Gd jo:=rS nU 233 Tryz.f233 [] Tryz.func233
def aX (l0:List Int):Option (List Int) :=
 (sf [] l0).bind λzs4 =>
 some zs4
def jp:FL:=(313,⟨[.val false uw false],[.val false uw (some true)],λa=>aX a⟩)::jo
theorem nW:Gd jp:=rS nV 313 Tryz.f313 [] Tryz.func313
def dw (v0:sR):Option sR :=
 (sf [] v0.1).bind λzs5 =>
 (aX v0.2).bind λt8 =>
 some (zs5,t8)
def jq:FL:=(234,⟨[.val true uq false],[.val true uq (some true)],λa=>dw a⟩)::jp
theorem nX:Gd jq:=rS nW 234 Tryz.f234 [] Tryz.func234
def ar (b0:rI):Option rI :=
 (sf [] b0.2.2.1).bind λzs5 =>
 (fK b0.2.2.2.1).bind λt9 =>
 (dw (b0.2.2.2.2.1,b0.2.2.2.2.2.1)).bind λt12 =>
 some (b0.1,b0.2.1,zs5,t9,t12.1,t12.2,b0.2.2.2.2.2.2.1,b0.2.2.2.2.2.2.2.1,b0.2.2.2.2.2.2.2.2.1,b0.2.2.2.2.2.2.2.2.2.1,b0.2.2.2.2.2.2.2.2.2.2)
def jr:FL:=(143,⟨[.val true s7 false],[.val true s7 (some true)],λa=>ar a⟩)::jq
theorem nY:Gd jr:=rS nX 143 Tryz.f143 [] Tryz.func143
def fL (v0:vl):Option vl :=
 (aX v0.2.2.2).bind λt5 =>
 some (v0.1,v0.2.1,v0.2.2.1,t5)
def js:FL:=(314,⟨[.val true wR false],[.val true wR (some true)],λa=>fL a⟩)::jr
theorem nZ:Gd js:=rS nY 314 Tryz.f314 [] Tryz.func314
def dx (l0:List rK) (t8:Int) (out3:List rK):Option ((Int×List rK)⊕(List rK)) :=
 cond (decide (t8<(l0.length:Int)))
 ((at? l0 t8).bind λx10 =>
 (aX x10.1).bind λt15 =>
 (fL x10.2).bind λt18 =>
 (sf out3 [(t15,t18.1,t18.2.1,t18.2.2.1,t18.2.2.2)]).bind λzs21 =>
 some (.inl (rJ (t8+1),zs21)))
 (some (.inr out3))
def dy (l0:List rK):Option (List rK) :=
 (loop (λz=>dx l0 z.1 z.2) (0,[])).bind λd =>
 some d
def jt:FL:=(235,⟨[.val false (.one (.sl rX)) false],[.val false (.one (.sl rX)) (some true)],λa=>dy a⟩)::js
theorem o4:Gd jt:=rS nZ 235 Tryz.f235 [(0,⟨⟨[(3,false,[.own 1000000000]),(8,false,[dI])],[(1000000000,.root rX true)]⟩,
 ⟨[(3,false,[.own 1000000300])],[(1000000300,.root rX true)]⟩,none⟩)] Tryz.func235
def eA (p0:sj):Option sj :=
 (dy p0.2.2.2.2).bind λt5 =>
 some (p0.1,p0.2.1,p0.2.2.1,p0.2.2.2.1,t5)
def ju:FL:=(144,⟨[.val true ud false],[.val true ud (some true)],λa=>eA a⟩)::jt
theorem o5:Gd ju:=rS o4 144 Tryz.f144 [] Tryz.func144
def dz (a0:s9) (t13:Int) (jobs3:List sY):Option ((Int×List sY)⊕(List sY)) :=
 cond (decide (t13<(a0.2.2.2.2.2.2.2.2.2.2.2.2.1.length:Int)))
 ((at? a0.2.2.2.2.2.2.2.2.2.2.2.2.1 t13).bind λx15 =>
 (bu x15.2.1).bind λt19 =>
 (eA (x15.2.2.2.1,x15.2.2.2.2.1,x15.2.2.2.2.2.1,x15.2.2.2.2.2.2.1,x15.2.2.2.2.2.2.2.1)).bind λt22 =>
 (ar (x15.2.2.2.2.2.2.2.2.1,x15.2.2.2.2.2.2.2.2.2.1,x15.2.2.2.2.2.2.2.2.2.2.1,x15.2.2.2.2.2.2.2.2.2.2.2.1,x15.2.2.2.2.2.2.2.2.2.2.2.2.1,x15.2.2.2.2.2.2.2.2.2.2.2.2.2.1,x15.2.2.2.2.2.2.2.2.2.2.2.2.2.2.1,x15.2.2.2.2.2.2.2.2.2.2.2.2.2.2.2.1,x15.2.2.2.2.2.2.2.2.2.2.2.2.2.2.2.2.1,x15.2.2.2.2.2.2.2.2.2.2.2.2.2.2.2.2.2.1,x15.2.2.2.2.2.2.2.2.2.2.2.2.2.2.2.2.2.2.1)).bind λt25 =>
 (sf jobs3 [(x15.1,t19,x15.2.2.1,t22.1,t22.2.1,t22.2.2.1,t22.2.2.2.1,t22.2.2.2.2,t25.1,t25.2.1,t25.2.2.1,t25.2.2.2.1,t25.2.2.2.2.1,t25.2.2.2.2.2.1,t25.2.2.2.2.2.2.1,t25.2.2.2.2.2.2.2.1,t25.2.2.2.2.2.2.2.2.1,t25.2.2.2.2.2.2.2.2.2.1,t25.2.2.2.2.2.2.2.2.2.2,x15.2.2.2.2.2.2.2.2.2.2.2.2.2.2.2.2.2.2.2.1,x15.2.2.2.2.2.2.2.2.2.2.2.2.2.2.2.2.2.2.2.2)]).bind λzs32 =>
 some (.inl (rJ (t13+1),zs32)))
 (some (.inr jobs3))
def eB (a0:s9):Option s9 :=
 (ar (a0.1,a0.2.1,a0.2.2.1,a0.2.2.2.1,a0.2.2.2.2.1,a0.2.2.2.2.2.1,a0.2.2.2.2.2.2.1,a0.2.2.2.2.2.2.2.1,a0.2.2.2.2.2.2.2.2.1,a0.2.2.2.2.2.2.2.2.2.1,a0.2.2.2.2.2.2.2.2.2.2.1)).bind λt8 =>
 (loop (λz=>dz a0 z.1 z.2) (0,[])).bind λd =>
 some (t8.1,t8.2.1,t8.2.2.1,t8.2.2.2.1,t8.2.2.2.2.1,t8.2.2.2.2.2.1,t8.2.2.2.2.2.2.1,t8.2.2.2.2.2.2.2.1,t8.2.2.2.2.2.2.2.2.1,t8.2.2.2.2.2.2.2.2.2.1,t8.2.2.2.2.2.2.2.2.2.2,a0.2.2.2.2.2.2.2.2.2.2.2.1,d,a0.2.2.2.2.2.2.2.2.2.2.2.2.2.1,a0.2.2.2.2.2.2.2.2.2.2.2.2.2.2)
def jv:FL:=(72,⟨[.val true tB false],[.val true tB (some true)],λa=>eB a⟩)::ju
theorem o6:Gd jv:=rS o5 72 Tryz.f72 [(0,⟨⟨[(3,false,[.own 1000000000]),(13,false,[dI])],[(1000000000,.root xM true)]⟩,
 ⟨[(3,false,[.own 1000000300])],[(1000000300,.root xM true)]⟩,none⟩)] Tryz.func72
def bm (n0:Int):Option Bool :=
 (ac n0 0 1000000).bind λt4 =>
 some t4
def jw:FL:=(146,⟨[.val false rQ false],[.val false sS (some true)],λa=>bm a⟩)::jv
theorem o7:Gd jw:=rS o6 146 Tryz.f146 [] Tryz.func146
def cw (v0:zb):Option Bool :=
 (ac v0.1 1 99).bind λt5 =>
 (cond t5
 ((ac v0.2.1 0 100000).bind λt9 =>
 some t9)
 (some false)).bind λt10 =>
 (cond t10
 ((ac v0.2.2.1 0 10).bind λt14 =>
 some t14)
 (some false)).bind λt15 =>
 (cond t15
 ((ac v0.2.2.2.1 1 99).bind λt19 =>
 some t19)
 (some false)).bind λt20 =>
 (cond t20
 ((ac v0.2.2.2.2 0 7).bind λt24 =>
 some t24)
 (some false)).bind λt25 =>
 some t25
def jx:FL:=(249,⟨[.val true xr false],[.val false sS (some true)],λa=>cw a⟩)::jw
theorem o8:Gd jx:=rS o7 249 Tryz.f249 [] Tryz.func249
def eC (p0:Pt):Option Bool :=
 (ac p0.2.1 1 1000).bind λt5 =>
 (cond (!t5)
 (some true)
 ((cond p0.2.2.1 (some (!p0.1)) (some false)).bind λt14 =>
 some t14)).bind λt15 =>
 cond t15
 (some false)
 (cond p0.2.2.1
 ((cw p0.2.2.2).bind λt20 =>
 some t20)
 (let t2:=p0.2.2.2.1==0&&(p0.2.2.2.2.1==0&&(p0.2.2.2.2.2.1==0&&(p0.2.2.2.2.2.2.1==0&&(p0.2.2.2.2.2.2.2==0))))
 some t2))
def jy:FL:=(236,⟨[.val true uG false],[.val false sS (some true)],λa=>eC a⟩)::jx
theorem o9:Gd jy:=rS o8 236 Tryz.f236 [] Tryz.func236
def dA (e0:rR):Option Bool :=
 (ac e0.1 1 99).bind λt5 =>
 (cond t5
 ((ac e0.2.1 1 9999).bind λt9 =>
 some t9)
 (some false)).bind λt10 =>
 (cond t10
 ((ac e0.2.2.1 0 7).bind λt14 =>
 some t14)
 (some false)).bind λt15 =>
 (cond t15
 ((ac e0.2.2.2.1 0 4).bind λt19 =>
 some t19)
 (some false)).bind λt20 =>
 (cond t20
 ((cond (!e0.2.2.2.2) (some true) (some (e0.2.2.2.1==0))).bind λt29 =>
 some t29)
 (some false)).bind λt30 =>
 some t30
def jz:FL:=(315,⟨[.val true sr false],[.val false sS (some true)],λa=>dA a⟩)::jy
theorem oa:Gd jz:=rS o9 315 Tryz.f315 [] Tryz.func315
def eD (e0:rR) (tag1:Int) (mac2:Int):Option Bool :=
 (cond (decide (e0.1>tag1))
 (some true)
 ((cond (e0.1==tag1) (some (decide (e0.2.1>mac2))) (some false)).bind λt21 =>
 some t21)).bind λt22 =>
 some t22
def jA:FL:=(316,⟨[.val true sr false,.val false rQ false,.val false rQ false],[.val false sS (some true)],λa=>eD a.1 a.2.1 a.2.2⟩)::jz
theorem ob:Gd jA:=rS oa 316 Tryz.f316 [] Tryz.func316
def gF (l0:List rR) (t7:Int):Option (Int⊕(Unit⊕Bool)) :=
 cond (decide (t7<(l0.length:Int)))
 ((at? l0 t7).bind λx10 =>
 (dA x10).bind λt13 =>
 (cond (!t13)
 (some true)
 ((cond (decide (t7>0))
 ((at? l0 (rJ (t7-1))).bind λx23 =>
 (at? l0 (rJ (t7-1))).bind λx29 =>
 (eD x10 x23.1 x29.2.1).bind λt32 =>
 some (!t32))
 (some false)).bind λt34 =>
 some t34)).bind λt35 =>
 cond t35 (some (.inr (.inr false))) (some (.inl (rJ (t7+1)))))
 (some (.inr (.inl ())))
def fM (l0:List rR):Option Bool :=
 (loop (λz=>gF l0 z) 0).bind (Sum.elim (λd =>
 let t2:=decide ((l0.length:Int)<=12)
 some t2) (λr=>some r))
def jC:FL:=(237,⟨[.val false (.one (.sl sr)) false],[.val false sS (some true)],λa=>fM a⟩)::jA
theorem oc:Gd jC:=rS ob 237 Tryz.f237 [(0,⟨⟨(7,false,[dI])::us 16 19 [],[]⟩,
 ⟨[],[]⟩,some ⟨[(2,false,[dB])],[]⟩⟩)] Tryz.func237
def eE (ports0:Int):Option Int :=
 (shl .i64 1 ports0).bind λt4 =>
 some (rJ (t4-1))
def jD:FL:=(317,⟨[.val false rQ false],[.val false rQ (some true)],λa=>eE a⟩)::jC
theorem od:Gd jD:=rS oc 317 Tryz.f317 [] Tryz.func317
def aF (v0:sR) (id1:Int) (t10:Int):Option (Int⊕(Unit⊕Int)) :=
 cond (decide (t10<(v0.1.length:Int)))
 ((at? v0.1 t10).bind λx13 =>
 cond (x13.1==id1) (some (.inr (.inr t10))) (some (.inl (rJ (t10+1)))))
 (some (.inr (.inl ())))
def aq (v0:sR) (id1:Int):Option Int :=
 (loop (λz=>aF v0 id1 z) 0).bind (Sum.elim (λd =>
 some (-1)) (λr=>some r))
def jE:FL:=(318,⟨[.val true uq false,.val false rQ false],[.val false rQ (some true)],λa=>aq a.1 a.2⟩)::jD
theorem oe:Gd jE:=rS od 318 Tryz.f318 [(0,⟨⟨[(10,false,[dI])],[]⟩,
 ⟨[],[]⟩,some ⟨[(4,false,[dI])],[]⟩⟩)] Tryz.func318
def gG (p0:sR) (i1:Int) (t28:Int):Option (Int⊕(Unit⊕Bool)) :=
 cond (decide (t28<(p0.1.length:Int)))
 ((at? p0.1 t28).bind λx31 =>
 (ac x31.1 1 99).bind λt35 =>
 (cond (!t35)
 (some true)
 ((cond (decide (t28>0))
 ((at? p0.1 (rJ (t28-1))).bind λx45 =>
 some (decide (x45.1>=x31.1)))
 (some false)).bind λt51 =>
 some t51)).bind λt52 =>
 (cond t52
 (some true)
 ((eE i1).bind λt57 =>
 (ac x31.2.1 0 t57).bind λt58 =>
 some (!t58))).bind λt60 =>
 (cond t60 (some true) (some ((B1 .i64 x31.2.2 x31.2.1) != 0))).bind λt68 =>
 cond t68 (some (.inr (.inr false))) (some (.inl (rJ (t28+1)))))
 (some (.inr (.inl ())))
def fN (p0:sR) (t73:Int):Option (Int⊕(Unit⊕Bool)) :=
 cond (decide (t73<(p0.2.length:Int)))
 ((at? p0.2 t73).bind λx75 =>
 (aq p0 x75).bind λt79 =>
 cond (decide (t79<0)) (some (.inr (.inr false))) (some (.inl (rJ (t73+1)))))
 (some (.inr (.inl ())))
def dC (p0:sR) (i1:Int):Option Bool :=
 (ac i1 1 6).bind λt10 =>
 (cond (!t10) (some true) (some ((p0.2.length:Int) != i1))).bind λt18 =>
 (cond t18 (some true) (some (decide ((p0.1.length:Int)>6)))).bind λt24 =>
 cond t24
 (some false)
 ((loop (λz=>gG p0 i1 z) 0).bind (Sum.elim (λd =>
 (loop (λz=>fN p0 z) 0).bind (Sum.elim (λd_1 =>
 some true) (λr=>some r))) (λr_1=>some r_1)))
def jF:FL:=(238,⟨[.val true uq false,.val false rQ false],[.val false sS (some true)],λa=>dC a.1 a.2⟩)::jE
theorem og:Gd jF:=rS oe 238 Tryz.f238 [(0,⟨⟨(28,false,[dI])::us 38 14 (us 54 6 (us 62 6 [])),[]⟩,
 ⟨[],[]⟩,some ⟨[(4,false,[dB])],[]⟩⟩),
 (2,⟨⟨[(73,false,[dI])],[]⟩,
 ⟨[],[]⟩,some ⟨[(4,false,[dB])],[]⟩⟩)] Tryz.func238
def gH (p0:rI) (t8:Int):Option (Int⊕(Unit⊕Bool)) :=
 cond (decide (t8<(p0.2.2.1.length:Int)))
 ((at? p0.2.2.1 t8).bind λx10 =>
 (eC x10).bind λt13 =>
 cond (!t13) (some (.inr (.inr false))) (some (.inl (rJ (t8+1)))))
 (some (.inr (.inl ())))
def bx (p0:rI):Option Bool :=
 (loop (λz=>gH p0 z) 0).bind (Sum.elim (λd =>
 (ac p0.1 1 99).bind λt18 =>
 (cond (!t18) (some true) (some (decide ((p0.2.1.length:Int)>10)))).bind λt25 =>
 (cond t25
 (some true)
 ((ac (p0.2.2.1.length:Int) 1 6).bind λt30 =>
 some (!t30))).bind λt32 =>
 (cond t32
 (some true)
 ((fM p0.2.2.2.1).bind λt36 =>
 some (!t36))).bind λt38 =>
 (cond t38
 (some true)
 ((dC (p0.2.2.2.2.1,p0.2.2.2.2.2.1) (p0.2.2.1.length:Int)).bind λt45 =>
 some (!t45))).bind λt47 =>
 cond t47
 (some false)
 ((bm p0.2.2.2.2.2.2.1).bind λt50 =>
 (cond t50
 ((bm p0.2.2.2.2.2.2.2.1).bind λt54 =>
 some t54)
 (some false)).bind λt55 =>
 (cond t55
 ((bm p0.2.2.2.2.2.2.2.2.1).bind λt59 =>
 some t59)
 (some false)).bind λt60 =>
 (cond t60
 ((bm p0.2.2.2.2.2.2.2.2.2.1).bind λt64 =>
 some t64)
 (some false)).bind λt65 =>
 (cond t65
 ((bm p0.2.2.2.2.2.2.2.2.2.2).bind λt69 =>
 some t69)
 (some false)).bind λt70 =>
 some t70)) (λr=>some r))
def jG:FL:=(145,⟨[.val true s7 false],[.val false sS (some true)],λa=>bx a⟩)::jF
theorem oh:Gd jG:=rS og 145 Tryz.f145 [(0,⟨⟨[(8,false,[dI])],[]⟩,
 ⟨[],[]⟩,some ⟨[(2,false,[dB])],[]⟩⟩)] Tryz.func145
def eF (j0:sY):Option Bool :=
 (ac j0.2.2.1 0 2).bind λt5 =>
 (cond (!t5)
 (some true)
 ((ac j0.2.2.2.2.2.2.2.2.2.2.2.2.2.2.2.2.2.2.2.1 0 (j0.2.2.2.2.2.2.2.1.length:Int)).bind λt14 =>
 some (!t14))).bind λt16 =>
 (cond t16
 (some true)
 ((ac j0.2.2.2.2.2.2.2.2.2.2.2.2.2.2.2.2.2.2.2.2 0 3).bind λt20 =>
 some (!t20))).bind λt22 =>
 cond t22
 (some false)
 ((cond (j0.2.2.1==0)
 (some true)
 ((cr (j0.2.2.2.1,j0.2.2.2.2.1,j0.2.2.2.2.2.1,j0.2.2.2.2.2.2.1,j0.2.2.2.2.2.2.2.1)).bind λt29 =>
 (cond t29 (some (j0.2.2.2.1 != 162)) (some false)).bind λt35 =>
 (cond t35
 ((bx (j0.2.2.2.2.2.2.2.2.1,j0.2.2.2.2.2.2.2.2.2.1,j0.2.2.2.2.2.2.2.2.2.2.1,j0.2.2.2.2.2.2.2.2.2.2.2.1,j0.2.2.2.2.2.2.2.2.2.2.2.2.1,j0.2.2.2.2.2.2.2.2.2.2.2.2.2.1,j0.2.2.2.2.2.2.2.2.2.2.2.2.2.2.1,j0.2.2.2.2.2.2.2.2.2.2.2.2.2.2.2.1,j0.2.2.2.2.2.2.2.2.2.2.2.2.2.2.2.2.1,j0.2.2.2.2.2.2.2.2.2.2.2.2.2.2.2.2.2.1,j0.2.2.2.2.2.2.2.2.2.2.2.2.2.2.2.2.2.2.1)).bind λt39 =>
 some t39)
 (some false)).bind λt40 =>
 some t40)).bind λt41 =>
 some t41)
def jH:FL:=(147,⟨[.val true xM false],[.val false sS (some true)],λa=>eF a⟩)::jG
theorem oi:Gd jH:=rS oh 147 Tryz.f147 [] Tryz.func147
def gI (p0:s9) (t36:Int):Option (Int⊕(Unit⊕Bool)) :=
 cond (decide (t36<(p0.2.2.2.2.2.2.2.2.2.2.2.2.1.length:Int)))
 ((at? p0.2.2.2.2.2.2.2.2.2.2.2.2.1 t36).bind λx39 =>
 (ac x39.1 1 p0.2.2.2.2.2.2.2.2.2.2.2.2.2.2).bind λt45 =>
 (cond (!t45)
 (some true)
 ((cond (decide (t36>0))
 ((at? p0.2.2.2.2.2.2.2.2.2.2.2.2.1 (rJ (t36-1))).bind λx55 =>
 some (decide (x55.1>=x39.1)))
 (some false)).bind λt61 =>
 some t61)).bind λt62 =>
 (cond t62
 (some true)
 ((eF x39).bind λt65 =>
 some (!t65))).bind λt67 =>
 cond t67 (some (.inr (.inr false))) (some (.inl (rJ (t36+1)))))
 (some (.inr (.inl ())))
def eG (p0:s9):Option Bool :=
 (bx (p0.1,p0.2.1,p0.2.2.1,p0.2.2.2.1,p0.2.2.2.2.1,p0.2.2.2.2.2.1,p0.2.2.2.2.2.2.1,p0.2.2.2.2.2.2.2.1,p0.2.2.2.2.2.2.2.2.1,p0.2.2.2.2.2.2.2.2.2.1,p0.2.2.2.2.2.2.2.2.2.2.1)).bind λt7 =>
 (cond (!t7)
 (some true)
 (some (decide ((p0.2.2.2.2.2.2.2.2.2.2.2.1.length:Int)>20)))).bind λt14 =>
 (cond t14
 (some true)
 (some (decide ((p0.2.2.2.2.2.2.2.2.2.2.2.2.1.length:Int)>6)))).bind λt20 =>
 (cond t20
 (some true)
 ((bm p0.2.2.2.2.2.2.2.2.2.2.2.2.2.1).bind λt24 =>
 some (!t24))).bind λt26 =>
 (cond t26
 (some true)
 ((bm p0.2.2.2.2.2.2.2.2.2.2.2.2.2.2).bind λt30 =>
 some (!t30))).bind λt32 =>
 cond t32
 (some false)
 ((loop (λz=>gI p0 z) 0).bind (Sum.elim (λd =>
 some true) (λr=>some r)))
def jI:FL:=(73,⟨[.val true tB false],[.val false sS (some true)],λa=>eG a⟩)::jH
theorem oj:Gd jI:=rS oi 73 Tryz.f73 [(0,⟨⟨(36,false,[dI])::us 48 14 (us 64 3 []),[]⟩,
 ⟨[],[]⟩,some ⟨[(2,false,[dB])],[]⟩⟩)] Tryz.func73
def bn (n0:Int):Option Int :=
 let t2:=min2 (rJ (n0+1)) 1000000
 some t2
def jJ:FL:=(76,⟨[.val false rQ false],[.val false rQ (some true)],λa=>bn a⟩)::jI
theorem om:Gd jJ:=rS oj 76 Tryz.f76 [] Tryz.func76
def bT (a0:s9) (k1:Int):Option s9 :=
 (tF a0.2.2.2.2.2.2.2.2.2.2.2.2.1.length 0 k1).bind λp =>
 (tF a0.2.2.2.2.2.2.2.2.2.2.2.2.1.length (rJ (k1+1)) (a0.2.2.2.2.2.2.2.2.2.2.2.2.1.length:Int)).bind λp_1 =>
 (Cr a0.2.2.2.2.2.2.2.2.2.2.2.2.1 p.1 p.2 p_1.1 p_1.2).bind λzs18 =>
 some (a0.1,a0.2.1,a0.2.2.1,a0.2.2.2.1,a0.2.2.2.2.1,a0.2.2.2.2.2.1,a0.2.2.2.2.2.2.1,a0.2.2.2.2.2.2.2.1,a0.2.2.2.2.2.2.2.2.1,a0.2.2.2.2.2.2.2.2.2.1,a0.2.2.2.2.2.2.2.2.2.2.1,a0.2.2.2.2.2.2.2.2.2.2.2.1,zs18,a0.2.2.2.2.2.2.2.2.2.2.2.2.2.1,a0.2.2.2.2.2.2.2.2.2.2.2.2.2.2)
def jK:FL:=(239,⟨[.ptr tB (some true),.val false rQ false],[],λa=>bT a.1 a.2⟩)::jJ
theorem oo:Gd jK:=rS om 239 Tryz.f239 [] Tryz.func239
def eH (a0:s9) (k1:Int):Option s9 :=
 (ix a0.2.2.2.2.2.2.2.2.2.2.2.2.1.length k1).bind λj10 =>
 (ar (a0.1,a0.2.1,a0.2.2.1,a0.2.2.2.1,a0.2.2.2.2.1,a0.2.2.2.2.2.1,a0.2.2.2.2.2.2.1,a0.2.2.2.2.2.2.2.1,a0.2.2.2.2.2.2.2.2.1,a0.2.2.2.2.2.2.2.2.2.1,a0.2.2.2.2.2.2.2.2.2.2.1)).bind λt18 =>
 (a0.2.2.2.2.2.2.2.2.2.2.2.2.1[j10]?).bind λx =>
 ((a0.2.2.2.2.2.2.2.2.2.2.2.2.1.set j10 (x.1,x.2.1,1,x.2.2.2.1,x.2.2.2.2.1,x.2.2.2.2.2.1,x.2.2.2.2.2.2.1,x.2.2.2.2.2.2.2.1,x.2.2.2.2.2.2.2.2.1,x.2.2.2.2.2.2.2.2.2.1,x.2.2.2.2.2.2.2.2.2.2.1,x.2.2.2.2.2.2.2.2.2.2.2.1,x.2.2.2.2.2.2.2.2.2.2.2.2.1,x.2.2.2.2.2.2.2.2.2.2.2.2.2.1,x.2.2.2.2.2.2.2.2.2.2.2.2.2.2.1,x.2.2.2.2.2.2.2.2.2.2.2.2.2.2.2.1,x.2.2.2.2.2.2.2.2.2.2.2.2.2.2.2.2.1,x.2.2.2.2.2.2.2.2.2.2.2.2.2.2.2.2.2.1,x.2.2.2.2.2.2.2.2.2.2.2.2.2.2.2.2.2.2.1,x.2.2.2.2.2.2.2.2.2.2.2.2.2.2.2.2.2.2.2.1,x.2.2.2.2.2.2.2.2.2.2.2.2.2.2.2.2.2.2.2.2))[j10]?).bind λx_1 =>
 (((a0.2.2.2.2.2.2.2.2.2.2.2.2.1.set j10 (x.1,x.2.1,1,x.2.2.2.1,x.2.2.2.2.1,x.2.2.2.2.2.1,x.2.2.2.2.2.2.1,x.2.2.2.2.2.2.2.1,x.2.2.2.2.2.2.2.2.1,x.2.2.2.2.2.2.2.2.2.1,x.2.2.2.2.2.2.2.2.2.2.1,x.2.2.2.2.2.2.2.2.2.2.2.1,x.2.2.2.2.2.2.2.2.2.2.2.2.1,x.2.2.2.2.2.2.2.2.2.2.2.2.2.1,x.2.2.2.2.2.2.2.2.2.2.2.2.2.2.1,x.2.2.2.2.2.2.2.2.2.2.2.2.2.2.2.1,x.2.2.2.2.2.2.2.2.2.2.2.2.2.2.2.2.1,x.2.2.2.2.2.2.2.2.2.2.2.2.2.2.2.2.2.1,x.2.2.2.2.2.2.2.2.2.2.2.2.2.2.2.2.2.2.1,x.2.2.2.2.2.2.2.2.2.2.2.2.2.2.2.2.2.2.2.1,x.2.2.2.2.2.2.2.2.2.2.2.2.2.2.2.2.2.2.2.2)).set j10 (x_1.1,x_1.2.1,x_1.2.2.1,x_1.2.2.2.1,x_1.2.2.2.2.1,x_1.2.2.2.2.2.1,x_1.2.2.2.2.2.2.1,x_1.2.2.2.2.2.2.2.1,x_1.2.2.2.2.2.2.2.2.1,x_1.2.2.2.2.2.2.2.2.2.1,x_1.2.2.2.2.2.2.2.2.2.2.1,x_1.2.2.2.2.2.2.2.2.2.2.2.1,x_1.2.2.2.2.2.2.2.2.2.2.2.2.1,x_1.2.2.2.2.2.2.2.2.2.2.2.2.2.1,x_1.2.2.2.2.2.2.2.2.2.2.2.2.2.2.1,x_1.2.2.2.2.2.2.2.2.2.2.2.2.2.2.2.1,x_1.2.2.2.2.2.2.2.2.2.2.2.2.2.2.2.2.1,x_1.2.2.2.2.2.2.2.2.2.2.2.2.2.2.2.2.2.1,x_1.2.2.2.2.2.2.2.2.2.2.2.2.2.2.2.2.2.2.1,0,x_1.2.2.2.2.2.2.2.2.2.2.2.2.2.2.2.2.2.2.2.2))[j10]?).bind λx_2 =>
 some (a0.1,a0.2.1,a0.2.2.1,a0.2.2.2.1,a0.2.2.2.2.1,a0.2.2.2.2.2.1,a0.2.2.2.2.2.2.1,a0.2.2.2.2.2.2.2.1,a0.2.2.2.2.2.2.2.2.1,a0.2.2.2.2.2.2.2.2.2.1,a0.2.2.2.2.2.2.2.2.2.2.1,a0.2.2.2.2.2.2.2.2.2.2.2.1,((a0.2.2.2.2.2.2.2.2.2.2.2.2.1.set j10 (x.1,x.2.1,1,x.2.2.2.1,x.2.2.2.2.1,x.2.2.2.2.2.1,x.2.2.2.2.2.2.1,x.2.2.2.2.2.2.2.1,x.2.2.2.2.2.2.2.2.1,x.2.2.2.2.2.2.2.2.2.1,x.2.2.2.2.2.2.2.2.2.2.1,x.2.2.2.2.2.2.2.2.2.2.2.1,x.2.2.2.2.2.2.2.2.2.2.2.2.1,x.2.2.2.2.2.2.2.2.2.2.2.2.2.1,x.2.2.2.2.2.2.2.2.2.2.2.2.2.2.1,x.2.2.2.2.2.2.2.2.2.2.2.2.2.2.2.1,x.2.2.2.2.2.2.2.2.2.2.2.2.2.2.2.2.1,x.2.2.2.2.2.2.2.2.2.2.2.2.2.2.2.2.2.1,x.2.2.2.2.2.2.2.2.2.2.2.2.2.2.2.2.2.2.1,x.2.2.2.2.2.2.2.2.2.2.2.2.2.2.2.2.2.2.2.1,x.2.2.2.2.2.2.2.2.2.2.2.2.2.2.2.2.2.2.2.2)).set j10 (x_1.1,x_1.2.1,x_1.2.2.1,x_1.2.2.2.1,x_1.2.2.2.2.1,x_1.2.2.2.2.2.1,x_1.2.2.2.2.2.2.1,x_1.2.2.2.2.2.2.2.1,x_1.2.2.2.2.2.2.2.2.1,x_1.2.2.2.2.2.2.2.2.2.1,x_1.2.2.2.2.2.2.2.2.2.2.1,x_1.2.2.2.2.2.2.2.2.2.2.2.1,x_1.2.2.2.2.2.2.2.2.2.2.2.2.1,x_1.2.2.2.2.2.2.2.2.2.2.2.2.2.1,x_1.2.2.2.2.2.2.2.2.2.2.2.2.2.2.1,x_1.2.2.2.2.2.2.2.2.2.2.2.2.2.2.2.1,x_1.2.2.2.2.2.2.2.2.2.2.2.2.2.2.2.2.1,x_1.2.2.2.2.2.2.2.2.2.2.2.2.2.2.2.2.2.1,x_1.2.2.2.2.2.2.2.2.2.2.2.2.2.2.2.2.2.2.1,0,x_1.2.2.2.2.2.2.2.2.2.2.2.2.2.2.2.2.2.2.2.2)).set j10 (x_2.1,x_2.2.1,x_2.2.2.1,x_2.2.2.2.1,x_2.2.2.2.2.1,x_2.2.2.2.2.2.1,x_2.2.2.2.2.2.2.1,x_2.2.2.2.2.2.2.2.1,t18.1,t18.2.1,t18.2.2.1,t18.2.2.2.1,t18.2.2.2.2.1,t18.2.2.2.2.2.1,t18.2.2.2.2.2.2.1,t18.2.2.2.2.2.2.2.1,t18.2.2.2.2.2.2.2.2.1,t18.2.2.2.2.2.2.2.2.2.1,t18.2.2.2.2.2.2.2.2.2.2,x_2.2.2.2.2.2.2.2.2.2.2.2.2.2.2.2.2.2.2.2.1,x_2.2.2.2.2.2.2.2.2.2.2.2.2.2.2.2.2.2.2.2.2),a0.2.2.2.2.2.2.2.2.2.2.2.2.2.1,a0.2.2.2.2.2.2.2.2.2.2.2.2.2.2)
def jL:FL:=(240,⟨[.ptr tB (some true),.val false rQ false],[],λa=>eH a.1 a.2⟩)::jK
theorem oq:Gd jL:=rS oo 240 Tryz.f240 [] Tryz.func240
def eI (p0:s9) (i1:Int):Option s9 :=
 (ix p0.2.2.2.2.2.2.2.2.2.2.2.2.1.length i1).bind λj16 =>
 (p0.2.2.2.2.2.2.2.2.2.2.2.2.1[j16]?).bind λx18 =>
 (cu p0.2.2.2.2.2.2.2.2.2.2.2.1 x18.2.1).bind λt19 =>
 cond (t19.2==3)
 ((bn p0.2.2.2.2.2.2.2.2.1).bind λt42 =>
 (bT (p0.1,p0.2.1,p0.2.2.1,p0.2.2.2.1,p0.2.2.2.2.1,p0.2.2.2.2.2.1,p0.2.2.2.2.2.2.1,p0.2.2.2.2.2.2.2.1,t42,p0.2.2.2.2.2.2.2.2.2.1,p0.2.2.2.2.2.2.2.2.2.2.1,p0.2.2.2.2.2.2.2.2.2.2.2.1,p0.2.2.2.2.2.2.2.2.2.2.2.2.1,p0.2.2.2.2.2.2.2.2.2.2.2.2.2.1,p0.2.2.2.2.2.2.2.2.2.2.2.2.2.2) i1).bind λt48 =>
 some t48)
 ((cond (t19.2 != 0) (some true) (some (t19.1.1==162))).bind λt56 =>
 cond t56
 ((bn p0.2.2.2.2.2.2.2.1).bind λt63 =>
 (bT (p0.1,p0.2.1,p0.2.2.1,p0.2.2.2.1,p0.2.2.2.2.1,p0.2.2.2.2.2.1,p0.2.2.2.2.2.2.1,t63,p0.2.2.2.2.2.2.2.2.1,p0.2.2.2.2.2.2.2.2.2.1,p0.2.2.2.2.2.2.2.2.2.2.1,p0.2.2.2.2.2.2.2.2.2.2.2.1,p0.2.2.2.2.2.2.2.2.2.2.2.2.1,p0.2.2.2.2.2.2.2.2.2.2.2.2.2.1,p0.2.2.2.2.2.2.2.2.2.2.2.2.2.2) i1).bind λt69 =>
 some t69)
 ((ix p0.2.2.2.2.2.2.2.2.2.2.2.2.1.length i1).bind λj28 =>
 (p0.2.2.2.2.2.2.2.2.2.2.2.2.1[j28]?).bind λx =>
 (eH (p0.1,p0.2.1,p0.2.2.1,p0.2.2.2.1,p0.2.2.2.2.1,p0.2.2.2.2.2.1,p0.2.2.2.2.2.2.1,p0.2.2.2.2.2.2.2.1,p0.2.2.2.2.2.2.2.2.1,p0.2.2.2.2.2.2.2.2.2.1,p0.2.2.2.2.2.2.2.2.2.2.1,p0.2.2.2.2.2.2.2.2.2.2.2.1,p0.2.2.2.2.2.2.2.2.2.2.2.2.1.set j28 (x.1,x.2.1,x.2.2.1,t19.1.1,t19.1.2.1,t19.1.2.2.1,t19.1.2.2.2.1,t19.1.2.2.2.2,x.2.2.2.2.2.2.2.2.1,x.2.2.2.2.2.2.2.2.2.1,x.2.2.2.2.2.2.2.2.2.2.1,x.2.2.2.2.2.2.2.2.2.2.2.1,x.2.2.2.2.2.2.2.2.2.2.2.2.1,x.2.2.2.2.2.2.2.2.2.2.2.2.2.1,x.2.2.2.2.2.2.2.2.2.2.2.2.2.2.1,x.2.2.2.2.2.2.2.2.2.2.2.2.2.2.2.1,x.2.2.2.2.2.2.2.2.2.2.2.2.2.2.2.2.1,x.2.2.2.2.2.2.2.2.2.2.2.2.2.2.2.2.2.1,x.2.2.2.2.2.2.2.2.2.2.2.2.2.2.2.2.2.2.1,x.2.2.2.2.2.2.2.2.2.2.2.2.2.2.2.2.2.2.2.1,x.2.2.2.2.2.2.2.2.2.2.2.2.2.2.2.2.2.2.2.2),p0.2.2.2.2.2.2.2.2.2.2.2.2.2.1,p0.2.2.2.2.2.2.2.2.2.2.2.2.2.2) i1).bind λt32 =>
 some t32))
def jM:FL:=(148,⟨[.ptr tB (some true),.val false rQ false],[],λa=>eI a.1 a.2⟩)::jL
theorem ot:Gd jM:=rS oq 148 Tryz.f148 [] Tryz.func148
def aG (v0:vl) (name1:List Int):Option rK :=
 (sf ([1,3,1]:List Int) name1).bind λzs7 =>
 some (zs7,v0.1,v0.2.1,v0.2.2.1,v0.2.2.2)
def jN:FL:=(372,⟨[.val true wR true,.val false uw false],[.val true rX (some true)],λa=>aG a.1 a.2⟩)::jM
theorem ou:Gd jN:=rS ot 372 Tryz.f372 [] Tryz.func372
def aY (n0:Int):Option vl :=
 some (2,n0,[],[])
def jO:FL:=(373,⟨[.val false rQ false],[.val true wR (some true)],λa=>aY a⟩)::jN
theorem ov:Gd jO:=rS ou 373 Tryz.f373 [] Tryz.func373
def dD (a0:zb) (b1:zb):Option Bool :=
 cond (a0.1 != b1.1)
 (some (decide (a0.1<b1.1)))
 (cond (a0.2.1 != b1.2.1)
 (some (decide (a0.2.1<b1.2.1)))
 (cond (a0.2.2.2.1 != b1.2.2.2.1)
 (let t4:=decide (a0.2.2.2.1<b1.2.2.2.1)
 some t4)
 (let t4_1:=decide (a0.2.2.2.2<b1.2.2.2.2)
 some t4_1)))
def jQ:FL:=(361,⟨[.val true xr false,.val true xr false],[.val false sS (some true)],λa=>dD a.1 a.2⟩)::jO
theorem ow:Gd jQ:=rS ov 361 Tryz.f361 [] Tryz.func361
def eJ (v0:zb) (cost1:Int):Option (zb×Bool) :=
 (cw v0).bind λt8 =>
 (cond (!t8)
 (some true)
 ((ac cost1 1 1000).bind λt12 =>
 some (!t12))).bind λt14 =>
 cond t14
 (some (v0,false))
 ((cw (v0.1,rJ (v0.2.1+cost1),rJ (v0.2.2.1+1),v0.2.2.2.1,v0.2.2.2.2)).bind λt27 =>
 cond (!t27)
 (some (v0,false))
 (some ((v0.1,rJ (v0.2.1+cost1),rJ (v0.2.2.1+1),v0.2.2.2.1,v0.2.2.2.2),true)))
def jR:FL:=(378,⟨[.val true xr false,.val false rQ false],[.val true xr (some true),.val false sS (some true)],λa=>eJ a.1 a.2⟩)::jQ
theorem ox:Gd jR:=rS ow 378 Tryz.f378 [] Tryz.func378
def dE (p0:Int) (i1:List Pt) (t7:Int) (t18:Int) (b0:Int) (b1:Int) (b2:Int) (b3:Int) (b4:Int) (b0_1:Int) (b1_1:Int) (b2_1:Int) (b3_1:Int) (b4_1:Int):Option ((Int×Int×Int×Int×Int×Int×Int×Int×Int×Int×Int×Int)⊕(Int×Int×Int×Int×Int×Int×Int×Int×Int×Int×Int)) :=
 cond (decide (t18<(i1.length:Int)))
 ((at? i1 t18).bind λx21 =>
 (cond (!x21.1) (some true) (some (!x21.2.2.1))).bind λt30 =>
 cond t30
 (some (.inl (t7,rJ (t18+1),b0,b1,b2,b3,b4,b0_1,b1_1,b2_1,b3_1,b4_1)))
 ((eJ x21.2.2.2 x21.2.1).bind λt36 =>
 (cond t36.2 (some (decide (t36.1.1<p0))) (some false)).bind λt45 =>
 (cond t45
 ((cond (decide (t7<0))
 (some true)
 ((dD t36.1 (b0_1,b1_1,b2_1,b3_1,b4_1)).bind λt52 =>
 some t52)).bind λt53 =>
 some t53)
 (some false)).bind λt54 =>
 cond t54
 (some (.inl (t18,rJ (t18+1),t36.1.1,t36.1.2.1,t36.1.2.2.1,p0,0,t36.1.1,t36.1.2.1,t36.1.2.2.1,t36.1.2.2.2.1,t36.1.2.2.2.2)))
 (some (.inl (t7,rJ (t18+1),b0,b1,b2,b3,b4,b0_1,b1_1,b2_1,b3_1,b4_1)))))
 (some (.inr (t7,b0,b1,b2,b3,b4,b0_1,b1_1,b2_1,b3_1,b4_1)))
def bz (p0:Int) (i1:List Pt):Option (zb×Int) :=
 (loop (λz=>dE p0 i1 z.1 z.2.1 z.2.2.1 z.2.2.2.1 z.2.2.2.2.1 z.2.2.2.2.2.1 z.2.2.2.2.2.2.1 z.2.2.2.2.2.2.2.1 z.2.2.2.2.2.2.2.2.1 z.2.2.2.2.2.2.2.2.2.1 z.2.2.2.2.2.2.2.2.2.2.1 z.2.2.2.2.2.2.2.2.2.2.2) ((-1),0,p0,0,0,p0,0,0,0,0,0,0)).bind λd =>
 some ((d.2.1,d.2.2.1,d.2.2.2.1,d.2.2.2.2.1,d.2.2.2.2.2.1),d.1)
def jS:FL:=(360,⟨[.val false rQ false,.val false (.one (.sl uG)) false],[.val true xr (some true),.val false rQ (some true)],λa=>bz a.1 a.2⟩)::jR
theorem oy:Gd jS:=rS ox 360 Tryz.f360 [(0,⟨⟨(7,false,[dI])::(18,false,[dI])::us 27 3 (us 41 4 (us 47 7 [])),[(266240,.box [dI,dI,dI,dI,dI]),(525312,.box [dI,dI,dI,dI,dI])]⟩,
 ⟨[(7,false,[dI])],[(266240,.box [dI,dI,dI,dI,dI]),(525312,.box [dI,dI,dI,dI,dI])]⟩,none⟩)] Tryz.func360
def eK (id0:Int) (l1:List Pt) (port2:Int):Option zb :=
 (bz id0 l1).bind λt12 =>
 some (t12.1.1,t12.1.2.1,t12.1.2.2.1,t12.1.2.2.2.1,port2)
def jT:FL:=(362,⟨[.val false rQ false,.val false (.one (.sl uG)) false,.val false rQ false],[.val true xr (some true)],λa=>eK a.1 a.2.1 a.2.2⟩)::jS
theorem oz:Gd jT:=rS oy 362 Tryz.f362 [] Tryz.func362
def aN (id0:Int) (l1:List Pt) (port2:Int):Option Int :=
 (ac port2 0 (rJ ((l1.length:Int)-1))).bind λt13 =>
 (cond (!t13)
 (some true)
 ((at? l1 port2).bind λx18 =>
 some (!x18.1))).bind λt22 =>
 cond t22
 (some 4)
 ((bz id0 l1).bind λt26 =>
 cond (t26.2==port2)
 (some 1)
 ((at? l1 port2).bind λx36 =>
 (cond (!x36.2.2.1)
 (some true)
 ((eK id0 l1 port2).bind λt44 =>
 (at? l1 port2).bind λx47 =>
 (dD t44 x47.2.2.2).bind λt50 =>
 some t50)).bind λt51 =>
 cond t51 (some 2) (some 3)))
def jU:FL:=(325,⟨[.val false rQ false,.val false (.one (.sl uG)) false,.val false rQ false],[.val false rQ (some true)],λa=>aN a.1 a.2.1 a.2.2⟩)::jT
theorem oA:Gd jU:=rS oz 325 Tryz.f325 [] Tryz.func325
def eL (is0:Bool):Option Int :=
 cond is0 (some 1) (some 0)
def jV:FL:=(388,⟨[.val false sS false],[.val false rQ (some true)],λa=>eL a⟩)::jU
theorem oB:Gd jV:=rS oA 388 Tryz.f388 [] Tryz.func388
def bU (b0:rI) (c1:Int) (p2:Int):Option Int :=
 cond (c1==1)
 ((at? b0.2.2.1 p2).bind λx13 =>
 (eL x13.1).bind λt16 =>
 some t16)
 (cond (c1==2)
 ((at? b0.2.2.1 p2).bind λx22 =>
 some x22.2.1)
 (cond (c1==3)
 ((aN b0.1 b0.2.2.1 p2).bind λt32 =>
 some t32)
 ((at? b0.2.2.2.2.2.1 p2).bind λx37 =>
 some x37)))
def jW:FL:=(374,⟨[.val true s7 false,.val false rQ false,.val false rQ false],[.val false rQ (some true)],λa=>bU a.1 a.2.1 a.2.2⟩)::jV
theorem oC:Gd jW:=rS oB 374 Tryz.f374 [] Tryz.func374
def jX (p0:rI) (t32:Int) (t3:List rK):Option ((Int×List rK)⊕(List rK)) :=
 cond (decide (t32<([p0.2.2.2.2.2.2.1,p0.2.2.2.2.2.2.2.1,p0.2.2.2.2.2.2.2.2.1,p0.2.2.2.2.2.2.2.2.2.1].length:Int)))
 ((ix [p0.2.2.2.2.2.2.1,p0.2.2.2.2.2.2.2.1,p0.2.2.2.2.2.2.2.2.1,p0.2.2.2.2.2.2.2.2.2.1].length t32).bind λj35 =>
 ([p0.2.2.2.2.2.2.1,p0.2.2.2.2.2.2.2.1,p0.2.2.2.2.2.2.2.2.1,p0.2.2.2.2.2.2.2.2.2.1][j35]?).bind λx36 =>
 (aY x36).bind λt39 =>
 (aG t39 [1,rJ (t32+2)]).bind λt43 =>
 (sf t3 [t43]).bind λzs45 =>
 some (.inl (rJ (t32+1),zs45)))
 (some (.inr t3))
def bA (p0:rI) (t6:Int) (t54:Int) (t3_3:List rK):Option ((Int×List rK)⊕(List rK)) :=
 cond (decide (t54<(p0.2.2.1.length:Int)))
 ((bU p0 t6 t54).bind λt61 =>
 (aY t61).bind λt62 =>
 (aG t62 [2,t6,rJ (t54+1)]).bind λt67 =>
 (sf t3_3 [t67]).bind λzs69 =>
 some (.inl (rJ (t54+1),zs69)))
 (some (.inr t3_3))
def bV (p0:rI) (t6:Int) (t3_2:List rK):Option ((Int×List rK)⊕(List rK)) :=
 cond (decide (t6<=4))
 ((loop (λz=>bA p0 t6 z.1 z.2) (0,t3_2)).bind λd_1 =>
 some (.inl (rJ (t6+1),d_1)))
 (some (.inr t3_2))
def bB (p0:rI) (t8:Int) (t79:Int) (t3_7:List rK):Option ((Int×List rK)⊕(List rK)) :=
 cond (decide (t79<(p0.2.2.2.2.1.length:Int)))
 ((at? p0.2.2.2.2.1 t79).bind λx81 =>
 (ix [1,x81.2.1,x81.2.2].length (rJ (t8-1))).bind λj91 =>
 ([1,x81.2.1,x81.2.2][j91]?).bind λx92 =>
 (aY x92).bind λt93 =>
 (aG t93 [3,t8,x81.1]).bind λt98 =>
 (sf t3_7 [t98]).bind λzs100 =>
 some (.inl (rJ (t79+1),zs100)))
 (some (.inr t3_7))
def bW (p0:rI) (t8:Int) (t3_6:List rK):Option ((Int×List rK)⊕(List rK)) :=
 cond (decide (t8<=3))
 ((loop (λz=>bB p0 t8 z.1 z.2) (0,t3_6)).bind λd_3 =>
 some (.inl (rJ (t8+1),d_3)))
 (some (.inr t3_6))
def bo (p0:rI) (t105:Int) (t3_10:List rK):Option ((Int×List rK)⊕(List rK)) :=
 cond (decide (t105<(p0.2.2.2.1.length:Int)))
 ((at? p0.2.2.2.1 t105).bind λx107 =>
 (aY (rJ (x107.2.2.1+1))).bind λt113 =>
 (aG t113 [4,1,x107.1,x107.2.1]).bind λt119 =>
 (sf t3_10 [t119]).bind λzs121 =>
 some (.inl (rJ (t105+1),zs121)))
 (some (.inr t3_10))
def bC (p0:rI):Option (List rK) :=
 (bx p0).bind λt14 =>
 cond (!t14)
 (some [])
 ((aG (4,0,p0.2.1,[]) ([1,1]:List Int)).bind λt20 =>
 (loop (λz=>jX p0 z.1 z.2) (0,[t20])).bind λd =>
 (loop (λz=>bV p0 z.1 z.2) (1,d)).bind λd_2 =>
 (loop (λz=>bW p0 z.1 z.2) (1,d_2)).bind λd_4 =>
 (loop (λz=>bo p0 z.1 z.2) (0,d_4)).bind λd_5 =>
 some d_5)
def jY:FL:=(356,⟨[.val true s7 false],[.val false (.one (.sl rX)) (some true)],λa=>bC a⟩)::jW
theorem oD:Gd jY:=rS oC 356 Tryz.f356 [(0,⟨⟨[(3,false,[.own 1000000000]),(32,false,[dI])],[(1000000000,.root rX true)]⟩,
 ⟨[(3,false,[.own 1000000300])],[(1000000300,.root rX true)]⟩,none⟩),
 (2,⟨⟨[(3,false,[.own 1000002000]),(6,false,[dI])],[(1000002000,.root rX true)]⟩,
 ⟨[(3,false,[.own 1000002300])],[(1000002300,.root rX true)]⟩,none⟩),
 (4,⟨⟨[(3,false,[.own 1000004000]),(54,false,[dI])],[(1000004000,.root rX true)]⟩,
 ⟨[(3,false,[.own 1000004300])],[(1000004300,.root rX true)]⟩,none⟩),
 (6,⟨⟨[(3,false,[.own 1000006000]),(8,false,[dI])],[(1000006000,.root rX true)]⟩,
 ⟨[(3,false,[.own 1000006300])],[(1000006300,.root rX true)]⟩,none⟩),
 (8,⟨⟨[(3,false,[.own 1000008000]),(79,false,[dI])],[(1000008000,.root rX true)]⟩,
 ⟨[(3,false,[.own 1000008300])],[(1000008300,.root rX true)]⟩,none⟩),
 (10,⟨⟨[(3,false,[.own 1000010000]),(105,false,[dI])],[(1000010000,.root rX true)]⟩,
 ⟨[(3,false,[.own 1000010300])],[(1000010300,.root rX true)]⟩,none⟩)] Tryz.func356
def bp (o1:List Int) (t8:List rK) (t10:Int) (b0_1:Int) (b1:Int) (b2:List UInt8) (b3:List Int):Option ((Int×Int×Int×List UInt8×List Int)⊕((Int×Int×List UInt8×List Int)⊕(Int×Int×List UInt8×List Int))) :=
 cond (decide (t10<(t8.length:Int)))
 ((ix t8.length t10).bind λj12 =>
 (t8[j12]?).bind λx13 =>
 (aE x13.1 o1).bind λt17 =>
 cond t17
 (some (.inr (.inr x13.2)))
 (some (.inl (rJ (t10+1),b0_1,b1,b2,b3))))
 (some (.inr (.inl (b0_1,b1,b2,b3))))
def bY (b0:rI) (o1:List Int):Option vl :=
 (bC b0).bind λt8 =>
 (loop (λz=>bp o1 t8 z.1 z.2.1 z.2.2.1 z.2.2.2.1 z.2.2.2.2) (0,0,0,[],[])).bind (Sum.elim (λd =>
 some (128,0,[],[])) (λr=>some r))
def jZ:FL:=(319,⟨[.val true s7 false,.val false uw false],[.cold true wR],λa=>bY a.1 a.2⟩)::jY
theorem oE:Gd jZ:=rS oD 319 Tryz.f319 [(0,⟨⟨[(10,false,[dI])],[(2048,.box [dI,dI,dS,.own 1000000000]),(1000000000,.root rQ true)]⟩,
 ⟨[],[(2048,.box [dI,dI,dS,.own 1000000300]),(1000000300,.root rQ true)]⟩,some ⟨[],[(2048,.box [dI,dI,dS,.kid 264192 4 rQ])]⟩⟩),
 (1000000,⟨⟨[],[(264192,.tree rX)]⟩,⟨[],[]⟩,none⟩)] Tryz.func319
def dG (a0:List Int) (b1:List Int) (i5:Int):Option (Int⊕(Unit⊕Bool)) :=
 (cond (decide (i5<(a0.length:Int))) (some (decide (i5<(b1.length:Int)))) (some false)).bind λt15 =>
 cond t15
 ((at? a0 i5).bind λx20 =>
 (at? b1 i5).bind λx24 =>
 cond (x20 != x24)
 ((at? a0 i5).bind λx29 =>
 (at? b1 i5).bind λx33 =>
 some (.inr (.inr (decide (x29<x33)))))
 (some (.inl (rJ (i5+1)))))
 (some (.inr (.inl ())))
def eM (a0:List Int) (b1:List Int):Option Bool :=
 (loop (λz=>dG a0 b1 z) 0).bind (Sum.elim (λd =>
 let t4:=decide ((a0.length:Int)<(b1.length:Int))
 some t4) (λr=>some r))
def kc:FL:=(358,⟨[.val false uw false,.val false uw false],[.val false sS (some true)],λa=>eM a.1 a.2⟩)::jZ
theorem oF:Gd kc:=rS oE 358 Tryz.f358 [(0,⟨⟨(5,false,[dI])::us 11 4 [],[]⟩,
 ⟨[],[]⟩,some ⟨[(4,false,[dB])],[]⟩⟩)] Tryz.func358
def bZ (o1:List Int) (t8:List rK) (t10:Int) (b1:Int) (b2:Int) (b3:List UInt8) (b0_1:List Int) (b4:List Int):Option ((Int×Int×Int×List UInt8×List Int×List Int)⊕((Int×Int×List UInt8×List Int×List Int)⊕(List Int×Int×Int×List UInt8×List Int))) :=
 cond (decide (t10<(t8.length:Int)))
 ((ix t8.length t10).bind λj12 =>
 (t8[j12]?).bind λx13 =>
 (eM o1 x13.1).bind λt17 =>
 cond t17
 (some (.inr (.inr x13)))
 (some (.inl (rJ (t10+1),b1,b2,b3,b0_1,b4))))
 (some (.inr (.inl (b1,b2,b3,b0_1,b4))))
def aZ (b0:rI) (o1:List Int):Option rK :=
 (bC b0).bind λt8 =>
 (loop (λz=>bZ o1 t8 z.1 z.2.1 z.2.2.1 z.2.2.2.1 z.2.2.2.2.1 z.2.2.2.2.2) (0,0,0,[],[],[])).bind (Sum.elim (λd =>
 (aX o1).bind λt21 =>
 some (t21,130,0,[],[])) (λr=>some r))
def ke:FL:=(320,⟨[.val true s7 false,.val false uw false],[.cold true rX],λa=>aZ a.1 a.2⟩)::kc
theorem oG:Gd ke:=rS oF 320 Tryz.f320 [(0,⟨⟨[(10,false,[dI])],[(2048,.box [.own 1000000000,dI,dI,dS,.own 1000000001]),(1000000000,.root rQ true),(1000000001,.root rQ true)]⟩,
 ⟨[],[(2048,.box [.own 1000000300,dI,dI,dS,.own 1000000301]),(1000000300,.root rQ true),(1000000301,.root rQ true)]⟩,some ⟨[],[(2048,.box [.kid 264192 0 rQ,dI,dI,dS,.kid 264192 4 rQ])]⟩⟩),
 (1000000,⟨⟨[],[(264192,.tree rX)]⟩,⟨[],[]⟩,none⟩)] Tryz.func320
def dH (p0:rI) (t24:List rK) (t26:Int) (t5:List rK):Option ((Int×List rK)⊕(List rK)) :=
 cond (decide (t26<(t24.length:Int)))
 ((at? t24 t26).bind λx28 =>
 (aZ p0 x28.1).bind λt34 =>
 (sf t5 [t34]).bind λzs36 =>
 some (.inl (rJ (t26+1),zs36)))
 (some (.inr t5))
def dJ (t41:List rK) (t43:Int) (t9:List (List Int)):Option ((Int×List (List Int))⊕(List (List Int))) :=
 cond (decide (t43<(t41.length:Int)))
 ((at? t41 t43).bind λx45 =>
 (sf t9 [x45.1]).bind λzs51 =>
 some (.inl (rJ (t43+1),zs51)))
 (some (.inr t9))
def cz (p0:rI) (l:List (List Int)) (t71:Int) (t5_3:List rK) (l_1:List (List Int)):Option ((Int×List rK×List (List Int))⊕(List rK×List (List Int))) :=
 cond (decide (t71<(l.length:Int)))
 (cond (decide ((t5_3.length:Int)>=10))
 (some (.inr (t5_3,l_1)))
 ((ix l_1.length t71).bind λj80 =>
 (l_1[j80]?).bind λx81 =>
 (aZ p0 x81).bind λt82 =>
 (ix l_1.length t71).bind λj87 =>
 (l_1[j87]?).bind λx =>
 (sf t5_3 [t82]).bind λzs91 =>
 some (.inl (rJ (t71+1),zs91,l_1.set j87 t82.1))))
 (some (.inr (t5_3,l_1)))
def bD (p0:rI) (i1:sj) (t12:Int) (t5_2:List rK) (l:List (List Int)):Option ((Int×List rK×List (List Int))⊕(List rK×List (List Int))) :=
 (cond (decide (t12<i1.2.2.2.1)) (some (decide ((l.length:Int)>0))) (some false)).bind λt61 =>
 (cond t61 (some (decide ((t5_2.length:Int)<10))) (some false)).bind λt66 =>
 cond t66
 ((loop (λz=>cz p0 l z.1 z.2.1 z.2.2) (0,t5_2,l)).bind λd_2 =>
 some (.inl (rJ (t12+1),d_2.1,d_2.2)))
 (some (.inr (t5_2,l)))
def fO (p0:rI) (i1:sj):Option (List rK) :=
 let t6:=min2 i1.2.2.1 (i1.2.2.2.2.length:Int)
 (cut i1.2.2.2.2 0 t6).bind λt24 =>
 (loop (λz=>dH p0 t24 z.1 z.2) (0,[])).bind λd =>
 (cut i1.2.2.2.2 t6 (i1.2.2.2.2.length:Int)).bind λt41 =>
 (loop (λz=>dJ t41 z.1 z.2) (0,[])).bind λd_1 =>
 (loop (λz=>bD p0 i1 z.1 z.2.1 z.2.2) (0,d,d_1)).bind λd_3 =>
 some d_3.1
def kf:FL:=(321,⟨[.val true s7 false,.val true ud false],[.val false (.one (.sl rX)) (some true)],λa=>fO a.1 a.2⟩)::ke
theorem oH:Gd kf:=rS oG 321 Tryz.f321 [(0,⟨⟨[(5,false,[.own 1000000000]),(26,false,[dI])],[(1000000000,.root rX true)]⟩,
 ⟨[(5,false,[.own 1000000300])],[(1000000300,.root rX true)]⟩,none⟩),
 (2,⟨⟨[(9,false,[.own 1000002000]),(43,false,[dI])],[(1000002000,.root uw false)]⟩,
 ⟨[(9,false,[.own 1000002300])],[(1000002300,.root uw false)]⟩,none⟩),
 (4,⟨⟨(5,false,[.own 1000004000])::(12,false,[dI])::us 58 3 (us 63 3 []),[(1000004000,.root rX true),(1000002300,.keep uw false)]⟩,
 ⟨[(5,false,[.own 1000004300])],[(1000004300,.root rX true),(1000002300,.keep uw false)]⟩,none⟩),
 (6,⟨⟨[(5,false,[.own 1000006000]),(71,false,[dI])],[(1000006000,.root rX true),(1000002300,.keep uw false)]⟩,
 ⟨[(5,false,[.own 1000006300])],[(1000006300,.root rX true),(1000002300,.keep uw false)]⟩,none⟩)] Tryz.func321
def fP (bits0:Int) (port1:Int):Option Bool :=
 (ac port1 0 62).bind λt6 =>
 (cond t6
 ((shr .i64 bits0 port1).bind λt10 =>
 some ((vn .i64 t10 1)==1))
 (some false)).bind λt13 =>
 some t13
def kg:FL:=(251,⟨[.val false rQ false,.val false rQ false],[.val false sS (some true)],λa=>fP a.1 a.2⟩)::kf
theorem oI:Gd kg:=rS oH 251 Tryz.f251 [] Tryz.func251
def ba (id0:Int) (l1:List Pt) (bits5:Int) (port6:Int):Option ((Int×Int)⊕Int) :=
 (cond (decide (port6<(l1.length:Int))) (some (decide (port6<6))) (some false)).bind λt15 =>
 cond t15
 ((aN id0 l1 port6).bind λt21 =>
 (cond (t21==1) (some true) (some (t21==2))).bind λt27 =>
 cond t27
 ((shl .i64 1 port6).bind λt30 =>
 some (.inl (zC .i64 bits5 t30,rJ (port6+1))))
 (some (.inl (bits5,rJ (port6+1)))))
 (some (.inr bits5))
def fQ (id0:Int) (l1:List Pt):Option Int :=
 (loop (λz=>ba id0 l1 z.1 z.2) (0,0)).bind λd =>
 some d
def kh:FL:=(252,⟨[.val false rQ false,.val false (.one (.sl uG)) false],[.val false rQ (some true)],λa=>fQ a.1 a.2⟩)::kg
theorem oJ:Gd kh:=rS oI 252 Tryz.f252 [(0,⟨⟨[(5,false,[dI]),(6,false,[dI]),(13,false,[.undef]),(14,false,[.undef]),(25,false,[.undef]),(26,false,[.undef])],[]⟩,
 ⟨[(5,false,[dI])],[]⟩,none⟩)] Tryz.func252
def dK (l0:List rR) (port1:Int) (t10:Int) (out5:List rR):Option ((Int×List rR)⊕(List rR)) :=
 cond (decide (t10<(l0.length:Int)))
 ((at? l0 t10).bind λx12 =>
 (cond x12.2.2.2.2 (some true) (some (x12.2.2.1 != port1))).bind λt21 =>
 cond t21
 ((sf out5 [x12]).bind λzs25 =>
 some (.inl (rJ (t10+1),zs25)))
 (some (.inl (rJ (t10+1),out5))))
 (some (.inr out5))
def fR (l0:List rR) (port1:Int):Option (List rR) :=
 (loop (λz=>dK l0 port1 z.1 z.2) (0,[])).bind λd =>
 some d
def ki:FL:=(348,⟨[.val false (.one (.sl sr)) false,.val false rQ false],[.val false (.one (.sl sr)) (some true)],λa=>fR a.1 a.2⟩)::kh
theorem oK:Gd ki:=rS oJ 348 Tryz.f348 [(0,⟨⟨(5,false,[.own 1000000000])::(10,false,[dI])::us 17 4 [],[(1000000000,.root sr true)]⟩,
 ⟨[(5,false,[.own 1000000300])],[(1000000300,.root sr true)]⟩,none⟩)] Tryz.func348
def fS (b0:rI) (t20:Int) (t26:Int) (b0_1:Int) (b1:List UInt8) (b6:Int) (b7:Int) (b8:Int) (b9:Int) (b10:Int) (b3:List rR):Option ((Int×Int×List UInt8×Int×Int×Int×Int×Int×List rR)⊕(Int×List UInt8×Int×Int×Int×Int×Int×List rR)) :=
 cond (decide (t26<(b0.2.2.1.length:Int)))
 ((fP t20 t26).bind λt31 =>
 cond (!t31)
 ((fR b3 t26).bind λt39 =>
 some (.inl (rJ (t26+1),b0_1,b1,b6,b7,b8,b9,b10,t39)))
 (some (.inl (rJ (t26+1),b0_1,b1,b6,b7,b8,b9,b10,b3))))
 (some (.inr (b0_1,b1,b6,b7,b8,b9,b10,b3)))
def bE (b0:rI):Option rI :=
 (bn b0.2.2.2.2.2.2.2.2.2.2).bind λt9 =>
 (fQ b0.1 b0.2.2.1).bind λt20 =>
 (loop (λz=>fS b0 t20 z.1 z.2.1 z.2.2.1 z.2.2.2.1 z.2.2.2.2.1 z.2.2.2.2.2.1 z.2.2.2.2.2.2.1 z.2.2.2.2.2.2.2.1 z.2.2.2.2.2.2.2.2) (0,b0.1,b0.2.1,b0.2.2.2.2.2.2.1,b0.2.2.2.2.2.2.2.1,b0.2.2.2.2.2.2.2.2.1,b0.2.2.2.2.2.2.2.2.2.1,t9,b0.2.2.2.1)).bind λd =>
 some (d.1,d.2.1,b0.2.2.1,d.2.2.2.2.2.2.2,b0.2.2.2.2.1,b0.2.2.2.2.2.1,d.2.2.1,d.2.2.2.1,d.2.2.2.2.1,d.2.2.2.2.2.1,d.2.2.2.2.2.2.1)
def kj:FL:=(296,⟨[.ptr s7 (some true)],[],λa=>bE a⟩)::ki
theorem oL:Gd kj:=rS oK 296 Tryz.f296 [(0,⟨⟨[(26,false,[dI])],[(1,.box [dI,dS,.same 4,.own 1000000000,.same 6,.same 7,dI,dI,dI,dI,dI]),(1000000000,.root sr true)]⟩,
 ⟨[],[(1,.box [dI,dS,.same 4,.own 1000000300,.same 6,.same 7,dI,dI,dI,dI,dI]),(1000000300,.root sr true)]⟩,none⟩)] Tryz.func296
def aO (o0:List Int) (low1:Int) (high2:Int) (head3:List Int):Option Bool :=
 cond ((o0.length:Int)==(rJ ((head3.length:Int)+4)))
 ((cut o0 0 (rJ ((o0.length:Int)-1))).bind λt20 =>
 (sf ([1,3,1]:List Int) head3).bind λzs23 =>
 (aE t20 zs23).bind λt24 =>
 (cond t24
 ((at? o0 (rJ ((o0.length:Int)-1))).bind λx31 =>
 (ac x31 low1 high2).bind λt35 =>
 some t35)
 (some false)).bind λt36 =>
 some t36)
 ((some false).bind λt36_1 =>
 some t36_1)
def kk:FL:=(389,⟨[.val false uw false,.val false rQ false,.val false rQ false,.val false uw false],[.val false sS (some true)],λa=>aO a.1 a.2.1 a.2.2.1 a.2.2.2⟩)::kj
theorem oM:Gd kk:=rS oL 389 Tryz.f389 [] Tryz.func389
def fT (b0:rI) (o1:List Int):Option Bool :=
 (aO o1 1 1 ([1]:List Int)).bind λt11 =>
 (cond t11
 (some true)
 ((aO o1 1 (b0.2.2.1.length:Int) ([2,2]:List Int)).bind λt16 =>
 some t16)).bind λt17 =>
 (cond t17
 (some true)
 ((aO o1 1 (b0.2.2.1.length:Int) ([2,4]:List Int)).bind λt22 =>
 some t22)).bind λt23 =>
 (cond t23
 (some true)
 ((aO o1 1 99 ([3,1]:List Int)).bind λt27 =>
 some t27)).bind λt28 =>
 cond t28
 (some true)
 ((aO o1 1 99 ([3,2]:List Int)).bind λt31 =>
 (cond t31
 (some true)
 ((aO o1 1 99 ([3,3]:List Int)).bind λt35 =>
 some t35)).bind λt36 =>
 (cond t36
 ((at? o1 5).bind λx41 =>
 (aq (b0.2.2.2.2.1,b0.2.2.2.2.2.1) x41).bind λt43 =>
 some (decide (t43>=0)))
 (some false)).bind λt45 =>
 some t45)
def kl:FL:=(375,⟨[.val true s7 false,.val false uw false],[.val false sS (some true)],λa=>fT a.1 a.2⟩)::kk
theorem oN:Gd kl:=rS oM 375 Tryz.f375 [] Tryz.func375
def fU (v0:sR) (r1:s5) (k7:Int):Option (Int⊕Int) :=
 (cond (decide (k7<(v0.1.length:Int)))
 ((at? v0.1 k7).bind λx31 =>
 some (decide (x31.1<=r1.1)))
 (some false)).bind λt37 =>
 cond t37 (some (.inl (rJ (k7+1)))) (some (.inr k7))
def eN (v0:sR) (r1:s5):Option sR :=
 (dw v0).bind λt9 =>
 (aq v0 r1.1).bind λt13 =>
 cond (decide (t13>=0))
 ((ix t9.1.length t13).bind λj20 =>
 (t9.1[j20]?).bind λx =>
 some (t9.1.set j20 r1,t9.2))
 ((loop (λz=>fU v0 r1 z) 0).bind λd =>
 (cut v0.1 0 d).bind λt43 =>
 (sf [] t43).bind λzs44 =>
 (sf zs44 [r1]).bind λzs47 =>
 (cut v0.1 d (v0.1.length:Int)).bind λt51 =>
 (sf zs47 t51).bind λzs52 =>
 some (zs52,t9.2))
def ko:FL:=(393,⟨[.val true uq false,.val true tv false],[.val true uq (some true)],λa=>eN a.1 a.2⟩)::kl
theorem oO:Gd ko:=rS oN 393 Tryz.f393 [(0,⟨⟨(7,false,[dI])::us 28 9 [],[]⟩,
 ⟨[(7,false,[dI])],[]⟩,none⟩)] Tryz.func393
def eO (v0:sR) (id1:Int):Option sR :=
 (dw v0).bind λt8 =>
 (aq v0 id1).bind λt11 =>
 cond (decide (t11>=0))
 ((cut v0.1 0 t11).bind λt17 =>
 (sf [] t17).bind λzs18 =>
 (cut v0.1 (rJ (t11+1)) (v0.1.length:Int)).bind λt23 =>
 (sf zs18 t23).bind λzs24 =>
 some (zs24,t8.2))
 (some t8)
def kq:FL:=(394,⟨[.val true uq false,.val false rQ false],[.val true uq (some true)],λa=>eO a.1 a.2⟩)::ko
theorem oP:Gd kq:=rS oO 394 Tryz.f394 [] Tryz.func394
def dL (p0:rI) (i1:Int) (a2:Int) (a3:Int):Option (rI×Int) :=
 (aq (p0.2.2.2.2.1,p0.2.2.2.2.2.1) a2).bind λt15 =>
 cond (i1==1)
 ((cond (a3==4) (some (decide (t15<0))) (some false)).bind λt24 =>
 (cond t24 (some (decide ((p0.2.2.2.2.1.length:Int)<6))) (some false)).bind λt33 =>
 cond t33
 ((eN (p0.2.2.2.2.1,p0.2.2.2.2.2.1) (a2,0,0)).bind λt41 =>
 some ((p0.1,p0.2.1,p0.2.2.1,p0.2.2.2.1,t41.1,t41.2,p0.2.2.2.2.2.2.1,p0.2.2.2.2.2.2.2.1,p0.2.2.2.2.2.2.2.2.1,p0.2.2.2.2.2.2.2.2.2.1,p0.2.2.2.2.2.2.2.2.2.2),0))
 ((cond (a3==6) (some (decide (t15>=0))) (some false)).bind λt50 =>
 cond t50
 ((eO (p0.2.2.2.2.1,p0.2.2.2.2.2.1) a2).bind λt57 =>
 some ((p0.1,p0.2.1,p0.2.2.1,p0.2.2.2.1,t57.1,t57.2,p0.2.2.2.2.2.2.1,p0.2.2.2.2.2.2.2.1,p0.2.2.2.2.2.2.2.2.1,p0.2.2.2.2.2.2.2.2.2.1,p0.2.2.2.2.2.2.2.2.2.2),0))
 (some (p0,2))))
 ((eE (p0.2.2.1.length:Int)).bind λt66 =>
 (ac a3 0 t66).bind λt67 =>
 cond (!t67)
 (some (p0,2))
 (cond (i1==2)
 ((ix p0.2.2.2.2.1.length t15).bind λj78 =>
 (p0.2.2.2.2.1[j78]?).bind λx =>
 some ((p0.1,p0.2.1,p0.2.2.1,p0.2.2.2.1,p0.2.2.2.2.1.set j78 (x.1,a3,x.2.2),p0.2.2.2.2.2.1,p0.2.2.2.2.2.2.1,p0.2.2.2.2.2.2.2.1,p0.2.2.2.2.2.2.2.2.1,p0.2.2.2.2.2.2.2.2.2.1,p0.2.2.2.2.2.2.2.2.2.2),0))
 ((ix p0.2.2.2.2.1.length t15).bind λj87 =>
 (p0.2.2.2.2.1[j87]?).bind λx_1 =>
 some ((p0.1,p0.2.1,p0.2.2.1,p0.2.2.2.1,p0.2.2.2.2.1.set j87 (x_1.1,x_1.2.1,a3),p0.2.2.2.2.2.1,p0.2.2.2.2.2.2.1,p0.2.2.2.2.2.2.2.1,p0.2.2.2.2.2.2.2.2.1,p0.2.2.2.2.2.2.2.2.2.1,p0.2.2.2.2.2.2.2.2.2.2),0))))
def kt:FL:=(390,⟨[.ptr s7 (some true),.val false rQ false,.val false rQ false,.val false rQ false],[.val false rQ (some true)],λa=>dL a.1 a.2.1 a.2.2.1 a.2.2.2⟩)::kq
theorem oQ:Gd kt:=rS oP 390 Tryz.f390 [] Tryz.func390
def eP (p0:rI) (i1:List Int) (a2:vl):Option (rI×Int) :=
 (at? i1 3).bind λx9 =>
 (cond (x9==1) (some (a2.1 != 4)) (some false)).bind λt17 =>
 (cond t17
 (some true)
 ((cond (!(x9==1)) (some (a2.1 != 2)) (some false)).bind λt25 =>
 some t25)).bind λt26 =>
 cond t26
 (some (p0,1))
 (cond (x9==1)
 (cond (decide ((a2.2.2.1.length:Int)>10))
 (some (p0,2))
 (some ((p0.1,a2.2.2.1,p0.2.2.1,p0.2.2.2.1,p0.2.2.2.2.1,p0.2.2.2.2.2.1,p0.2.2.2.2.2.2.1,p0.2.2.2.2.2.2.2.1,p0.2.2.2.2.2.2.2.2.1,p0.2.2.2.2.2.2.2.2.2.1,p0.2.2.2.2.2.2.2.2.2.2),0)))
 ((at? i1 3).bind λx52 =>
 cond (x52==3)
 ((at? i1 4).bind λx57 =>
 (at? i1 5).bind λx60 =>
 (dL p0 x57 x60 a2.2.1).bind λt64 =>
 some t64)
 ((at? i1 4).bind λx67 =>
 cond (x67==2)
 ((ac a2.2.1 1 1000).bind λt72 =>
 cond (!t72)
 (some (p0,2))
 ((at? i1 5).bind λx79 =>
 (ix p0.2.2.1.length (rJ (x79-1))).bind λj84 =>
 (p0.2.2.1[j84]?).bind λx =>
 some ((p0.1,p0.2.1,p0.2.2.1.set j84 (x.1,a2.2.1,x.2.2.1,x.2.2.2.1,x.2.2.2.2.1,x.2.2.2.2.2.1,x.2.2.2.2.2.2.1,x.2.2.2.2.2.2.2),p0.2.2.2.1,p0.2.2.2.2.1,p0.2.2.2.2.2.1,p0.2.2.2.2.2.2.1,p0.2.2.2.2.2.2.2.1,p0.2.2.2.2.2.2.2.2.1,p0.2.2.2.2.2.2.2.2.2.1,p0.2.2.2.2.2.2.2.2.2.2),0)))
 ((at? i1 5).bind λx33 =>
 (ix p0.2.2.2.2.2.1.length (rJ (x33-1))).bind λj38 =>
 (p0.2.2.2.2.2.1[j38]?).bind λx_1 =>
 some ((p0.1,p0.2.1,p0.2.2.1,p0.2.2.2.1,p0.2.2.2.2.1,p0.2.2.2.2.2.1.set j38 a2.2.1,p0.2.2.2.2.2.2.1,p0.2.2.2.2.2.2.2.1,p0.2.2.2.2.2.2.2.2.1,p0.2.2.2.2.2.2.2.2.2.1,p0.2.2.2.2.2.2.2.2.2.2),0)))))
def ku:FL:=(376,⟨[.ptr s7 (some true),.val false uw false,.val true wR false],[.val false rQ (some true)],λa=>eP a.1 a.2.1 a.2.2⟩)::kt
theorem oR:Gd ku:=rS oQ 376 Tryz.f376 [] Tryz.func376
def cA (l0:List rR) (tag1:Int) (mac2:Int) (t11:Int):Option (Int⊕(Unit⊕Int)) :=
 cond (decide (t11<(l0.length:Int)))
 ((at? l0 t11).bind λx14 =>
 (cond (x14.1==tag1) (some (x14.2.1==mac2)) (some false)).bind λt25 =>
 cond t25 (some (.inr (.inr t11))) (some (.inl (rJ (t11+1)))))
 (some (.inr (.inl ())))
def fV (l0:List rR) (tag1:Int) (mac2:Int):Option Int :=
 (loop (λz=>cA l0 tag1 mac2 z) 0).bind (Sum.elim (λd =>
 some (-1)) (λr=>some r))
def kv:FL:=(326,⟨[.val false (.one (.sl sr)) false,.val false rQ false,.val false rQ false],[.val false rQ (some true)],λa=>fV a.1 a.2.1 a.2.2⟩)::ku
theorem oS:Gd kv:=rS oR 326 Tryz.f326 [(0,⟨⟨(11,false,[dI])::us 21 4 [],[]⟩,
 ⟨[],[]⟩,some ⟨[(6,false,[dI])],[]⟩⟩)] Tryz.func326
def fW (b0:rI) (o1:List Int):Option Bool :=
 (aO o1 2 5 ([1]:List Int)).bind λt11 =>
 (cond t11
 (some true)
 ((aO o1 1 (b0.2.2.1.length:Int) ([2,1]:List Int)).bind λt16 =>
 some t16)).bind λt17 =>
 (cond t17
 (some true)
 ((aO o1 1 (b0.2.2.1.length:Int) ([2,3]:List Int)).bind λt22 =>
 some t22)).bind λt23 =>
 cond t23
 (some true)
 ((cond ((o1.length:Int)==7)
 ((cut o1 0 5).bind λt29 =>
 (aE t29 ([1,3,1,4,1]:List Int)).bind λt31 =>
 some t31)
 (some false)).bind λt32 =>
 (cond t32
 ((at? o1 5).bind λx37 =>
 (at? o1 6).bind λx40 =>
 (fV b0.2.2.2.1 x37 x40).bind λt42 =>
 some (decide (t42>=0)))
 (some false)).bind λt44 =>
 some t44)
def kw:FL:=(377,⟨[.val true s7 false,.val false uw false],[.val false sS (some true)],λa=>fW a.1 a.2⟩)::kv
theorem oT:Gd kw:=rS oS 377 Tryz.f377 [] Tryz.func377
def bG (b0:rI) (x1:rK):Option (rI×Int) :=
 (fT b0 x1.1).bind λt11 =>
 cond t11
 ((eP b0 x1.1 x1.2).bind λt17 =>
 some t17)
 ((fW b0 x1.1).bind λt24 =>
 cond t24 (some (b0,4)) (some (b0,3)))
def kz:FL:=(359,⟨[.ptr s7 (some true),.val true rX false],[.val false rQ (some true)],λa=>bG a.1 a.2⟩)::kw
theorem oU:Gd kz:=rS oT 359 Tryz.f359 [] Tryz.func359
def eQ (p0:rI) (t25:Int) (x28:rK) (t32:List rK) (t34:Int) (b0_2:Int) (b1_2:List UInt8) (b6_2:Int) (b7_2:Int) (b8_2:Int) (b9_2:Int) (b10_2:Int):Option ((Int×Int×List UInt8×Int×Int×Int×Int×Int)⊕((Int×List UInt8×Int×Int×Int×Int×Int)⊕(Int×Int×Int×List UInt8×Int×Int×Int×Int×Int×List Pt×List rR×List s5×List Int))) :=
 cond (decide (t34<(t32.length:Int)))
 ((at? t32 t34).bind λx36 =>
 (aE x28.1 x36.1).bind λt42 =>
 cond t42
 ((ar p0).bind λt44 =>
 some (.inr (.inr (5,rJ (t25+1),t44.1,t44.2.1,t44.2.2.2.2.2.2.1,t44.2.2.2.2.2.2.2.1,t44.2.2.2.2.2.2.2.2.1,t44.2.2.2.2.2.2.2.2.2.1,t44.2.2.2.2.2.2.2.2.2.2,t44.2.2.1,t44.2.2.2.1,t44.2.2.2.2.1,t44.2.2.2.2.2.1))))
 (some (.inl (rJ (t34+1),b0_2,b1_2,b6_2,b7_2,b8_2,b9_2,b10_2))))
 (some (.inr (.inl (b0_2,b1_2,b6_2,b7_2,b8_2,b9_2,b10_2))))
def fX (p0:rI) (i1:List rK) (t25:Int) (b0:Int) (b1:List UInt8) (b6:Int) (b7:Int) (b8:Int) (b9:Int) (b10:Int) (b0_1:Int) (b1_1:List UInt8) (b6_1:Int) (b7_1:Int) (b8_1:Int) (b9_1:Int) (b10_1:Int) (b2:List Pt) (b3:List rR) (b4:List s5) (b5:List Int) (b2_1:List Pt) (b3_1:List rR) (b4_1:List s5) (b5_1:List Int):Option ((Int×Int×List UInt8×Int×Int×Int×Int×Int×Int×List UInt8×Int×Int×Int×Int×Int×List Pt×List rR×List s5×List Int×List Pt×List rR×List s5×List Int)⊕((Int×List UInt8×Int×Int×Int×Int×Int×Int×List UInt8×Int×Int×Int×Int×Int×List Pt×List rR×List s5×List Int×List Pt×List rR×List s5×List Int)⊕(Int×Int×Int×List UInt8×Int×Int×Int×Int×Int×List Pt×List rR×List s5×List Int))) :=
 cond (decide (t25<(i1.length:Int)))
 ((at? i1 t25).bind λx28 =>
 (cut i1 0 t25).bind λt32 =>
 (loop (λz=>eQ p0 t25 x28 t32 z.1 z.2.1 z.2.2.1 z.2.2.2.1 z.2.2.2.2.1 z.2.2.2.2.2.1 z.2.2.2.2.2.2.1 z.2.2.2.2.2.2.2) (0,b0,b1,b6,b7,b8,b9,b10)).bind (Sum.elim (λd =>
 (bG (b0_1,b1_1,b2_1,b3_1,b4_1,b5_1,b6_1,b7_1,b8_1,b9_1,b10_1) x28).bind λt49 =>
 cond (t49.2 != 0)
 ((ar p0).bind λt53 =>
 some (.inr (.inr (t49.2,rJ (t25+1),t53.1,t53.2.1,t53.2.2.2.2.2.2.1,t53.2.2.2.2.2.2.2.1,t53.2.2.2.2.2.2.2.2.1,t53.2.2.2.2.2.2.2.2.2.1,t53.2.2.2.2.2.2.2.2.2.2,t53.2.2.1,t53.2.2.2.1,t53.2.2.2.2.1,t53.2.2.2.2.2.1))))
 (some (.inl (rJ (t25+1),d.1,d.2.1,d.2.2.1,d.2.2.2.1,d.2.2.2.2.1,d.2.2.2.2.2.1,d.2.2.2.2.2.2,t49.1.1,t49.1.2.1,t49.1.2.2.2.2.2.2.1,t49.1.2.2.2.2.2.2.2.1,t49.1.2.2.2.2.2.2.2.2.1,t49.1.2.2.2.2.2.2.2.2.2.1,t49.1.2.2.2.2.2.2.2.2.2.2,b2,b3,b4,b5,t49.1.2.2.1,t49.1.2.2.2.1,t49.1.2.2.2.2.1,t49.1.2.2.2.2.2.1)))) (λr=>some (.inr (.inr r)))))
 (some (.inr (.inl (b0,b1,b6,b7,b8,b9,b10,b0_1,b1_1,b6_1,b7_1,b8_1,b9_1,b10_1,b2,b3,b4,b5,b2_1,b3_1,b4_1,b5_1))))
def dM (p0:rI) (i1:List rK):Option (rI×Int×Int) :=
 (ar p0).bind λt14 =>
 cond ((i1.length:Int)==0)
 (some (t14,0,0))
 ((bx p0).bind λt20 =>
 cond (!t20)
 (some (t14,3,1))
 ((loop (λz=>fX p0 i1 z.1 z.2.1 z.2.2.1 z.2.2.2.1 z.2.2.2.2.1 z.2.2.2.2.2.1 z.2.2.2.2.2.2.1 z.2.2.2.2.2.2.2.1 z.2.2.2.2.2.2.2.2.1 z.2.2.2.2.2.2.2.2.2.1 z.2.2.2.2.2.2.2.2.2.2.1 z.2.2.2.2.2.2.2.2.2.2.2.1 z.2.2.2.2.2.2.2.2.2.2.2.2.1 z.2.2.2.2.2.2.2.2.2.2.2.2.2.1 z.2.2.2.2.2.2.2.2.2.2.2.2.2.2.1 z.2.2.2.2.2.2.2.2.2.2.2.2.2.2.2.1 z.2.2.2.2.2.2.2.2.2.2.2.2.2.2.2.2.1 z.2.2.2.2.2.2.2.2.2.2.2.2.2.2.2.2.2.1 z.2.2.2.2.2.2.2.2.2.2.2.2.2.2.2.2.2.2.1 z.2.2.2.2.2.2.2.2.2.2.2.2.2.2.2.2.2.2.2.1 z.2.2.2.2.2.2.2.2.2.2.2.2.2.2.2.2.2.2.2.2.1 z.2.2.2.2.2.2.2.2.2.2.2.2.2.2.2.2.2.2.2.2.2.1 z.2.2.2.2.2.2.2.2.2.2.2.2.2.2.2.2.2.2.2.2.2.2) (0,0,[],0,0,0,0,0,t14.1,t14.2.1,t14.2.2.2.2.2.2.1,t14.2.2.2.2.2.2.2.1,t14.2.2.2.2.2.2.2.2.1,t14.2.2.2.2.2.2.2.2.2.1,t14.2.2.2.2.2.2.2.2.2.2,[],[],[],[],t14.2.2.1,t14.2.2.2.1,t14.2.2.2.2.1,t14.2.2.2.2.2.1)).bind (Sum.elim (λd_1 =>
 (dC d_1.2.2.2.2.2.2.2.2.2.2.2.2.2.2.2.2.2.2.2.2 (d_1.2.2.2.2.2.2.2.2.2.2.2.2.2.2.2.2.2.2.1.length:Int)).bind λt63 =>
 cond (!t63)
 ((ar p0).bind λt66 =>
 some (t66,5,(i1.length:Int)))
 ((bE (d_1.2.2.2.2.2.2.2.1,d_1.2.2.2.2.2.2.2.2.1,d_1.2.2.2.2.2.2.2.2.2.2.2.2.2.2.2.2.2.2.1,d_1.2.2.2.2.2.2.2.2.2.2.2.2.2.2.2.2.2.2.2.1,d_1.2.2.2.2.2.2.2.2.2.2.2.2.2.2.2.2.2.2.2.2.1,d_1.2.2.2.2.2.2.2.2.2.2.2.2.2.2.2.2.2.2.2.2.2,d_1.2.2.2.2.2.2.2.2.2.1,d_1.2.2.2.2.2.2.2.2.2.2.1,d_1.2.2.2.2.2.2.2.2.2.2.2.1,d_1.2.2.2.2.2.2.2.2.2.2.2.2.1,d_1.2.2.2.2.2.2.2.2.2.2.2.2.2.1)).bind λt69 =>
 some (t69,0,0))) (λr_1=>some ((r_1.2.2.1,r_1.2.2.2.1,r_1.2.2.2.2.2.2.2.2.2.1,r_1.2.2.2.2.2.2.2.2.2.2.1,r_1.2.2.2.2.2.2.2.2.2.2.2.1,r_1.2.2.2.2.2.2.2.2.2.2.2.2,r_1.2.2.2.2.1,r_1.2.2.2.2.2.1,r_1.2.2.2.2.2.2.1,r_1.2.2.2.2.2.2.2.1,r_1.2.2.2.2.2.2.2.2.1),r_1.1,r_1.2.1)))))
def kA:FL:=(322,⟨[.val true s7 false,.val false (.one (.sl rX)) false],[.val true s7 (some true),.val false rQ (some true),.val false rQ (some true)],λa=>dM a.1 a.2⟩)::kz
theorem oV:Gd kA:=rS oU 322 Tryz.f322 [(0,⟨⟨[(25,false,[dI])],[(2048,.box [dI,dS,.own 1000000000,.own 1000000001,.own 1000000002,.own 1000000003,dI,dI,dI,dI,dI]),(265216,.box [dI,dS,.own 1000000004,.own 1000000005,.own 1000000006,.own 1000000007,dI,dI,dI,dI,dI]),(1000000000,.root uG true),(1000000001,.root sr true),(1000000002,.root tv true),(1000000003,.root rQ true),(1000000004,.root uG true),(1000000005,.root sr true),(1000000006,.root tv true),(1000000007,.root rQ true)]⟩,
 ⟨[],[(2048,.box [dI,dS,.own 1000000300,.own 1000000301,.own 1000000302,.own 1000000303,dI,dI,dI,dI,dI]),(265216,.box [dI,dS,.own 1000000304,.own 1000000305,.own 1000000306,.own 1000000307,dI,dI,dI,dI,dI]),(1000000300,.root uG true),(1000000301,.root sr true),(1000000302,.root tv true),(1000000303,.root rQ true),(1000000304,.root uG true),(1000000305,.root sr true),(1000000306,.root tv true),(1000000307,.root rQ true)]⟩,some ⟨[(5,false,[dI]),(6,false,[dI])],[(2048,.box [dI,dS,.own 1000000600,.own 1000000601,.own 1000000602,.own 1000000603,dI,dI,dI,dI,dI]),(1000000600,.root uG true),(1000000601,.root sr true),(1000000602,.root tv true),(1000000603,.root rQ true)]⟩⟩),
 (2,⟨⟨[(34,false,[dI])],[(2048,.box [dI,dS,.same 1000000000,.same 1000000001,.same 1000000002,.same 1000000003,dI,dI,dI,dI,dI])]⟩,
 ⟨[],[(2048,.box [dI,dS,.same 1000000000,.same 1000000001,.same 1000000002,.same 1000000003,dI,dI,dI,dI,dI])]⟩,some ⟨[(5,false,[dI]),(6,false,[dI])],[(2048,.box [dI,dS,.own 1000002600,.own 1000002601,.own 1000002602,.own 1000002603,dI,dI,dI,dI,dI]),(1000002600,.root uG true),(1000002601,.root sr true),(1000002602,.root tv true),(1000002603,.root rQ true)]⟩⟩)] Tryz.func322
def aP (p0:sj):Option Bool :=
 (ez p0).bind λt4 =>
 (ac (t4.length:Int) 1 120).bind λt6 =>
 some t6
def kB:FL:=(323,⟨[.val true ud false],[.val false sS (some true)],λa=>aP a⟩)::kA
theorem oW:Gd kB:=rS oV 323 Tryz.f323 [] Tryz.func323
def eR (p0:rI) (i1:sj) (t54:Int) (b0:Int) (b1:Int) (b2:Int) (b3:Int) (b4:List rK):Option ((Int×Int×Int×Int×Int×List rK)⊕(Int×Int×Int×Int×List rK)) :=
 cond (decide (t54<(i1.2.2.2.2.length:Int)))
 ((at? i1.2.2.2.2 t54).bind λx56 =>
 (aX x56.1).bind λt62 =>
 (bY p0 x56.1).bind λt66 =>
 (sf b4 [(t62,t66.1,t66.2.1,t66.2.2.1,t66.2.2.2)]).bind λzs69 =>
 some (.inl (rJ (t54+1),b0,b1,b2,b3,zs69)))
 (some (.inr (b0,b1,b2,b3,b4)))
def kC (i1:sj) (b0_2:Int) (b1_2:List UInt8) (b6:Int) (b7:Int) (b8:Int) (b9:Int) (b10:Int) (b0_3:Int) (b1_3:Int) (b2_2:Int) (b3_2:Int) (b0_4:Int) (b1_4:List UInt8) (b6_1:Int) (b7_1:Int) (b8_1:Int) (b9_1:Int) (b10_1:Int) (b0_5:Int) (b1_5:Int) (b2_3:Int) (b3_3:Int) (b2_4:List Pt) (b3_4:List rR) (b4_2:List s5) (b5:List Int) (b4_3:List rK) (b2_5:List Pt) (b3_5:List rR) (b4_4:List s5) (b5_1:List Int) (b4_5:List rK):Option ((Int×List UInt8×Int×Int×Int×Int×Int×Int×Int×Int×Int×Int×List UInt8×Int×Int×Int×Int×Int×Int×Int×Int×Int×List Pt×List rR×List s5×List Int×List rK×List Pt×List rR×List s5×List Int×List rK)⊕((Int×List UInt8×Int×Int×Int×Int×Int×Int×Int×Int×Int×Int×List UInt8×Int×Int×Int×Int×Int×Int×Int×Int×Int×List Pt×List rR×List s5×List Int×List rK×List Pt×List rR×List s5×List Int×List rK)⊕(Bool×Int×List UInt8×Int×Int×Int×Int×Int×Int×Int×Int×Int×List Pt×List rR×List s5×List Int×List rK))) :=
 (cond (i1.1==165) (some (decide ((b4_5.length:Int)>0))) (some false)).bind λt109 =>
 cond t109
 ((tF b4_5.length 0 (rJ ((b4_5.length:Int)-1))).bind λp =>
 (aP (b0_5,b1_5,b2_3,b3_3,(b4_5.take p.2).drop p.1)).bind λt119 =>
 cond t119
 (some (.inr (.inr (true,b0_4,b1_4,b6_1,b7_1,b8_1,b9_1,b10_1,b0_5,b1_5,b2_3,b3_3,b2_5,b3_5,b4_4,b5_1,(b4_5.take p.2).drop p.1))))
 (some (.inl (b0_2,b1_2,b6,b7,b8,b9,b10,b0_3,b1_3,b2_2,b3_2,b0_4,b1_4,b6_1,b7_1,b8_1,b9_1,b10_1,b0_5,b1_5,b2_3,b3_3,b2_4,b3_4,b4_2,b5,b4_3,b2_5,b3_5,b4_4,b5_1,(b4_5.take p.2).drop p.1))))
 (some (.inr (.inl (b0_2,b1_2,b6,b7,b8,b9,b10,b0_3,b1_3,b2_2,b3_2,b0_4,b1_4,b6_1,b7_1,b8_1,b9_1,b10_1,b0_5,b1_5,b2_3,b3_3,b2_4,b3_4,b4_2,b5,b4_3,b2_5,b3_5,b4_4,b5_1,b4_5))))
def eS (p0:rI) (i1:sj) (t77:Int) (b0_10:Int) (b1_10:Int) (b2_10:Int) (b3_10:Int) (b4_10:List rK):Option ((Int×Int×Int×Int×Int×List rK)⊕(Int×Int×Int×Int×List rK)) :=
 cond (decide (t77<(i1.2.2.2.2.length:Int)))
 ((at? i1.2.2.2.2 t77).bind λx79 =>
 (aZ p0 x79.1).bind λt86 =>
 (sf b4_10 [t86]).bind λzs88 =>
 some (.inl (rJ (t77+1),b0_10,b1_10,b2_10,b3_10,zs88)))
 (some (.inr (b0_10,b1_10,b2_10,b3_10,b4_10)))
def kD (i1:sj) (b0_12:Int) (b1_12:List UInt8) (b6_4:Int) (b7_4:Int) (b8_4:Int) (b9_4:Int) (b10_4:Int) (b0_13:Int) (b1_13:Int) (b2_12:Int) (b3_12:Int) (b0_14:Int) (b1_14:List UInt8) (b6_5:Int) (b7_5:Int) (b8_5:Int) (b9_5:Int) (b10_5:Int) (b0_15:Int) (b1_15:Int) (b2_13:Int) (b3_13:Int) (b2_14:List Pt) (b3_14:List rR) (b4_12:List s5) (b5_4:List Int) (b4_13:List rK) (b2_15:List Pt) (b3_15:List rR) (b4_14:List s5) (b5_5:List Int) (b4_15:List rK):Option ((Int×List UInt8×Int×Int×Int×Int×Int×Int×Int×Int×Int×Int×List UInt8×Int×Int×Int×Int×Int×Int×Int×Int×Int×List Pt×List rR×List s5×List Int×List rK×List Pt×List rR×List s5×List Int×List rK)⊕((Int×List UInt8×Int×Int×Int×Int×Int×Int×Int×Int×Int×Int×List UInt8×Int×Int×Int×Int×Int×Int×Int×Int×Int×List Pt×List rR×List s5×List Int×List rK×List Pt×List rR×List s5×List Int×List rK)⊕(Bool×Int×List UInt8×Int×Int×Int×Int×Int×Int×Int×Int×Int×List Pt×List rR×List s5×List Int×List rK))) :=
 (cond (i1.1==165) (some (decide ((b4_15.length:Int)>0))) (some false)).bind λt109_1 =>
 cond t109_1
 ((tF b4_15.length 0 (rJ ((b4_15.length:Int)-1))).bind λp_1 =>
 (aP (b0_15,b1_15,b2_13,b3_13,(b4_15.take p_1.2).drop p_1.1)).bind λt119_1 =>
 cond t119_1
 (some (.inr (.inr (true,b0_14,b1_14,b6_5,b7_5,b8_5,b9_5,b10_5,b0_15,b1_15,b2_13,b3_13,b2_15,b3_15,b4_14,b5_5,(b4_15.take p_1.2).drop p_1.1))))
 (some (.inl (b0_12,b1_12,b6_4,b7_4,b8_4,b9_4,b10_4,b0_13,b1_13,b2_12,b3_12,b0_14,b1_14,b6_5,b7_5,b8_5,b9_5,b10_5,b0_15,b1_15,b2_13,b3_13,b2_14,b3_14,b4_12,b5_4,b4_13,b2_15,b3_15,b4_14,b5_5,(b4_15.take p_1.2).drop p_1.1))))
 (some (.inr (.inl (b0_12,b1_12,b6_4,b7_4,b8_4,b9_4,b10_4,b0_13,b1_13,b2_12,b3_12,b0_14,b1_14,b6_5,b7_5,b8_5,b9_5,b10_5,b0_15,b1_15,b2_13,b3_13,b2_14,b3_14,b4_12,b5_4,b4_13,b2_15,b3_15,b4_14,b5_5,b4_15))))
def eT (i1:sj) (b0_20:Int) (b1_20:List UInt8) (b6_8:Int) (b7_8:Int) (b8_8:Int) (b9_8:Int) (b10_8:Int) (b0_21:Int) (b1_21:Int) (b2_20:Int) (b3_20:Int) (b0_22:Int) (b1_22:List UInt8) (b6_9:Int) (b7_9:Int) (b8_9:Int) (b9_9:Int) (b10_9:Int) (b0_23:Int) (b1_23:Int) (b2_21:Int) (b3_21:Int) (b2_22:List Pt) (b3_22:List rR) (b4_20:List s5) (b5_8:List Int) (b4_21:List rK) (b2_23:List Pt) (b3_23:List rR) (b4_22:List s5) (b5_9:List Int) (b4_23:List rK):Option ((Int×List UInt8×Int×Int×Int×Int×Int×Int×Int×Int×Int×Int×List UInt8×Int×Int×Int×Int×Int×Int×Int×Int×Int×List Pt×List rR×List s5×List Int×List rK×List Pt×List rR×List s5×List Int×List rK)⊕((Int×List UInt8×Int×Int×Int×Int×Int×Int×Int×Int×Int×Int×List UInt8×Int×Int×Int×Int×Int×Int×Int×Int×Int×List Pt×List rR×List s5×List Int×List rK×List Pt×List rR×List s5×List Int×List rK)⊕(Bool×Int×List UInt8×Int×Int×Int×Int×Int×Int×Int×Int×Int×List Pt×List rR×List s5×List Int×List rK))) :=
 (cond (i1.1==165) (some (decide ((b4_23.length:Int)>0))) (some false)).bind λt109_2 =>
 cond t109_2
 ((tF b4_23.length 0 (rJ ((b4_23.length:Int)-1))).bind λp_2 =>
 (aP (b0_23,b1_23,b2_21,b3_21,(b4_23.take p_2.2).drop p_2.1)).bind λt119_2 =>
 cond t119_2
 (some (.inr (.inr (true,b0_22,b1_22,b6_9,b7_9,b8_9,b9_9,b10_9,b0_23,b1_23,b2_21,b3_21,b2_23,b3_23,b4_22,b5_9,(b4_23.take p_2.2).drop p_2.1))))
 (some (.inl (b0_20,b1_20,b6_8,b7_8,b8_8,b9_8,b10_8,b0_21,b1_21,b2_20,b3_20,b0_22,b1_22,b6_9,b7_9,b8_9,b9_9,b10_9,b0_23,b1_23,b2_21,b3_21,b2_22,b3_22,b4_20,b5_8,b4_21,b2_23,b3_23,b4_22,b5_9,(b4_23.take p_2.2).drop p_2.1))))
 (some (.inr (.inl (b0_20,b1_20,b6_8,b7_8,b8_8,b9_8,b10_8,b0_21,b1_21,b2_20,b3_20,b0_22,b1_22,b6_9,b7_9,b8_9,b9_9,b10_9,b0_23,b1_23,b2_21,b3_21,b2_22,b3_22,b4_20,b5_8,b4_21,b2_23,b3_23,b4_22,b5_9,b4_23))))
def kE (i1:sj) (b0_28:Int) (b1_28:List UInt8) (b6_12:Int) (b7_12:Int) (b8_12:Int) (b9_12:Int) (b10_12:Int) (b0_29:Int) (b1_29:Int) (b2_28:Int) (b3_28:Int) (b0_30:Int) (b1_30:List UInt8) (b6_13:Int) (b7_13:Int) (b8_13:Int) (b9_13:Int) (b10_13:Int) (b0_31:Int) (b1_31:Int) (b2_29:Int) (b3_29:Int) (b2_30:List Pt) (b3_30:List rR) (b4_28:List s5) (b5_12:List Int) (b4_29:List rK) (b2_31:List Pt) (b3_31:List rR) (b4_30:List s5) (b5_13:List Int) (b4_31:List rK):Option ((Int×List UInt8×Int×Int×Int×Int×Int×Int×Int×Int×Int×Int×List UInt8×Int×Int×Int×Int×Int×Int×Int×Int×Int×List Pt×List rR×List s5×List Int×List rK×List Pt×List rR×List s5×List Int×List rK)⊕((Int×List UInt8×Int×Int×Int×Int×Int×Int×Int×Int×Int×Int×List UInt8×Int×Int×Int×Int×Int×Int×Int×Int×Int×List Pt×List rR×List s5×List Int×List rK×List Pt×List rR×List s5×List Int×List rK)⊕(Bool×Int×List UInt8×Int×Int×Int×Int×Int×Int×Int×Int×Int×List Pt×List rR×List s5×List Int×List rK))) :=
 (cond (i1.1==165) (some (decide ((b4_31.length:Int)>0))) (some false)).bind λt109_3 =>
 cond t109_3
 ((tF b4_31.length 0 (rJ ((b4_31.length:Int)-1))).bind λp_3 =>
 (aP (b0_31,b1_31,b2_29,b3_29,(b4_31.take p_3.2).drop p_3.1)).bind λt119_3 =>
 cond t119_3
 (some (.inr (.inr (true,b0_30,b1_30,b6_13,b7_13,b8_13,b9_13,b10_13,b0_31,b1_31,b2_29,b3_29,b2_31,b3_31,b4_30,b5_13,(b4_31.take p_3.2).drop p_3.1))))
 (some (.inl (b0_28,b1_28,b6_12,b7_12,b8_12,b9_12,b10_12,b0_29,b1_29,b2_28,b3_28,b0_30,b1_30,b6_13,b7_13,b8_13,b9_13,b10_13,b0_31,b1_31,b2_29,b3_29,b2_30,b3_30,b4_28,b5_12,b4_29,b2_31,b3_31,b4_30,b5_13,(b4_31.take p_3.2).drop p_3.1))))
 (some (.inr (.inl (b0_28,b1_28,b6_12,b7_12,b8_12,b9_12,b10_12,b0_29,b1_29,b2_28,b3_28,b0_30,b1_30,b6_13,b7_13,b8_13,b9_13,b10_13,b0_31,b1_31,b2_29,b3_29,b2_30,b3_30,b4_28,b5_12,b4_29,b2_31,b3_31,b4_30,b5_13,b4_31))))
def cB (p0:rI) (i1:sj):Option (rI×sj×Bool) :=
 (ar p0).bind λt14 =>
 (bx p0).bind λt16 =>
 (cond (!t16)
 (some true)
 ((cr i1).bind λt20 =>
 some (!t20))).bind λt22 =>
 (cond t22 (some true) (some (i1.1==162))).bind λt27 =>
 cond t27
 (some (t14,(0,0,0,0,[]),false))
 (cond (i1.1==160)
 ((loop (λz=>eR p0 i1 z.1 z.2.1 z.2.2.1 z.2.2.2.1 z.2.2.2.2.1 z.2.2.2.2.2) (0,162,i1.2.1,0,0,[])).bind λd =>
 (aP d).bind λt98 =>
 cond t98
 (some (t14,d,true))
 ((loop (λz=>kC i1 z.1 z.2.1 z.2.2.1 z.2.2.2.1 z.2.2.2.2.1 z.2.2.2.2.2.1 z.2.2.2.2.2.2.1 z.2.2.2.2.2.2.2.1 z.2.2.2.2.2.2.2.2.1 z.2.2.2.2.2.2.2.2.2.1 z.2.2.2.2.2.2.2.2.2.2.1 z.2.2.2.2.2.2.2.2.2.2.2.1 z.2.2.2.2.2.2.2.2.2.2.2.2.1 z.2.2.2.2.2.2.2.2.2.2.2.2.2.1 z.2.2.2.2.2.2.2.2.2.2.2.2.2.2.1 z.2.2.2.2.2.2.2.2.2.2.2.2.2.2.2.1 z.2.2.2.2.2.2.2.2.2.2.2.2.2.2.2.2.1 z.2.2.2.2.2.2.2.2.2.2.2.2.2.2.2.2.2.1 z.2.2.2.2.2.2.2.2.2.2.2.2.2.2.2.2.2.2.1 z.2.2.2.2.2.2.2.2.2.2.2.2.2.2.2.2.2.2.2.1 z.2.2.2.2.2.2.2.2.2.2.2.2.2.2.2.2.2.2.2.2.1 z.2.2.2.2.2.2.2.2.2.2.2.2.2.2.2.2.2.2.2.2.2.1 z.2.2.2.2.2.2.2.2.2.2.2.2.2.2.2.2.2.2.2.2.2.2.1 z.2.2.2.2.2.2.2.2.2.2.2.2.2.2.2.2.2.2.2.2.2.2.2.1 z.2.2.2.2.2.2.2.2.2.2.2.2.2.2.2.2.2.2.2.2.2.2.2.2.1 z.2.2.2.2.2.2.2.2.2.2.2.2.2.2.2.2.2.2.2.2.2.2.2.2.2.1 z.2.2.2.2.2.2.2.2.2.2.2.2.2.2.2.2.2.2.2.2.2.2.2.2.2.2.1 z.2.2.2.2.2.2.2.2.2.2.2.2.2.2.2.2.2.2.2.2.2.2.2.2.2.2.2.1 z.2.2.2.2.2.2.2.2.2.2.2.2.2.2.2.2.2.2.2.2.2.2.2.2.2.2.2.2.1 z.2.2.2.2.2.2.2.2.2.2.2.2.2.2.2.2.2.2.2.2.2.2.2.2.2.2.2.2.2.1 z.2.2.2.2.2.2.2.2.2.2.2.2.2.2.2.2.2.2.2.2.2.2.2.2.2.2.2.2.2.2.1 z.2.2.2.2.2.2.2.2.2.2.2.2.2.2.2.2.2.2.2.2.2.2.2.2.2.2.2.2.2.2.2) (0,[],0,0,0,0,0,0,0,0,0,t14.1,t14.2.1,t14.2.2.2.2.2.2.1,t14.2.2.2.2.2.2.2.1,t14.2.2.2.2.2.2.2.2.1,t14.2.2.2.2.2.2.2.2.2.1,t14.2.2.2.2.2.2.2.2.2.2,d.1,d.2.1,d.2.2.1,d.2.2.2.1,[],[],[],[],[],t14.2.2.1,t14.2.2.2.1,t14.2.2.2.2.1,t14.2.2.2.2.2.1,d.2.2.2.2)).bind (Sum.elim (λd_1 =>
 (ar p0).bind λt123 =>
 some (t123,(162,i1.2.1,7,0,[]),true)) (λr=>some ((r.2.1,r.2.2.1,r.2.2.2.2.2.2.2.2.2.2.2.2.1,r.2.2.2.2.2.2.2.2.2.2.2.2.2.1,r.2.2.2.2.2.2.2.2.2.2.2.2.2.2.1,r.2.2.2.2.2.2.2.2.2.2.2.2.2.2.2.1,r.2.2.2.1,r.2.2.2.2.1,r.2.2.2.2.2.1,r.2.2.2.2.2.2.1,r.2.2.2.2.2.2.2.1),(r.2.2.2.2.2.2.2.2.1,r.2.2.2.2.2.2.2.2.2.1,r.2.2.2.2.2.2.2.2.2.2.1,r.2.2.2.2.2.2.2.2.2.2.2.1,r.2.2.2.2.2.2.2.2.2.2.2.2.2.2.2.2),r.1)))))
 (cond (i1.1==161)
 ((loop (λz=>eS p0 i1 z.1 z.2.1 z.2.2.1 z.2.2.2.1 z.2.2.2.2.1 z.2.2.2.2.2) (0,162,i1.2.1,0,0,[])).bind λd_2 =>
 (aP d_2).bind λt98_1 =>
 cond t98_1
 (some (t14,d_2,true))
 ((loop (λz=>kD i1 z.1 z.2.1 z.2.2.1 z.2.2.2.1 z.2.2.2.2.1 z.2.2.2.2.2.1 z.2.2.2.2.2.2.1 z.2.2.2.2.2.2.2.1 z.2.2.2.2.2.2.2.2.1 z.2.2.2.2.2.2.2.2.2.1 z.2.2.2.2.2.2.2.2.2.2.1 z.2.2.2.2.2.2.2.2.2.2.2.1 z.2.2.2.2.2.2.2.2.2.2.2.2.1 z.2.2.2.2.2.2.2.2.2.2.2.2.2.1 z.2.2.2.2.2.2.2.2.2.2.2.2.2.2.1 z.2.2.2.2.2.2.2.2.2.2.2.2.2.2.2.1 z.2.2.2.2.2.2.2.2.2.2.2.2.2.2.2.2.1 z.2.2.2.2.2.2.2.2.2.2.2.2.2.2.2.2.2.1 z.2.2.2.2.2.2.2.2.2.2.2.2.2.2.2.2.2.2.1 z.2.2.2.2.2.2.2.2.2.2.2.2.2.2.2.2.2.2.2.1 z.2.2.2.2.2.2.2.2.2.2.2.2.2.2.2.2.2.2.2.2.1 z.2.2.2.2.2.2.2.2.2.2.2.2.2.2.2.2.2.2.2.2.2.1 z.2.2.2.2.2.2.2.2.2.2.2.2.2.2.2.2.2.2.2.2.2.2.1 z.2.2.2.2.2.2.2.2.2.2.2.2.2.2.2.2.2.2.2.2.2.2.2.1 z.2.2.2.2.2.2.2.2.2.2.2.2.2.2.2.2.2.2.2.2.2.2.2.2.1 z.2.2.2.2.2.2.2.2.2.2.2.2.2.2.2.2.2.2.2.2.2.2.2.2.2.1 z.2.2.2.2.2.2.2.2.2.2.2.2.2.2.2.2.2.2.2.2.2.2.2.2.2.2.1 z.2.2.2.2.2.2.2.2.2.2.2.2.2.2.2.2.2.2.2.2.2.2.2.2.2.2.2.1 z.2.2.2.2.2.2.2.2.2.2.2.2.2.2.2.2.2.2.2.2.2.2.2.2.2.2.2.2.1 z.2.2.2.2.2.2.2.2.2.2.2.2.2.2.2.2.2.2.2.2.2.2.2.2.2.2.2.2.2.1 z.2.2.2.2.2.2.2.2.2.2.2.2.2.2.2.2.2.2.2.2.2.2.2.2.2.2.2.2.2.2.1 z.2.2.2.2.2.2.2.2.2.2.2.2.2.2.2.2.2.2.2.2.2.2.2.2.2.2.2.2.2.2.2) (0,[],0,0,0,0,0,0,0,0,0,t14.1,t14.2.1,t14.2.2.2.2.2.2.1,t14.2.2.2.2.2.2.2.1,t14.2.2.2.2.2.2.2.2.1,t14.2.2.2.2.2.2.2.2.2.1,t14.2.2.2.2.2.2.2.2.2.2,d_2.1,d_2.2.1,d_2.2.2.1,d_2.2.2.2.1,[],[],[],[],[],t14.2.2.1,t14.2.2.2.1,t14.2.2.2.2.1,t14.2.2.2.2.2.1,d_2.2.2.2.2)).bind (Sum.elim (λd_3 =>
 (ar p0).bind λt123_1 =>
 some (t123_1,(162,i1.2.1,7,0,[]),true)) (λr_1=>some ((r_1.2.1,r_1.2.2.1,r_1.2.2.2.2.2.2.2.2.2.2.2.2.1,r_1.2.2.2.2.2.2.2.2.2.2.2.2.2.1,r_1.2.2.2.2.2.2.2.2.2.2.2.2.2.2.1,r_1.2.2.2.2.2.2.2.2.2.2.2.2.2.2.2.1,r_1.2.2.2.1,r_1.2.2.2.2.1,r_1.2.2.2.2.2.1,r_1.2.2.2.2.2.2.1,r_1.2.2.2.2.2.2.2.1),(r_1.2.2.2.2.2.2.2.2.1,r_1.2.2.2.2.2.2.2.2.2.1,r_1.2.2.2.2.2.2.2.2.2.2.1,r_1.2.2.2.2.2.2.2.2.2.2.2.1,r_1.2.2.2.2.2.2.2.2.2.2.2.2.2.2.2.2),r_1.1)))))
 (cond (i1.1==165)
 ((fO p0 i1).bind λt95 =>
 (aP (162,i1.2.1,0,0,t95)).bind λt98_2 =>
 cond t98_2
 (some (t14,(162,i1.2.1,0,0,t95),true))
 ((loop (λz=>eT i1 z.1 z.2.1 z.2.2.1 z.2.2.2.1 z.2.2.2.2.1 z.2.2.2.2.2.1 z.2.2.2.2.2.2.1 z.2.2.2.2.2.2.2.1 z.2.2.2.2.2.2.2.2.1 z.2.2.2.2.2.2.2.2.2.1 z.2.2.2.2.2.2.2.2.2.2.1 z.2.2.2.2.2.2.2.2.2.2.2.1 z.2.2.2.2.2.2.2.2.2.2.2.2.1 z.2.2.2.2.2.2.2.2.2.2.2.2.2.1 z.2.2.2.2.2.2.2.2.2.2.2.2.2.2.1 z.2.2.2.2.2.2.2.2.2.2.2.2.2.2.2.1 z.2.2.2.2.2.2.2.2.2.2.2.2.2.2.2.2.1 z.2.2.2.2.2.2.2.2.2.2.2.2.2.2.2.2.2.1 z.2.2.2.2.2.2.2.2.2.2.2.2.2.2.2.2.2.2.1 z.2.2.2.2.2.2.2.2.2.2.2.2.2.2.2.2.2.2.2.1 z.2.2.2.2.2.2.2.2.2.2.2.2.2.2.2.2.2.2.2.2.1 z.2.2.2.2.2.2.2.2.2.2.2.2.2.2.2.2.2.2.2.2.2.1 z.2.2.2.2.2.2.2.2.2.2.2.2.2.2.2.2.2.2.2.2.2.2.1 z.2.2.2.2.2.2.2.2.2.2.2.2.2.2.2.2.2.2.2.2.2.2.2.1 z.2.2.2.2.2.2.2.2.2.2.2.2.2.2.2.2.2.2.2.2.2.2.2.2.1 z.2.2.2.2.2.2.2.2.2.2.2.2.2.2.2.2.2.2.2.2.2.2.2.2.2.1 z.2.2.2.2.2.2.2.2.2.2.2.2.2.2.2.2.2.2.2.2.2.2.2.2.2.2.1 z.2.2.2.2.2.2.2.2.2.2.2.2.2.2.2.2.2.2.2.2.2.2.2.2.2.2.2.1 z.2.2.2.2.2.2.2.2.2.2.2.2.2.2.2.2.2.2.2.2.2.2.2.2.2.2.2.2.1 z.2.2.2.2.2.2.2.2.2.2.2.2.2.2.2.2.2.2.2.2.2.2.2.2.2.2.2.2.2.1 z.2.2.2.2.2.2.2.2.2.2.2.2.2.2.2.2.2.2.2.2.2.2.2.2.2.2.2.2.2.2.1 z.2.2.2.2.2.2.2.2.2.2.2.2.2.2.2.2.2.2.2.2.2.2.2.2.2.2.2.2.2.2.2) (0,[],0,0,0,0,0,0,0,0,0,t14.1,t14.2.1,t14.2.2.2.2.2.2.1,t14.2.2.2.2.2.2.2.1,t14.2.2.2.2.2.2.2.2.1,t14.2.2.2.2.2.2.2.2.2.1,t14.2.2.2.2.2.2.2.2.2.2,162,i1.2.1,0,0,[],[],[],[],[],t14.2.2.1,t14.2.2.2.1,t14.2.2.2.2.1,t14.2.2.2.2.2.1,t95)).bind (Sum.elim (λd_4 =>
 (ar p0).bind λt123_2 =>
 some (t123_2,(162,i1.2.1,7,0,[]),true)) (λr_2=>some ((r_2.2.1,r_2.2.2.1,r_2.2.2.2.2.2.2.2.2.2.2.2.2.1,r_2.2.2.2.2.2.2.2.2.2.2.2.2.2.1,r_2.2.2.2.2.2.2.2.2.2.2.2.2.2.2.1,r_2.2.2.2.2.2.2.2.2.2.2.2.2.2.2.2.1,r_2.2.2.2.1,r_2.2.2.2.2.1,r_2.2.2.2.2.2.1,r_2.2.2.2.2.2.2.1,r_2.2.2.2.2.2.2.2.1),(r_2.2.2.2.2.2.2.2.2.1,r_2.2.2.2.2.2.2.2.2.2.1,r_2.2.2.2.2.2.2.2.2.2.2.1,r_2.2.2.2.2.2.2.2.2.2.2.2.1,r_2.2.2.2.2.2.2.2.2.2.2.2.2.2.2.2.2),r_2.1)))))
 ((dM p0 i1.2.2.2.2).bind λt39 =>
 (dy i1.2.2.2.2).bind λt47 =>
 (aP (162,i1.2.1,t39.2.1,t39.2.2,t47)).bind λt98_3 =>
 cond t98_3
 (some (t39.1,(162,i1.2.1,t39.2.1,t39.2.2,t47),true))
 ((loop (λz=>kE i1 z.1 z.2.1 z.2.2.1 z.2.2.2.1 z.2.2.2.2.1 z.2.2.2.2.2.1 z.2.2.2.2.2.2.1 z.2.2.2.2.2.2.2.1 z.2.2.2.2.2.2.2.2.1 z.2.2.2.2.2.2.2.2.2.1 z.2.2.2.2.2.2.2.2.2.2.1 z.2.2.2.2.2.2.2.2.2.2.2.1 z.2.2.2.2.2.2.2.2.2.2.2.2.1 z.2.2.2.2.2.2.2.2.2.2.2.2.2.1 z.2.2.2.2.2.2.2.2.2.2.2.2.2.2.1 z.2.2.2.2.2.2.2.2.2.2.2.2.2.2.2.1 z.2.2.2.2.2.2.2.2.2.2.2.2.2.2.2.2.1 z.2.2.2.2.2.2.2.2.2.2.2.2.2.2.2.2.2.1 z.2.2.2.2.2.2.2.2.2.2.2.2.2.2.2.2.2.2.1 z.2.2.2.2.2.2.2.2.2.2.2.2.2.2.2.2.2.2.2.1 z.2.2.2.2.2.2.2.2.2.2.2.2.2.2.2.2.2.2.2.2.1 z.2.2.2.2.2.2.2.2.2.2.2.2.2.2.2.2.2.2.2.2.2.1 z.2.2.2.2.2.2.2.2.2.2.2.2.2.2.2.2.2.2.2.2.2.2.1 z.2.2.2.2.2.2.2.2.2.2.2.2.2.2.2.2.2.2.2.2.2.2.2.1 z.2.2.2.2.2.2.2.2.2.2.2.2.2.2.2.2.2.2.2.2.2.2.2.2.1 z.2.2.2.2.2.2.2.2.2.2.2.2.2.2.2.2.2.2.2.2.2.2.2.2.2.1 z.2.2.2.2.2.2.2.2.2.2.2.2.2.2.2.2.2.2.2.2.2.2.2.2.2.2.1 z.2.2.2.2.2.2.2.2.2.2.2.2.2.2.2.2.2.2.2.2.2.2.2.2.2.2.2.1 z.2.2.2.2.2.2.2.2.2.2.2.2.2.2.2.2.2.2.2.2.2.2.2.2.2.2.2.2.1 z.2.2.2.2.2.2.2.2.2.2.2.2.2.2.2.2.2.2.2.2.2.2.2.2.2.2.2.2.2.1 z.2.2.2.2.2.2.2.2.2.2.2.2.2.2.2.2.2.2.2.2.2.2.2.2.2.2.2.2.2.2.1 z.2.2.2.2.2.2.2.2.2.2.2.2.2.2.2.2.2.2.2.2.2.2.2.2.2.2.2.2.2.2.2) (0,[],0,0,0,0,0,0,0,0,0,t39.1.1,t39.1.2.1,t39.1.2.2.2.2.2.2.1,t39.1.2.2.2.2.2.2.2.1,t39.1.2.2.2.2.2.2.2.2.1,t39.1.2.2.2.2.2.2.2.2.2.1,t39.1.2.2.2.2.2.2.2.2.2.2,162,i1.2.1,t39.2.1,t39.2.2,[],[],[],[],[],t39.1.2.2.1,t39.1.2.2.2.1,t39.1.2.2.2.2.1,t39.1.2.2.2.2.2.1,t47)).bind (Sum.elim (λd_5 =>
 (ar p0).bind λt123_3 =>
 some (t123_3,(162,i1.2.1,7,0,[]),true)) (λr_3=>some ((r_3.2.1,r_3.2.2.1,r_3.2.2.2.2.2.2.2.2.2.2.2.2.1,r_3.2.2.2.2.2.2.2.2.2.2.2.2.2.1,r_3.2.2.2.2.2.2.2.2.2.2.2.2.2.2.1,r_3.2.2.2.2.2.2.2.2.2.2.2.2.2.2.2.1,r_3.2.2.2.1,r_3.2.2.2.2.1,r_3.2.2.2.2.2.1,r_3.2.2.2.2.2.2.1,r_3.2.2.2.2.2.2.2.1),(r_3.2.2.2.2.2.2.2.2.1,r_3.2.2.2.2.2.2.2.2.2.1,r_3.2.2.2.2.2.2.2.2.2.2.1,r_3.2.2.2.2.2.2.2.2.2.2.2.1,r_3.2.2.2.2.2.2.2.2.2.2.2.2.2.2.2.2),r_3.1))))))))
def kF:FL:=(241,⟨[.val true s7 false,.val true ud false],[.val true s7 (some true),.val true ud (some true),.val false sS (some true)],λa=>cB a.1 a.2⟩)::kB
theorem oX:Gd kF:=rS oW 241 Tryz.f241 [(1,⟨⟨[(54,false,[dI])],[(1052672,.box [dI,dI,dI,dI,.own 1000001000]),(1000001000,.root rX true)]⟩,
 ⟨[],[(1052672,.box [dI,dI,dI,dI,.own 1000001300]),(1000001300,.root rX true)]⟩,none⟩),
 (3,⟨⟨[(77,false,[dI])],[(1052672,.box [dI,dI,dI,dI,.own 1000003000]),(1000003000,.root rX true)]⟩,
 ⟨[],[(1052672,.box [dI,dI,dI,dI,.own 1000003300]),(1000003300,.root rX true)]⟩,none⟩),
 (5,⟨⟨us 105 4 [],[(3072,.box [dI,dS,.own 1000005000,.own 1000005001,.own 1000005002,.own 1000005003,dI,dI,dI,dI,dI]),(4096,.box [dI,dI,dI,dI,.own 1000005004]),(265216,.box [dI,dS,.own 1000005005,.own 1000005006,.own 1000005007,.own 1000005008,dI,dI,dI,dI,dI]),(1052672,.box [dI,dI,dI,dI,.own 1000005009]),(1000005000,.root uG true),(1000005001,.root sr true),(1000005002,.root tv true),(1000005003,.root rQ true),(1000005004,.root rX true),(1000005005,.root uG true),(1000005006,.root sr true),(1000005007,.root tv true),(1000005008,.root rQ true),(1000005009,.root rX true)]⟩,
 ⟨[],[(3072,.box [dI,dS,.own 1000005300,.own 1000005301,.own 1000005302,.own 1000005303,dI,dI,dI,dI,dI]),(4096,.box [dI,dI,dI,dI,.own 1000005304]),(265216,.box [dI,dS,.own 1000005305,.own 1000005306,.own 1000005307,.own 1000005308,dI,dI,dI,dI,dI]),(1052672,.box [dI,dI,dI,dI,.own 1000005309]),(1000005300,.root uG true),(1000005301,.root sr true),(1000005302,.root tv true),(1000005303,.root rQ true),(1000005304,.root rX true),(1000005305,.root uG true),(1000005306,.root sr true),(1000005307,.root tv true),(1000005308,.root rQ true),(1000005309,.root rX true)]⟩,some ⟨[(6,false,[dB])],[(3072,.box [dI,dS,.own 1000005600,.own 1000005601,.own 1000005602,.own 1000005603,dI,dI,dI,dI,dI]),(4096,.box [dI,dI,dI,dI,.own 1000005604]),(1000005600,.root uG true),(1000005601,.root sr true),(1000005602,.root tv true),(1000005603,.root rQ true),(1000005604,.root rX true)]⟩⟩)] Tryz.func241
def eU (p0:sj):Option sj :=
 (dy p0.2.2.2.2).bind λt8 =>
 (aP (162,p0.2.1,6,1,t8)).bind λt11 =>
 cond (!t11) (some (162,p0.2.1,7,0,[])) (some (162,p0.2.1,6,1,t8))
def kG:FL:=(242,⟨[.val true ud false],[.val true ud (some true)],λa=>eU a⟩)::kF
theorem oY:Gd kG:=rS oX 242 Tryz.f242 [] Tryz.func242
def eV (p0:s9) (i1:Int):Option (s9×List uV) :=
 (ix p0.2.2.2.2.2.2.2.2.2.2.2.2.1.length i1).bind λj12 =>
 (p0.2.2.2.2.2.2.2.2.2.2.2.2.1[j12]?).bind λx13 =>
 cond (x13.2.2.2.1 != 163)
 ((cB (x13.2.2.2.2.2.2.2.2.1,x13.2.2.2.2.2.2.2.2.2.1,x13.2.2.2.2.2.2.2.2.2.2.1,x13.2.2.2.2.2.2.2.2.2.2.2.1,x13.2.2.2.2.2.2.2.2.2.2.2.2.1,x13.2.2.2.2.2.2.2.2.2.2.2.2.2.1,x13.2.2.2.2.2.2.2.2.2.2.2.2.2.2.1,x13.2.2.2.2.2.2.2.2.2.2.2.2.2.2.2.1,x13.2.2.2.2.2.2.2.2.2.2.2.2.2.2.2.2.1,x13.2.2.2.2.2.2.2.2.2.2.2.2.2.2.2.2.2.1,x13.2.2.2.2.2.2.2.2.2.2.2.2.2.2.2.2.2.2.1) (x13.2.2.2.1,x13.2.2.2.2.1,x13.2.2.2.2.2.1,x13.2.2.2.2.2.2.1,x13.2.2.2.2.2.2.2.1)).bind λt41 =>
 (bT p0 i1).bind λt81 =>
 some (t81,[(x13.1,t41.2.1.1,t41.2.1.2.1,t41.2.1.2.2.1,t41.2.1.2.2.2.1,t41.2.1.2.2.2.2)]))
 (let t46:=p0.2.2.2.2.2.2.2.2.2.2.1==x13.2.2.2.2.2.2.2.2.2.2.2.2.2.2.2.2.2.2.1
 cond t46
 ((cB (p0.1,p0.2.1,p0.2.2.1,p0.2.2.2.1,p0.2.2.2.2.1,p0.2.2.2.2.2.1,p0.2.2.2.2.2.2.1,p0.2.2.2.2.2.2.2.1,p0.2.2.2.2.2.2.2.2.1,p0.2.2.2.2.2.2.2.2.2.1,p0.2.2.2.2.2.2.2.2.2.2.1) (x13.2.2.2.1,x13.2.2.2.2.1,x13.2.2.2.2.2.1,x13.2.2.2.2.2.2.1,x13.2.2.2.2.2.2.2.1)).bind λt64 =>
 (bT (t64.1.1,t64.1.2.1,t64.1.2.2.1,t64.1.2.2.2.1,t64.1.2.2.2.2.1,t64.1.2.2.2.2.2.1,t64.1.2.2.2.2.2.2.1,t64.1.2.2.2.2.2.2.2.1,t64.1.2.2.2.2.2.2.2.2.1,t64.1.2.2.2.2.2.2.2.2.2.1,t64.1.2.2.2.2.2.2.2.2.2.2,p0.2.2.2.2.2.2.2.2.2.2.2.1,p0.2.2.2.2.2.2.2.2.2.2.2.2.1,p0.2.2.2.2.2.2.2.2.2.2.2.2.2.1,p0.2.2.2.2.2.2.2.2.2.2.2.2.2.2) i1).bind λt81_1 =>
 some (t81_1,[(x13.1,t64.2.1.1,t64.2.1.2.1,t64.2.1.2.2.1,t64.2.1.2.2.2.1,t64.2.1.2.2.2.2)]))
 (let t71:=decide (x13.2.2.2.2.2.2.2.2.2.2.2.2.2.2.2.2.2.2.2.2>=3)
 cond t71
 ((eU (x13.2.2.2.1,x13.2.2.2.2.1,x13.2.2.2.2.2.1,x13.2.2.2.2.2.2.1,x13.2.2.2.2.2.2.2.1)).bind λt77 =>
 (bT p0 i1).bind λt81_2 =>
 some (t81_2,[(x13.1,t77.1,t77.2.1,t77.2.2.1,t77.2.2.2.1,t77.2.2.2.2)]))
 ((ix p0.2.2.2.2.2.2.2.2.2.2.2.2.1.length i1).bind λj22 =>
 (p0.2.2.2.2.2.2.2.2.2.2.2.2.1[j22]?).bind λx24 =>
 (ix p0.2.2.2.2.2.2.2.2.2.2.2.2.1.length i1).bind λj26 =>
 (p0.2.2.2.2.2.2.2.2.2.2.2.2.1[j26]?).bind λx =>
 (eH (p0.1,p0.2.1,p0.2.2.1,p0.2.2.2.1,p0.2.2.2.2.1,p0.2.2.2.2.2.1,p0.2.2.2.2.2.2.1,p0.2.2.2.2.2.2.2.1,p0.2.2.2.2.2.2.2.2.1,p0.2.2.2.2.2.2.2.2.2.1,p0.2.2.2.2.2.2.2.2.2.2.1,p0.2.2.2.2.2.2.2.2.2.2.2.1,p0.2.2.2.2.2.2.2.2.2.2.2.2.1.set j26 (x.1,x.2.1,x.2.2.1,x.2.2.2.1,x.2.2.2.2.1,x.2.2.2.2.2.1,x.2.2.2.2.2.2.1,x.2.2.2.2.2.2.2.1,x.2.2.2.2.2.2.2.2.1,x.2.2.2.2.2.2.2.2.2.1,x.2.2.2.2.2.2.2.2.2.2.1,x.2.2.2.2.2.2.2.2.2.2.2.1,x.2.2.2.2.2.2.2.2.2.2.2.2.1,x.2.2.2.2.2.2.2.2.2.2.2.2.2.1,x.2.2.2.2.2.2.2.2.2.2.2.2.2.2.1,x.2.2.2.2.2.2.2.2.2.2.2.2.2.2.2.1,x.2.2.2.2.2.2.2.2.2.2.2.2.2.2.2.2.1,x.2.2.2.2.2.2.2.2.2.2.2.2.2.2.2.2.2.1,x.2.2.2.2.2.2.2.2.2.2.2.2.2.2.2.2.2.2.1,x.2.2.2.2.2.2.2.2.2.2.2.2.2.2.2.2.2.2.2.1,rJ (x24.2.2.2.2.2.2.2.2.2.2.2.2.2.2.2.2.2.2.2.2+1)),p0.2.2.2.2.2.2.2.2.2.2.2.2.2.1,p0.2.2.2.2.2.2.2.2.2.2.2.2.2.2) i1).bind λt30 =>
 some (t30,[]))))
def kH:FL:=(149,⟨[.ptr tB (some true),.val false rQ false],[.val false (.one (.sl yp)) (some true)],λa=>eV a.1 a.2⟩)::kG
theorem oZ:Gd kH:=rS oY 149 Tryz.f149 [] Tryz.func149
def dN (a0:s9) (k1:Int):Option (s9×List uV) :=
 (ix a0.2.2.2.2.2.2.2.2.2.2.2.2.1.length k1).bind λj11 =>
 (a0.2.2.2.2.2.2.2.2.2.2.2.2.1[j11]?).bind λx19 =>
 cond (x19.2.2.1==0)
 ((eI a0 k1).bind λt23 =>
 some (t23,[]))
 ((a0.2.2.2.2.2.2.2.2.2.2.2.2.1[j11]?).bind λx28 =>
 cond (x28.2.2.1==2)
 ((eV a0 k1).bind λt32 =>
 some t32)
 ((a0.2.2.2.2.2.2.2.2.2.2.2.2.1[j11]?).bind λx37 =>
 (a0.2.2.2.2.2.2.2.2.2.2.2.2.1[j11]?).bind λx42 =>
 let t33:=decide (x37.2.2.2.2.2.2.2.2.2.2.2.2.2.2.2.2.2.2.2.1<(x42.2.2.2.2.2.2.2.1.length:Int))
 cond t33
 ((a0.2.2.2.2.2.2.2.2.2.2.2.2.1[j11]?).bind λx48 =>
 (a0.2.2.2.2.2.2.2.2.2.2.2.2.1[j11]?).bind λx =>
 some ((a0.1,a0.2.1,a0.2.2.1,a0.2.2.2.1,a0.2.2.2.2.1,a0.2.2.2.2.2.1,a0.2.2.2.2.2.2.1,a0.2.2.2.2.2.2.2.1,a0.2.2.2.2.2.2.2.2.1,a0.2.2.2.2.2.2.2.2.2.1,a0.2.2.2.2.2.2.2.2.2.2.1,a0.2.2.2.2.2.2.2.2.2.2.2.1,a0.2.2.2.2.2.2.2.2.2.2.2.2.1.set j11 (x.1,x.2.1,x.2.2.1,x.2.2.2.1,x.2.2.2.2.1,x.2.2.2.2.2.1,x.2.2.2.2.2.2.1,x.2.2.2.2.2.2.2.1,x.2.2.2.2.2.2.2.2.1,x.2.2.2.2.2.2.2.2.2.1,x.2.2.2.2.2.2.2.2.2.2.1,x.2.2.2.2.2.2.2.2.2.2.2.1,x.2.2.2.2.2.2.2.2.2.2.2.2.1,x.2.2.2.2.2.2.2.2.2.2.2.2.2.1,x.2.2.2.2.2.2.2.2.2.2.2.2.2.2.1,x.2.2.2.2.2.2.2.2.2.2.2.2.2.2.2.1,x.2.2.2.2.2.2.2.2.2.2.2.2.2.2.2.2.1,x.2.2.2.2.2.2.2.2.2.2.2.2.2.2.2.2.2.1,x.2.2.2.2.2.2.2.2.2.2.2.2.2.2.2.2.2.2.1,rJ (x48.2.2.2.2.2.2.2.2.2.2.2.2.2.2.2.2.2.2.2.1+1),x.2.2.2.2.2.2.2.2.2.2.2.2.2.2.2.2.2.2.2.2),a0.2.2.2.2.2.2.2.2.2.2.2.2.2.1,a0.2.2.2.2.2.2.2.2.2.2.2.2.2.2),[]))
 ((a0.2.2.2.2.2.2.2.2.2.2.2.2.1[j11]?).bind λx_1 =>
 some ((a0.1,a0.2.1,a0.2.2.1,a0.2.2.2.1,a0.2.2.2.2.1,a0.2.2.2.2.2.1,a0.2.2.2.2.2.2.1,a0.2.2.2.2.2.2.2.1,a0.2.2.2.2.2.2.2.2.1,a0.2.2.2.2.2.2.2.2.2.1,a0.2.2.2.2.2.2.2.2.2.2.1,a0.2.2.2.2.2.2.2.2.2.2.2.1,a0.2.2.2.2.2.2.2.2.2.2.2.2.1.set j11 (x_1.1,x_1.2.1,2,x_1.2.2.2.1,x_1.2.2.2.2.1,x_1.2.2.2.2.2.1,x_1.2.2.2.2.2.2.1,x_1.2.2.2.2.2.2.2.1,x_1.2.2.2.2.2.2.2.2.1,x_1.2.2.2.2.2.2.2.2.2.1,x_1.2.2.2.2.2.2.2.2.2.2.1,x_1.2.2.2.2.2.2.2.2.2.2.2.1,x_1.2.2.2.2.2.2.2.2.2.2.2.2.1,x_1.2.2.2.2.2.2.2.2.2.2.2.2.2.1,x_1.2.2.2.2.2.2.2.2.2.2.2.2.2.2.1,x_1.2.2.2.2.2.2.2.2.2.2.2.2.2.2.2.1,x_1.2.2.2.2.2.2.2.2.2.2.2.2.2.2.2.2.1,x_1.2.2.2.2.2.2.2.2.2.2.2.2.2.2.2.2.2.1,x_1.2.2.2.2.2.2.2.2.2.2.2.2.2.2.2.2.2.2.1,x_1.2.2.2.2.2.2.2.2.2.2.2.2.2.2.2.2.2.2.2.1,x_1.2.2.2.2.2.2.2.2.2.2.2.2.2.2.2.2.2.2.2.2),a0.2.2.2.2.2.2.2.2.2.2.2.2.2.1,a0.2.2.2.2.2.2.2.2.2.2.2.2.2.2),[]))))
def kI:FL:=(75,⟨[.ptr tB (some true),.val false rQ false],[.val false (.one (.sl yp)) (some true)],λa=>dN a.1 a.2⟩)::kH
theorem p5:Gd kI:=rS oZ 75 Tryz.f75 [] Tryz.func75
def eW (n1:Int) (i8:Int) (b0:Int) (b1:List UInt8) (b6:Int) (b7:Int) (b8:Int) (b9:Int) (b10:Int) (b11:List UInt8) (b13:Int) (b14:Int) (all7:List uV) (b2:List Pt) (b3:List rR) (b4:List s5) (b5:List Int) (b12:List sY):Option ((Int×Int×List UInt8×Int×Int×Int×Int×Int×List UInt8×Int×Int×List uV×List Pt×List rR×List s5×List Int×List sY)⊕(Int×List UInt8×Int×Int×Int×Int×Int×List UInt8×Int×Int×List uV×List Pt×List rR×List s5×List Int×List sY)) :=
 (cond (decide (i8<n1)) (some (decide ((b12.length:Int)>0))) (some false)).bind λt29 =>
 cond t29
 ((dN (b0,b1,b2,b3,b4,b5,b6,b7,b8,b9,b10,b11,b12,b13,b14) 0).bind λt32 =>
 (sf all7 t32.2).bind λzs35 =>
 some (.inl (rJ (i8+1),t32.1.1,t32.1.2.1,t32.1.2.2.2.2.2.2.1,t32.1.2.2.2.2.2.2.2.1,t32.1.2.2.2.2.2.2.2.2.1,t32.1.2.2.2.2.2.2.2.2.2.1,t32.1.2.2.2.2.2.2.2.2.2.2.1,t32.1.2.2.2.2.2.2.2.2.2.2.2.1,t32.1.2.2.2.2.2.2.2.2.2.2.2.2.2.1,t32.1.2.2.2.2.2.2.2.2.2.2.2.2.2.2,zs35,t32.1.2.2.1,t32.1.2.2.2.1,t32.1.2.2.2.2.1,t32.1.2.2.2.2.2.1,t32.1.2.2.2.2.2.2.2.2.2.2.2.2.1)))
 (some (.inr (b0,b1,b6,b7,b8,b9,b10,b11,b13,b14,all7,b2,b3,b4,b5,b12)))
def eX (a0:s9) (n1:Int):Option (s9×List uV) :=
 (eB a0).bind λt11 =>
 (eG a0).bind λt13 =>
 (cond (!t13)
 (some true)
 ((ac n1 0 500).bind λt17 =>
 some (!t17))).bind λt19 =>
 cond t19
 (some (t11,[]))
 ((loop (λz=>eW n1 z.1 z.2.1 z.2.2.1 z.2.2.2.1 z.2.2.2.2.1 z.2.2.2.2.2.1 z.2.2.2.2.2.2.1 z.2.2.2.2.2.2.2.1 z.2.2.2.2.2.2.2.2.1 z.2.2.2.2.2.2.2.2.2.1 z.2.2.2.2.2.2.2.2.2.2.1 z.2.2.2.2.2.2.2.2.2.2.2.1 z.2.2.2.2.2.2.2.2.2.2.2.2.1 z.2.2.2.2.2.2.2.2.2.2.2.2.2.1 z.2.2.2.2.2.2.2.2.2.2.2.2.2.2.1 z.2.2.2.2.2.2.2.2.2.2.2.2.2.2.2.1 z.2.2.2.2.2.2.2.2.2.2.2.2.2.2.2.2) (0,t11.1,t11.2.1,t11.2.2.2.2.2.2.1,t11.2.2.2.2.2.2.2.1,t11.2.2.2.2.2.2.2.2.1,t11.2.2.2.2.2.2.2.2.2.1,t11.2.2.2.2.2.2.2.2.2.2.1,t11.2.2.2.2.2.2.2.2.2.2.2.1,t11.2.2.2.2.2.2.2.2.2.2.2.2.2.1,t11.2.2.2.2.2.2.2.2.2.2.2.2.2.2,[],t11.2.2.1,t11.2.2.2.1,t11.2.2.2.2.1,t11.2.2.2.2.2.1,t11.2.2.2.2.2.2.2.2.2.2.2.2.1)).bind λd =>
 some ((d.1,d.2.1,d.2.2.2.2.2.2.2.2.2.2.2.1,d.2.2.2.2.2.2.2.2.2.2.2.2.1,d.2.2.2.2.2.2.2.2.2.2.2.2.2.1,d.2.2.2.2.2.2.2.2.2.2.2.2.2.2.1,d.2.2.1,d.2.2.2.1,d.2.2.2.2.1,d.2.2.2.2.2.1,d.2.2.2.2.2.2.1,d.2.2.2.2.2.2.2.1,d.2.2.2.2.2.2.2.2.2.2.2.2.2.2.2,d.2.2.2.2.2.2.2.2.1,d.2.2.2.2.2.2.2.2.2.1),d.2.2.2.2.2.2.2.2.2.2.1))
def kJ:FL:=(13,⟨[.val true tB false,.val false rQ false],[.val true tB (some true),.val false (.one (.sl yp)) (some true)],λa=>eX a.1 a.2⟩)::kI
theorem p6:Gd kJ:=rS p5 13 Tryz.f13 [(0,⟨⟨(7,false,[.own 1000000000])::(8,false,[dI])::us 25 4 [],[(265216,.box [dI,dS,.own 1000000001,.own 1000000002,.own 1000000003,.own 1000000004,dI,dI,dI,dI,dI,dS,.own 1000000005,dI,dI]),(1000000000,.root yp true),(1000000001,.root uG true),(1000000002,.root sr true),(1000000003,.root tv true),(1000000004,.root rQ true),(1000000005,.root xM true)]⟩,
 ⟨[(7,false,[.own 1000000300])],[(265216,.box [dI,dS,.own 1000000301,.own 1000000302,.own 1000000303,.own 1000000304,dI,dI,dI,dI,dI,dS,.own 1000000305,dI,dI]),(1000000300,.root yp true),(1000000301,.root uG true),(1000000302,.root sr true),(1000000303,.root tv true),(1000000304,.root rQ true),(1000000305,.root xM true)]⟩,none⟩)] Tryz.func13
def aQ (a0:s9) (b1:List Int):Option s9 :=
 (eB a0).bind λt7 =>
 (eG a0).bind λt24 =>
 cond (!t24)
 (some t7)
 ((cond (decide ((a0.2.2.2.2.2.2.2.2.2.2.2.2.1.length:Int)>=6))
 (some true)
 (some (decide (a0.2.2.2.2.2.2.2.2.2.2.2.2.2.2>=1000000)))).bind λt35 =>
 cond t35
 ((bn a0.2.2.2.2.2.2.2.2.2.2.2.2.2.1).bind λt38 =>
 some (t7.1,t7.2.1,t7.2.2.1,t7.2.2.2.1,t7.2.2.2.2.1,t7.2.2.2.2.2.1,t7.2.2.2.2.2.2.1,t7.2.2.2.2.2.2.2.1,t7.2.2.2.2.2.2.2.2.1,t7.2.2.2.2.2.2.2.2.2.1,t7.2.2.2.2.2.2.2.2.2.2.1,t7.2.2.2.2.2.2.2.2.2.2.2.1,t7.2.2.2.2.2.2.2.2.2.2.2.2.1,t38,t7.2.2.2.2.2.2.2.2.2.2.2.2.2.2))
 ((bu b1).bind λt17 =>
 (sf t7.2.2.2.2.2.2.2.2.2.2.2.2.1 ([(rJ (t7.2.2.2.2.2.2.2.2.2.2.2.2.2.2+1),t17,0,0,0,0,0,[],0,[],[],[],[],[],0,0,0,0,0,0,0)])).bind λzs20 =>
 some (t7.1,t7.2.1,t7.2.2.1,t7.2.2.2.1,t7.2.2.2.2.1,t7.2.2.2.2.2.1,t7.2.2.2.2.2.2.1,t7.2.2.2.2.2.2.2.1,t7.2.2.2.2.2.2.2.2.1,t7.2.2.2.2.2.2.2.2.2.1,t7.2.2.2.2.2.2.2.2.2.2.1,t7.2.2.2.2.2.2.2.2.2.2.2.1,zs20,t7.2.2.2.2.2.2.2.2.2.2.2.2.2.1,rJ (t7.2.2.2.2.2.2.2.2.2.2.2.2.2.2+1))))
def p7:FL:=(14,⟨[.val true tB false,.val false tb false],[.val true tB (some true)],λa=>aQ a.1 a.2⟩)::kJ
theorem p8:Gd p7:=rS p6 14 Tryz.f14 [] Tryz.func14
def Bb (p0:List Int):Option Bool :=
 (gJ p0).bind λt12 =>
 cond t12
 (some true)
 ((fC p0).bind λt15 =>
 (fD p0).bind λt20 =>
 (cu t20.1 t20.2).bind λt30 =>
 (aQ (t15.1.1,t15.1.2.1,t15.1.2.2.1,t15.1.2.2.2.1,t15.1.2.2.2.2.1,t15.1.2.2.2.2.2.1,t15.1.2.2.2.2.2.2.1,t15.1.2.2.2.2.2.2.2.1,t15.1.2.2.2.2.2.2.2.2.1,t15.1.2.2.2.2.2.2.2.2.2.1,t15.1.2.2.2.2.2.2.2.2.2.2.1,t20.1,([]:List sY),t15.1.2.2.2.2.2.2.2.2.2.2.2.2.2.1,t15.1.2.2.2.2.2.2.2.2.2.2.2.2.2.2) t20.2).bind λt36 =>
 (eX t36 500).bind λt37 =>
 (cond (t30.2==0) (some (t30.1.1 != 162)) (some false)).bind λt46 =>
 cond t46
 ((cond ((t37.2.length:Int)==1)
 ((ix t37.2.length 0).bind λj52 =>
 (t37.2[j52]?).bind λx55 =>
 some (x55.2.2.1==t30.1.2.1))
 (some false)).bind λt59 =>
 (cond t59
 (some (t37.1.2.2.2.2.2.2.2.1==t15.1.2.2.2.2.2.2.2.1))
 (some false)).bind λt68 =>
 (cond t68
 (some (t37.1.2.2.2.2.2.2.2.2.1==t15.1.2.2.2.2.2.2.2.2.1))
 (some false)).bind λt77 =>
 some t77)
 (cond (t30.2==3)
 ((cond ((t37.2.length:Int)==0)
 (some (t37.1.2.2.2.2.2.2.2.2.1==(rJ (t15.1.2.2.2.2.2.2.2.2.1+1))))
 (some false)).bind λt92 =>
 (cond t92
 (some (t37.1.2.2.2.2.2.2.2.1==t15.1.2.2.2.2.2.2.2.1))
 (some false)).bind λt101 =>
 some t101)
 ((cond ((t37.2.length:Int)==0)
 (some (t37.1.2.2.2.2.2.2.2.1==(rJ (t15.1.2.2.2.2.2.2.2.1+1))))
 (some false)).bind λt114 =>
 (cond t114
 (some (t37.1.2.2.2.2.2.2.2.2.1==t15.1.2.2.2.2.2.2.2.2.1))
 (some false)).bind λt123 =>
 some t123)))
def Cn:Fn:=⟨[.val false tb false],[.val false sS (some true)],λa=>Bb a⟩
theorem m_laws_FnJunk:zY Tryz.prog 3 Cn:=O0 p8 3 Tryz.f3 [] Cn Tryz.func3
end
end Go.V.W

