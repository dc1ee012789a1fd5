/- The law FnRepliesBent: part of the proof that for every input it returns true. No condition. -/
import Derived.Test.YtpidgkkbmlgehaaGreatFnRepliesBentB
set_option linter.unusedVariables false
set_option linter.unusedSimpArgs false
namespace Go.V.W
theorem HC {b:oA} (h:sG b) (hb:uI M b) {p:p7} (hp:tH M p):uI M (sE b p).1/\tH M (sE b p).2.1/\((sE b p).2.2=false->(sE b p).1=b):=by
 have h0:tH M (0,0,0,0,[]):=⟨by show 0<=1048576;decide,λx hx=>by cases hx⟩;unfold sE;cases he:yL b p with
 | false=>exact⟨hb,h0,λ_=>rfl⟩
 | true =>
  unfold yL at he;simp only[aT]at he;obtain⟨e1,e2,e3⟩:=he;have hdn:qe (uG b p).1:=by
   have:=DZ (Bn h e1) p;unfold sE yL at this;rw[e1,e2,e3]at this;exact this
  exact⟨hdn.le,Ao (Hh (Fa e2)),λhc=>by cases hc⟩
theorem Gy {code:List Int} (h:code.length<=1048576):∃b p,eY code=some (b,p)/\sG b/\uI M b/\tH M p:=by
 obtain⟨c0,e0,w0⟩:=Iz (code:=code) h;obtain⟨c1,b,e1,w1,hb,hp,hz⟩:=Di w0;have hB:=Bn hb hp
 obtain⟨c2,p,e2,w2,hq⟩:=J6 w1 hb (λc hc=>by obtain⟨c',o,e,w,h⟩:=Ju hc hB;exact⟨c',o,e,w,h⟩);obtain⟨c3,k,e3,w3,_⟩:=qj w2 16;unfold eY;rw[e0,Option.bind_some,e1,Option.bind_some];simp only;rw[e2,Option.bind_some];simp only;rw[e3,Option.bind_some];simp only;cases k==0 with
 | true =>
  obtain⟨c4,x,e4,w4,x1,x2⟩:=JP w3;rw[cT,e4,Option.bind_some];exact⟨x,p,rfl,x1,x2,hq.le⟩
 | false =>
 cases k==1 with
 | true =>
  obtain⟨c4,x,e4,w4,hx⟩:=Bj w3;rw[cF,cT,e4,Option.bind_some];exact⟨b,x,rfl,hb,hB.le,hx.le (by decide)⟩
 | false=>exact⟨b,p,rfl,hb,hB.le,hq.le⟩
theorem JA {code:List Int} (h:code.length<=1048576):∃p,eZ code=some p/\tH M p:=by
 obtain⟨c0,e0,w0⟩:=Iz (code:=code) h;obtain⟨c1,p,e1,w1,hp⟩:=Bj w0;have hpn:=hp.1
 obtain⟨c2,t,e2,w2⟩:=Ay w1 2;unfold eZ;rw[e0,Option.bind_some,e1,Option.bind_some];simp only;rw[e2,Option.bind_some];simp only;cases t with
 | false=>exact⟨p,rfl,hp.le (by decide)⟩
 | true =>
  obtain⟨c3,n,e3,w3,hn⟩:=qr w2 (n:=8) (by decide);have e3':aa c2 8=some (c3,(n:Int)):=e3
  rw[cT,e3',Option.bind_some];obtain⟨d,d1,d2,d3⟩:=oR (step:=λz:Int×List Int×Int×Int×Int×Int×Int×Int×List oC=>cE z.1 z.2.1 z.2.2.1 z.2.2.2.1 z.2.2.2.2.1 z.2.2.2.2.2.1 z.2.2.2.2.2.2.1 z.2.2.2.2.2.2.2.1 z.2.2.2.2.2.2.2.2)
   (λj z=>z.1=((n-j:Nat):Int)/\CW (z.2.1,z.2.2.1,z.2.2.2.1)/\z.2.2.2.2.2.2.2.2.length<=12+j/\∀y∈z.2.2.2.2.2.2.2.2,vq M y) n
   (λd=>d.2.2.2.2.2.2.2.length<=100/\∀y∈d.2.2.2.2.2.2.2,vq M y)
   (λj z hj ⟨z1,z2,z3,z4⟩=>by
    obtain⟨q,c0,c1,c2,r0,r1,r2,r3,out⟩:=z;simp only at z1 z2 z3 z4;subst z1;obtain⟨c',o,x1,x2,x3⟩:=za z2;obtain⟨c'',v,y1,y2,y3⟩:=An x2;refine .inl ⟨_,by
     show cE _ _ _ _ _ _ _ _ _=_;unfold cE;rw[dT (show ((n-j:Nat):Int)>0 by omega),cT,x1,Option.bind_some,y1,Option.bind_some,oH (by show _+1<=_;omega),Option.bind_some],?_,y2,by simp;omega,?_⟩
    · show oB (((n-j:Nat):Int)-1)=_;rw[pj (by omega) (by omega)];omega
    · intro y hy;rcases List.mem_append.1 hy with hy|hy
      · exact z4 y hy
      · rw[List.mem_singleton]at hy;subst hy;have:=x3.n10
        exact Im (o:=o) (by omega) ⟨y3.1,y3.2.1⟩)
   (λz ⟨z1,z2,z3,z4⟩=>by
    obtain⟨q,c0,c1,c2,r0,r1,r2,r3,out⟩:=z;simp only at z1 z2 z3 z4;rw[Nat.sub_self]at z1;subst z1;refine⟨(c0,c1,c2,r0,r1,r2,r3,out),?_,by show out.length<=100;omega,z4⟩;show cE _ _ _ _ _ _ _ _ _=_
    unfold cE;rw[dF (show ¬((0:Nat):Int)>0 by decide),cF]) (x:=((n:Int),c3.1,c3.2.1,c3.2.2,p.1,p.2.1,p.2.2.1,p.2.2.2.1,p.2.2.2.2)) ⟨rfl,w3,by show p.2.2.2.2.length<=12+0;omega,hp.2⟩
  exact⟨_,uH d1 rfl,Ar.le (n:=100) ⟨d2,d3⟩ (by decide)⟩
theorem fnRepliesBent_pure (code:List Int) (hw:Cs.wf (.one (.sl (.one (.int .u8)))) code):tG code=some true:=by
 unfold tG fN;by_cases hbig:(code.length:Int)>1048576
 · simp only[dT hbig,Option.bind_some,cT]
 simp only[dF hbig,Option.bind_some,cF];obtain⟨b,p,e1,h1,h2,h3⟩:=Gy (code:=code) (by omega);obtain⟨q,e2,h4⟩:=JA (code:=code) (by omega);obtain⟨l1,l2,l3⟩:=HC h1 h2 h3;rw[e1];simp only[Option.bind_some,If h1 h2 h3,Ik h1 h2 h3,e2,beq_self_eq_true,cT,G8 l2,xU l1,zc h4,BB h4];cases he:(sE b p).2.2 with
 | true=>rfl
 | false=>rw[l3 he,cF,xU h2];rfl
end Go.V.W

