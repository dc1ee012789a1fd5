/- The law FnJunk: part of the proof that for every input it returns true. No condition. -/
import Derived.Test.YthcdcolihokdmaaGreatFnJunkB
set_option linter.unusedVariables false
set_option linter.unusedSimpArgs false
namespace Go.V.W
theorem NL {code:List Int} (h:code.length<=1048576):∃w m,fD code=some (w,m)/\w.length<=20/\tT m/\m.length<=M:=by
 obtain⟨c0,e0,w0⟩:=OD (code:=code) h;obtain⟨c1,w,e1,w1,hw⟩:=M6 w0 (l:=[[121,97,114,100],[121,97,114,100],[111,112,101,110]]) (by decide);have hwl:w.length<=20:=HD hw (by decide)
 obtain⟨c2,p,e2,w2,hp⟩:=Ol w1;obtain⟨c3,t,e3,w3⟩:=EL w2 8;have hpl:=Io p
 unfold fD;rw[e0,Option.bind_some,e1,Option.bind_some];simp only;rw[e2,Option.bind_some];simp only;rw[e3,Option.bind_some];simp only;cases t with
 | true =>
  obtain⟨c4,n,e4,w4,hn0,hn⟩:=uy w3 3;have hn3:=hn (by decide)
  have hi1:=vb n;have ht1:=tY 2 (body:=tA n)
  have ht2:=tY 4 (body:=([121,97,114,100]:List Int));have h4:([121,97,114,100]:List Int).length=4:=rfl
  have hy:tT ([121,97,114,100]:List Int):=DU [121,97,114,100];have hhd:(sL 2 (tA n)++sL 4 ([121,97,114,100]:List Int)).length<=40:=by rw[List.length_append];omega
  have hbh:tT (sL 2 (tA n)++sL 4 ([121,97,114,100]:List Int)):=xq (vG (by decide) (A8 (by omega)) (by omega)) (vG (by decide) hy (by omega));rw[cT,e4,Option.bind_some];simp only;rw[zt,Option.bind_some,y7 (by omega),vH _ (by simp) (by show _<=1048576;omega),if_pos ⟨by decide,by omega⟩,Option.bind_some,List.nil_append,vH _ (by omega) (by show _<=1048576;omega),if_pos ⟨by decide,by omega⟩,Option.bind_some,Fk (hp.le (by decide)),Option.bind_some,rP (by omega),Option.bind_some,vH _ (by simp) (by rw[List.length_append];show _<=1048576;omega),Option.bind_some,List.nil_append];refine⟨w,_,rfl,hwl,?_,?_⟩
  · split
    · rename_i hc;exact vG hc.1 (xq hbh (Iq p)) hc.2
    · exact λx hx=>by cases hx
  · split
    · rename_i hc;have:=tY 48 (body:=sL 2 (tA n)++sL 4 ([121,97,114,100]:List Int)++xe p)
      have hc2:=hc.2;show _<=1048576
      omega
    · show 0<=1048576;omega
 | false =>
  obtain⟨m1,m2⟩:=CR [121,97,114,100] p;obtain⟨c4,m,e4,w4,hm⟩:=KK w3 m1.1 m2;rw[cF,BD _ (hp.le (by decide)),Option.bind_some,e4,Option.bind_some];exact⟨w,m,rfl,hwl,hm.1,by have:=hm.2;show _<=1048576;omega⟩
theorem fnJunk_pure (code:List Int) (hw:Cs.wf (.one (.sl (.one (.int .u8)))) code):Bb code=some true:=by
 unfold Bb gJ;by_cases hbig:(code.length:Int)>1048576
 · simp only[dT hbig,Option.bind_some,cT]
 simp only[dF hbig,Option.bind_some,cF];obtain⟨a,m0,ed,hA,_,hlim,hpw⟩:=Ni (code:=code) (by omega);obtain⟨w,m,eg,hwl,hb,hm⟩:=NL (code:=code) (by omega);obtain⟨e1,_⟩:=Hm w hb hm;obtain⟨l1,l2⟩:=sE hA.lo;obtain⟨_,c2,c3,_⟩:=vv (wC hA.b.ok).1;obtain⟨c20,c21⟩:=sE c2;obtain⟨c30,c31⟩:=sE c3;obtain⟨r,d,r1,r2,hc⟩:=Nj hA hwl hb hm (by omega) hpw;rw[ed,Option.bind_some,eg,Option.bind_some];simp only;rw[e1,Option.bind_some];refine uH (a:=r) r1 ?_;rw[r2,Option.bind_some];generalize sy w m=g at hc ⊢;rcases hc with ⟨⟨h0,h1⟩,q,hq,hid,k1,k2⟩|⟨h3,hd,k1,k2⟩|⟨hn,h3,hd,k1,k2⟩
 · have k1':d.1.2.2.2.2.2.2.2.1=a.2.2.2.2.2.2.2.1:=k1;have k2':d.1.2.2.2.2.2.2.2.2.1=a.2.2.2.2.2.2.2.2.1:=k2
   have e2:((([q]:List uV).length:Int)==1)=true:=rfl;have i0:ix ([q]:List uV).length 0=some 0:=rfl
   rw[show (g.2==0)=true from beq_iff_eq.2 h0,cT,Option.bind_some,show (g.1.1 != 162)=true from bne_iff_ne.2 h1,cT,hq];simp only[e2,cT,i0,Option.bind_some,List.getElem?_cons_zero,hid,k1',k2',beq_self_eq_true]
 · have k1':d.1.2.2.2.2.2.2.2.2.1=a.2.2.2.2.2.2.2.2.1+1:=k1;have k2':d.1.2.2.2.2.2.2.2.1=a.2.2.2.2.2.2.2.1:=k2
   have c31:a.2.2.2.2.2.2.2.2.1<=1000000:=c31;have c30:0<=a.2.2.2.2.2.2.2.2.1:=c30
   have e0:((([]:List uV).length:Int)==0)=true:=rfl;rw[show (g.2==0)=false from beq_eq_false_iff_ne.2 (by omega),cF,Option.bind_some,cF,show (g.2==3)=true from beq_iff_eq.2 h3,cT,hd];simp only[e0,cT,Option.bind_some,k1',k2',sg (n:=a.2.2.2.2.2.2.2.2.1+1) (by omega) (by omega),beq_self_eq_true]
 · have k1':d.1.2.2.2.2.2.2.2.1=a.2.2.2.2.2.2.2.1+1:=k1;have k2':d.1.2.2.2.2.2.2.2.2.1=a.2.2.2.2.2.2.2.2.1:=k2
   have c21:a.2.2.2.2.2.2.2.1<=1000000:=c21;have c20:0<=a.2.2.2.2.2.2.2.1:=c20
   have e0:((([]:List uV).length:Int)==0)=true:=rfl;have e3:(cond (g.2==0) (some (g.1.1 != 162)) (some false))=some false:=by
    cases h0:(g.2==0)with
    | false=>rfl
    | true =>
     rw[cT];cases h1:(g.1.1 != 162)with
     | false=>rfl
     | true=>exact absurd ⟨beq_iff_eq.1 h0,bne_iff_ne.1 h1⟩ hn
   rw[e3,Option.bind_some,cF,show (g.2==3)=false from beq_eq_false_iff_ne.2 h3,cF,hd];simp only[e0,cT,Option.bind_some,k1',k2',sg (n:=a.2.2.2.2.2.2.2.1+1) (by omega) (by omega),beq_self_eq_true]
end Go.V.W

