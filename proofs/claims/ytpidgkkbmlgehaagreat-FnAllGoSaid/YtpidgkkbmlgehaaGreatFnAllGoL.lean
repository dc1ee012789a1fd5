/- The law FnAllGo: part of the proof that for every input it returns true. No condition. -/
import Derived.Test.YtpidgkkbmlgehaaGreatFnAllGoB
open List (length_map)
set_option linter.unusedVariables false
set_option linter.unusedSimpArgs false
namespace Go.V.W
theorem Lg {r:sL×List vT} (hn:r.2.length<=1000) (hk:∀x∈r.2,x.2.1=162) (hp:(r.2.map λx=>x.1).Pairwise λi j=>i<j):loop (λz=>cN r z) 0=some (.inl ()):=by
 refine Mf (n:=r.2.length) (λk hkk=>?_) ?_
 · show cN r (k:Int)=_;unfold cN;have h162:((r.2[k]).2.1 != 162)=false:=by rw[hk _ (List.getElem_mem hkk)];rfl
   simp only[tC (show (k:Int)<(r.2.length:Int) by omega),cT,sO hkk,Option.bind_some,h162,cF,sK (show k<9223372036854775807 by omega)];by_cases h0:0<k
   · have h1:k-1<r.2.length:=by omega
     have e:sy ((k:Int)-1)=((k-1:Nat):Int):=by rw[sV (by omega) (by omega)];omega
     have hlt:=List.pairwise_iff_getElem.1 hp (k-1) k (by rw[length_map];omega) (by rw[length_map];omega) (by omega);rw[List.getElem_map,List.getElem_map]at hlt;rw[dT (show (k:Int)>0 by omega),cT,e,sO h1,Option.bind_some,dF (show ¬r.2[k-1].1>=r.2[k].1 by omega)];rfl
   · rw[dF (show ¬(k:Int)>0 by omega)];rfl
 · show cN r (r.2.length:Int)=_;unfold cN;rw[tk (by omega),cF]
theorem fnAllGo_pure (code:List Int) (hw:Cs.wf (.one (.sl (.one (.int .u8)))) code):AW code=some true:=by
 unfold AW hP;by_cases hbig:(code.length:Int)>1048576
 · simp only[dT hbig,Option.bind_some,cT]
 simp only[dF hbig,Option.bind_some,cF];obtain⟨a,m,ed,hA,hM,hlim⟩:=Oq (code:=code) (by omega);have hml:m.length<=M:=by have:=hM.2;show _<=1048576;omega
 obtain⟨r,r1,_,hR,_⟩:=FK hA hM.1 hml;obtain⟨t,ht,hT⟩:=LZ (code:=code) (by omega);have hn:=hR.n
 have hall:=F9 hR;have hall':yL r<=500:=by omega
 obtain⟨b',d,e1,e2,e3,e4⟩:=FJ 500 r hR hall';have hwa:eY r 500=some (wQ 500 r):=LK hR (n:=500) (by omega)
 have hans:=LW hR.ale (λj hj=>(hR.j j hj).byt);obtain⟨q,q1,q2⟩:=LV hT.2.1 hT.2.2;have hd:gp code=some t:=by unfold gp;rw[ht,Option.bind_some]
 have hlen:d.length=((sA r).filter (uB (aW r))).length:=by
  have:=congrArg List.length e3
  rwa [length_map,length_map]at this
 have hfl:((sA r).filter (uB (aW r))).length<=(sA r).length:=List.length_filter_le _ _;have hloop:loop (λz=>cN (u9 b' (aW r) [] (tN r) (sZ r),d) z) 0=some (.inl ()):=Lg (by show d.length<=1000;omega) e4 (by
  show (d.map λx=>x.1).Pairwise _;rw[e3];exact List.pairwise_map.2 (hR.up.filter _))
 have hok:bQ (u9 b' (aW r) [] (tN r) (sZ r))=some true:=by
  have hI:u5 (u9 b' (aW r) [] (tN r) (sZ r)):=⟨e2,hR.w,by show 0<=6;omega,hR.lo,hR.la,(λj hj=>by cases hj),List.Pairwise.nil,(λj hj=>by cases hj)⟩;rw[A6 hI.awf,hI.ok]
 have hidle:f7 (u9 b' (aW r) [] (tN r) (sZ r))=some true:=rfl;rw[ed];simp only[Option.bind_some,r1,hwa,e1,hans,hd];refine v7 hloop ?_;rw[Sum.elim_inl,hidle,Option.bind_some,cT,hok,q1,q2];have hq:((d.length:Int)==((((sA r).filter (uB (aW r))).length:Nat):Int))=true:=beq_iff_eq.2 (by rw[hlen])
 simp only[hq,Option.bind_some,cT,beq_self_eq_true];unfold f7;simp only[Option.bind_some,beq_self_eq_true]
end Go.V.W

