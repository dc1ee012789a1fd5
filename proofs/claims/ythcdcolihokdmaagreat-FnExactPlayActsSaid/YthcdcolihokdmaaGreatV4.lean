/- V: a run of the model's code over plain data, and that it is what the machine does. Part 4 of 4. No condition. -/
import Derived.Test.YthcdcolihokdmaaGreatV3
import Derived.Laws.Sem
import Derived.ChangeOld
import Derived.WideShapes
import Derived.ChangeArms
import Derived.Carry
import Derived.Below
open List (all_eq_true any_cons append_assoc append_eq_nil_iff append_nil count_append flatMap_append flatMap_cons length_cons length_take map_append mem_append mem_append_left mem_append_right mem_cons mem_cons_of_mem mem_cons_self mem_map mem_map_of_mem)
set_option linter.unusedVariables false
set_option linter.unusedSimpArgs false
namespace Go.V
variable {P:Program} {G:yU} {w0:World} {T N:Nat->Prop} {en en':List (th×Entry)} {S:St} {g g':Gh} {w:World} {a:Act} {I:Nat->Prop}

def IR (tmps:Array Value):ResultVar->Sem Value
 | .tmp t=>pure (tmps.getD t undef)
 | .cell a t=>do loadVar t (←asAddr (tmps.getD a undef))
theorem Gk (h:xR w0 T N S g w a) (hT:zG P G.ti):∀{rv:List ResultVar} {vs:List AV},Ek G S rv=some vs->∃rvals,xn (xO (dom S.en) g w) vs rvals/\(rv.mapM (IR a.tmps)).run P w=.ok rvals w
 | [],vs,hr=>by cases hr;exact⟨[],trivial,rfl⟩
 | .tmp t::l,vs,hr=>by
  simp only[Ek]at hr;cases hl:Ek G S l with
  | none=>rw[hl]at hr;cases hr
  | some us =>
   rw[hl]at hr;cases hr;obtain⟨rvals,h1,h2⟩:=Gk h hT hl;refine⟨a.tmps.getD t undef::rvals,⟨h.tmps t,h1⟩,?_⟩;rw[List.mapM_cons];simp only[IR,Sem.run_bind,Sem.run_pure,Result.andThen,h2]
 | .cell b t::l,vs,hr=>by
  simp only[Ek]at hr;cases hi:wW G.ti t with
  | none=>rw[hi]at hr;cases hr
  | some i =>
   rw[hi]at hr;obtain⟨n,hb⟩:∃n,S.tmp b=.cell (.box n 0):=by
    cases hb:S.tmp b with
    | cell c =>
     rw[hb]at hr;cases c with
     | box n off=>cases off with
      | zero=>exact⟨n,rfl⟩
      | succ _=>cases hr
     | _=>cases hr
    | agg _=>rw[hb]at hr;cases hr
    | tup _=>rw[hb]at hr;cases hr
   rw[hb]at hr;simp only at hr;cases hn:S.ent n with
   | none=>rw[hn]at hr;cases hr
   | some en1 =>
    cases hl:Ek G S l with
    | none=>rw[hn,hl]at hr;cases en1<;>cases hr
    | some us =>
     rw[hn,hl]at hr;cases en1 with
     | tree=>cases hr
     | frz=>cases hr
     | box cs =>
      simp only at hr;cases hlen:Nat.beq cs.length i.cs.len with
      | false=>rw[hlen]at hr;cases hr
      | true =>
       rw[hlen]at hr;cases hr;obtain⟨rvals,h1,h2⟩:=Gk h hT hl;have hbv:=h.tmps b
       rw[hb]at hbv;obtain⟨_,blk,e1,e2⟩:=hbv;obtain⟨blk',ws,e3,e4,e5,e6⟩:=h.mem.rep n _ hn;rw[e1]at e4;cases e4;have hl2:ws.length=i.cs.len:=by rw[←e6.length];exact Nat.eq_of_beq_eq_true hlen
       obtain⟨d,u,z,hf⟩:=hT.facts hi;have hload:=JA (P:=P) hf (yr.row e5) hl2
       refine⟨(if i.agg then .agg ws.toArray else ws.headD undef)::rvals,⟨?_,h1⟩,?_⟩
       · cases ha:i.agg with
         | true=>exact E7 e6 (.inr ⟨rfl,rfl⟩)
         | false =>
          obtain⟨c,hc,_⟩:=hf.plain ha;rw[hc]at hl2
          match ws,hl2,e6 with
          | [v],_,e6=>exact E7 e6 (.inl ⟨rfl,rfl⟩)
       · rw[List.mapM_cons];simp only[IR,e2,asAddr,Sem.run_bind,Sem.run_pure,Result.andThen,hload,h2]
     | gone=>cases hr
     | fwd _ _=>cases hr
     | root _ _ _=>cases hr
def LY (vs:List Value):Value:=match vs with | [v]=>v|vs=>.tuple vs.toArray
theorem JP {fn:Func} {tmps:Array Value} {rvals:List Value} (h:(fn.results.toList.mapM (IR tmps)).run P w=.ok rvals w):(results fn tmps).run P w=.ok (LY rvals) w:=by
 have e:results fn tmps=(do
  let vs ←fn.results.mapM (IR tmps)
  pure (if h:vs.size=1 then vs[0]else .tuple vs)):=by
  unfold results
  congr 1
 rw[e,Array.mapM_eq_mapM_toList];simp only[Sem.run_bind,Sem.run_pure,map_eq_pure_bind,Result.andThen,h]
 congr 1
 match rvals with
 | []=>rfl
 | [v]=>rfl
 | _::_::_=>simp[LY]
def Cc (I:Nat->Prop) (w:World):(rs:List yY)->xc (xZ rs)->List Value->List Nat->List Nat->Prop
 | [],_,vs,ts,ns=>vs=[]/\ts=[]/\ns=[]
 | .val agg c own::rs,x,vs,ts,ns=>∃v vs' us t1 t2 n1 n2,vs=v::vs'/\isAgg agg v us/\ts=t1++t2/\ns=n1++n2/\Cb I w own c (xc.hd c (xZ rs) x) us t1 n1/\Cc I w rs (xc.tl c (xZ rs) x) vs' t2 n2
 | .ptr c own::rs,x,vs,ts,ns=>∃b vs' us t1 t2 n1 n2,vs=.pointer (some ⟨b,0,none⟩)::vs'/\yr w b us/\ts=b::(t1++t2)/\ns=n1++n2/\Cb I w own c (xc.hd c (xZ rs) x) us t1 n1/\Cc I w rs (xc.tl c (xZ rs) x) vs' t2 n2
 | .cold agg c::rs,x,vs,ts,ns=>∃v vs' us n1 n2,vs=v::vs'/\isAgg agg v us/\ns=n1++n2/\(∃F,Cs.Rep w c (xc.hd c (xZ rs) x) us F/\(∀b∈F,I b)/\∀b,F.count b<=n1.count b)/\Cc I w rs (xc.tl c (xZ rs) x) vs' ts n2
def Cg (I:Nat->Prop) (w:World):(ps:List yj)->(rs:List yY)->xc (yD ps rs)->List Nat->List Value->List Nat->List Nat->Prop
 | [],rs,x,bs,vs,ts,ns=>bs=[]/\Cc I w rs x vs ts ns
 | .val .. :: ps,rs,x,bs,vs,ts,ns=>Cg I w ps rs x bs vs ts ns
 | .ptr c own::ps,rs,x,bs,vs,ts,ns=>∃b bs' us t1 t2 n1 n2,bs=b::bs'/\yr w b us/\ts=b::(t1++t2)/\ns=n1++n2/\Cb I w own c (xc.hd c (yD ps rs) x) us t1 n1/\Cg I w ps rs (xc.tl c (yD ps rs) x) bs' vs t2 n2
theorem Dc (hm:zv en g w):∀{rs:List yY} {vs:List AV} {rvals:List Value} {y:xc (xZ rs)×List (th×Entry)} {L:List th},xn (xO (dom en) g w) vs rvals->DH rs vs=true->(Dn rs vs).Runs (wW en) y L ->
 ∀{used:List (th×Entry)},N6 en g I used []->(∀p∈y.2,p∈used)->Cc I w rs y.1 rvals (z5 g y.2) (zf en g y.2)/\zy en y.2
 | [],[],[],y,L,_,_,hr,used,hs,hsub=>by obtain⟨rfl,_⟩:=hr;exact⟨⟨rfl,rfl,rfl⟩,λp hp=>by simp at hp⟩
 | .val agg c own::rs,v::vs,u::rvals,y,L,ha,ho,hr,used,hs,hsub=>by
  simp only[Dn]at hr;obtain⟨a,L1,L2,_,h1,hr⟩:=Rd.runs_bind hr;obtain⟨b,L3,L4,_,h2,hr⟩:=Rd.runs_bind hr;obtain⟨rfl,_⟩:=hr;simp only[DH,aT]at ho;obtain⟨us,hag,hcs⟩:=Gf ha.1 ho.1;obtain⟨k1,k2⟩:=Dc hm ha.2 ho.2 h2 hs (λp hp=>hsub p (mem_append_right _ hp));obtain⟨k4,k5⟩:=Ds hm hcs h1 hs (λp hp=>hsub p (mem_append_left _ hp));refine⟨⟨u,rvals,us,_,_,_,_,rfl,hag,flatMap_append,flatMap_append,?_,?_⟩,k5.append k2⟩
  · show Cb I w own c (xc.hd c (xZ rs) (xc.mk c (xZ rs) a.1 b.1)) us _ _;rw[xc.hd_mk];exact k4
  · show Cc I w rs (xc.tl c (xZ rs) (xc.mk c (xZ rs) a.1 b.1)) rvals _ _;rw[xc.tl_mk];exact k1
 | .ptr c own::rs,.cell (.box n 0)::vs,u::rvals,y,L,ha,ho,hr,used,hs,hsub=>by
  simp only[Dn]at hr;obtain⟨L',_,hr⟩:=hr;dsimp only at hr;split at hr
  · rename_i cs hn;obtain⟨a,L1,L2,_,h1,hr⟩:=Rd.runs_bind hr;obtain⟨b,L3,L4,_,h2,hr⟩:=Rd.runs_bind hr;obtain⟨rfl,_⟩:=hr;obtain⟨k1,k2⟩:=Dc hm ha.2 ho h2 hs (λp hp=>hsub p (mem_cons_of_mem _ (mem_append_right _ hp)));obtain⟨blk,us,e1,e2,e3,e4⟩:=hm.rep n _ hn;obtain⟨k4,k5⟩:=Ds hm e4 h1 hs (λp hp=>hsub p (mem_cons_of_mem _ (mem_append_left _ hp)));obtain⟨_,blk',e5,e6⟩:=ha.1;rw[e2]at e5;cases e5;refine⟨⟨blk,rvals,us,z5 g a.2,z5 g b.2,zf en g a.2,zf en g b.2,by rw[e6],e3,?_,?_,?_,?_⟩,?_⟩
    · show ((n,Entry.gone)::(a.2++b.2)).flatMap (Bs g)=_;rw[flatMap_cons,flatMap_append];simp[Bs,e1,z5]
    · show ((n,Entry.gone)::(a.2++b.2)).flatMap (B4 en g)=_;rw[flatMap_cons,flatMap_append];simp[B4,hn,zf]
    · show Cb I w own c (xc.hd c (xZ rs) (xc.mk c (xZ rs) a.1 b.1)) us _ _;rw[xc.hd_mk];exact k4
    · show Cc I w rs (xc.tl c (xZ rs) (xc.mk c (xZ rs) a.1 b.1)) rvals _ _;rw[xc.tl_mk];exact k1
    · intro p hp;rcases mem_cons.1 hp with rfl|hp
      · exact .inr (.inl ⟨rfl,cs,hn⟩)
      · exact (k5.append k2) p hp
  · exact hr.elim
 | .cold agg c::rs,v::vs,u::rvals,y,L,ha,ho,hr,used,hs,hsub=>by
  simp only[Dn]at hr;obtain⟨a,L1,L2,_,h1,hr⟩:=Rd.runs_bind hr;obtain⟨_,L5,L6,_,h0,hr⟩:=Rd.runs_bind hr;obtain⟨b,L3,L4,_,h2,hr⟩:=Rd.runs_bind hr;obtain⟨rfl,_⟩:=hr;simp only[DH,aT]at ho;obtain⟨us,hag,hcs⟩:=Gf ha.1 ho.1;obtain⟨k1,k2⟩:=Dc hm ha.2 ho.2 h2 hs (λp hp=>hsub p (mem_append_right _ hp));obtain⟨P,hP⟩:=UH hm;obtain⟨F,Gs,c1,c2,c3⟩:=Cs.chill_sound hm hP hcs h1;obtain⟨d1,d2,d3,d4⟩:=O0 hm hP (Rd.runs_need h0).1 c3;rw[←c2]at d1 d4;have et:z5 g (DG a.2++b.2)=z5 g b.2:=by
   show (DG a.2++b.2).flatMap (Bs g)=_;rw[flatMap_append,show (DG a.2).flatMap (Bs g)=[]from d2,List.nil_append];rfl
  refine⟨⟨u,rvals,us,zf en g (DG a.2),zf en g b.2,rfl,hag,flatMap_append,?_,?_⟩,d3.append k2⟩
  · refine⟨F,?_,λq hq=>hs.old q (d4 q hq),d1⟩;show Cs.Rep w c (xc.hd c (xZ rs) (xc.mk c (xZ rs) a.1 b.1)) us F;rw[xc.hd_mk];exact c1
  · show Cc I w rs (xc.tl c (xZ rs) (xc.mk c (xZ rs) a.1 b.1)) rvals (z5 g (DG a.2++b.2)) _;rw[xc.tl_mk,et];exact k1
 | .cold _ _::_,[],_,_,_,_,_,hr,_,_,_=>hr.elim
 | .val _ _ _::_,[],_,_,_,_,_,hr,_,_,_=>hr.elim
 | .ptr _ _::_,[],_,_,_,_,_,hr,_,_,_=>hr.elim
 | [],_::_,_,_,_,_,_,hr,_,_,_=>hr.elim
def QG (g:Gh):Nat->List yj->List Nat->Prop
 | _,[],bs=>bs=[]
 | i,.val .. :: ps,bs=>QG g (i+1) ps bs
 | i,.ptr .. :: ps,bs=>∃b bs',bs=b::bs'/\g.loc (64*i+1)=.pointer (some ⟨b,0,none⟩)/\QG g (i+1) ps bs'
theorem EG (hm:zv en g w):∀{ps:List yj} {rs:List yY} {i:Nat} {vs:List AV} {rvals:List Value} {y:xc (yD ps rs)×List (th×Entry)} {L:List th},xn (xO (dom en) g w) vs rvals->DH rs vs=true->(E3 i ps rs vs).Runs (wW en) y L ->
 ∀{used:List (th×Entry)},N6 en g I used []->(∀p∈y.2,p∈used)->∃bs,Cg I w ps rs y.1 bs rvals (z5 g y.2) (zf en g y.2)/\zy en y.2/\QG g i ps bs
 | [],rs,i,vs,rvals,y,L,ha,ho,hr,used,hs,hsub=>by
  obtain⟨k1,k2⟩:=Dc hm ha ho hr hs hsub;exact⟨[],⟨rfl,k1⟩,k2,rfl⟩
 | .val agg c mv::ps,rs,i,vs,rvals,y,L,ha,ho,hr,used,hs,hsub=>EG (ps:=ps) (i:=i+1) hm ha ho hr hs hsub
 | .ptr c own::ps,rs,i,vs,rvals,y,L,ha,ho,hr,used,hs,hsub=>by
  simp only[E3]at hr;obtain⟨L',_,hr⟩:=hr;dsimp only at hr;split at hr
  · rename_i cs hn;obtain⟨a,L1,L2,_,h1,hr⟩:=Rd.runs_bind hr;obtain⟨b,L3,L4,_,h2,hr⟩:=Rd.runs_bind hr;obtain⟨rfl,_⟩:=hr;obtain⟨bs,k1,k2,k3⟩:=EG hm ha ho h2 hs (λp hp=>hsub p (mem_cons_of_mem _ (mem_append_right _ hp)));obtain⟨blk,us,e1,e2,e3,e4⟩:=hm.rep (64*i+1) _ hn;obtain⟨k4,k5⟩:=Ds hm e4 h1 hs (λp hp=>hsub p (mem_cons_of_mem _ (mem_append_left _ hp)));refine⟨blk::bs,⟨blk,bs,us,z5 g a.2,z5 g b.2,zf en g a.2,zf en g b.2,rfl,e3,?_,?_,?_,?_⟩,?_,blk,bs,rfl,e2,k3⟩
    · show ((64*i+1,Entry.gone)::(a.2++b.2)).flatMap (Bs g)=_;rw[flatMap_cons,flatMap_append];simp[Bs,e1,z5]
    · show ((64*i+1,Entry.gone)::(a.2++b.2)).flatMap (B4 en g)=_;rw[flatMap_cons,flatMap_append];simp[B4,hn,zf]
    · show Cb I w own c (xc.hd c (yD ps rs) (xc.mk c (yD ps rs) a.1 b.1)) us _ _;rw[xc.hd_mk];exact k4
    · show Cg I w ps rs (xc.tl c (yD ps rs) (xc.mk c (yD ps rs) a.1 b.1)) bs rvals _ _;rw[xc.tl_mk];exact k1
    · intro p hp;rcases mem_cons.1 hp with rfl|hp
      · exact .inr (.inl ⟨rfl,cs,hn⟩)
      · exact (k5.append k2) p hp
  · exact hr.elim
end Go.V
namespace Go.V
variable {w0:World} {T N:Nat->Prop} {en E:List (th×Entry)} {g g':Gh} {w:World} {I:Nat->Prop}

theorem QH {l:List (th×Entry)} {n:th} (h:n∉l.map (·.1)):wW l n=none:=by
 cases hf:wW l n with
 | none=>rfl
 | some y=>exact absurd (Av.2 (by rw[hf];simp)) h
theorem Dt {l m:List (th×Entry)} {n:th} (h1:n∉l.map (·.1)) (h2:wW m n=none):wW (l++m) n=none:=by rw[xV h1];exact h2
theorem zk.congr {new new':List (th×Entry)} {ts ns:List Nat} (h:zk w0 T N E g w new g' ts ns) (he:∀n,wW (new++E) n=wW (new'++E) n):zk w0 T N E g w new' g' ts ns:=by
 refine⟨h.ms.congr he,by rw[←AM he];exact h.le,h.imm,h.giv.t1,h.giv.n1,λb hb=>?_,λb hb=>?_,λb hb m f hm=>h.giv.tw b hb m f ((he m).trans hm)⟩
 · obtain⟨k1,k2,k3⟩:=h.giv.tf b hb;exact⟨k1,λm f hm=>k2 m f ((he m).trans hm),k3⟩
 · obtain⟨k1,k2⟩:=h.giv.nf b hb;exact⟨λm f hm=>k1 m f ((he m).trans hm),k2⟩
theorem MK {D:th->Prop} {agg:Bool} {cs:List Cell} {v:Value} {us:List Value} (h:xn (xd D g w) cs us) (ha:isAgg agg v us):yK D g w (Ah agg cs) v:=by
 have:=E7 h ha;cases hx:Ah agg cs with
 | cell c=>rw[hx]at this;exact this
 | agg ds=>rw[hx]at this;exact this
 | tup l =>
  exfalso;cases agg with
  | true=>cases cs<;>cases hx
  | false=>cases cs with
   | nil=>cases hx
   | cons c cs=>cases cs<;>cases hx
theorem DT:∀(rs:List yY) (n:th) (x:xc (xZ rs)) (rvals:List Value) (ts ns ts' ns':List Nat) (g:Gh),MS w0 T N E g w->zx w0 T N E g (ts++ts') (ns++ns')->Cc g.I w rs x rvals ts ns->xm (xB n rs x).news=true ->
 (∀p∈(xB n rs x).news,wW E p.1=none)->(xB n rs x).upds=[]/\∃g',zk w0 T N E g w (xB n rs x).news g' ts' ns'/\xn (yK (dom ((xB n rs x).news++E)) g' w) (xB n rs x).vals rvals
 | [],n,x,rvals,ts,ns,ts',ns',g,h,hv,ha,hd,hf=>by
  obtain⟨rfl,rfl,rfl⟩:=ha;exact⟨rfl,g,zk.refl h (by simpa using hv),trivial⟩
 | .val agg c own::rs,n,x,rvals,ts,ns,ts',ns',g,h,hv,ha,hd,hf=>by
  obtain⟨v,vs',us,t1,t2,n1,n2,rfl,hag,rfl,rfl,hin,ha⟩:=ha;obtain⟨d1,d2,d3⟩:=yw (l:=(zJ own n c (xc.hd c (xZ rs) x)).2) (m:=(xB (n+64) rs (xc.tl c (xZ rs) x)).news) hd;obtain⟨e0,g1,k1,k2⟩:=DT rs (n+64) (xc.tl c (xZ rs) x) vs' t2 n2 (t1++ts') (n1++ns') g h (hv.mono (λb=>by simp only[count_append];omega) (λb=>by simp only[count_append];omega)) ha d2 (λp hp=>hf p (mem_append_right _ hp));obtain⟨g2,k4,k5⟩:=Ey (n:=n) k1.ms (hin.imm λb hb=>by rw[k1.imm];exact hb) k1.giv (λp hp=>Dt (d3 p.1 (mem_map_of_mem hp)) (hf p (mem_append_left _ hp))) d1;have e:(xB n (.val agg c own::rs) x).news++E=(zJ own n c (xc.hd c (xZ rs) x)).2++((xB (n+64) rs (xc.tl c (xZ rs) x)).news++E):=append_assoc _ _ _
  refine⟨e0,g2,k1.trans k4,?_,?_⟩
  · rw[e];exact MK k5 hag
  · rw[e];exact xn.imp (λ_ _=>yK.mono k4.le) k2
 | .cold agg c::rs,n,x,rvals,ts,ns,ts',ns',g,h,hv,ha,hd,hf=>by
  obtain⟨v,vs',us,n1,n2,rfl,hag,rfl,⟨F,hF,hFI,hFc⟩,ha⟩:=ha;obtain⟨d1,d2,d3⟩:=yw (l:=(Cs.giveF n c (xc.hd c (xZ rs) x)).2) (m:=(xB (n+64) rs (xc.tl c (xZ rs) x)).news) hd;obtain⟨e0,g1,k1,k2⟩:=DT rs (n+64) (xc.tl c (xZ rs) x) vs' ts n2 ts' (F++ns') g h (hv.mono (λb=>Nat.le_refl _) (λb=>by have:=hFc b;simp only[count_append];omega)) ha d2 (λp hp=>hf p (mem_append_right _ hp));obtain⟨g2,k4,k5⟩:=Cs.giveF_put (n:=n) k1.ms hF (λb hb=>by rw[k1.imm];exact hFI b hb) k1.giv (λp hp=>Dt (d3 p.1 (mem_map_of_mem hp)) (hf p (mem_append_left _ hp))) d1;have e:(xB n (.cold agg c::rs) x).news++E=(Cs.giveF n c (xc.hd c (xZ rs) x)).2++((xB (n+64) rs (xc.tl c (xZ rs) x)).news++E):=append_assoc _ _ _
  refine⟨e0,g2,k1.trans k4,?_,?_⟩
  · rw[e];exact MK k5 hag
  · rw[e];exact xn.imp (λ_ _=>yK.mono k4.le) k2
 | .ptr c own::rs,n,x,rvals,ts,ns,ts',ns',g,h,hv,ha,hd,hf=>by
  obtain⟨b,vs',us,t1,t2,n1,n2,rfl,hob,rfl,rfl,hin,ha⟩:=ha;obtain⟨d0,hd⟩:=yP (n:=n) (l:=(zJ own (n+1) c (xc.hd c (xZ rs) x)).2++(xB (n+64) rs (xc.tl c (xZ rs) x)).news) hd;obtain⟨d1,d2,d3⟩:=yw hd;have hf1:∀p∈(zJ own (n+1) c (xc.hd c (xZ rs) x)).2++(xB (n+64) rs (xc.tl c (xZ rs) x)).news,wW E p.1=none:=λp hp=>hf p (mem_cons_of_mem _ hp)
  obtain⟨e0,g1,k1,k2⟩:=DT rs (n+64) (xc.tl c (xZ rs) x) vs' t2 n2 (t1++(b::ts')) (n1++ns') g h (hv.mono (λb'=>by simp only[count_append,List.count_cons,List.cons_append];omega) (λb=>by simp only[count_append];omega)) ha d2 (λp hp=>hf1 p (mem_append_right _ hp));obtain⟨g2,k4,k5⟩:=Ey (n:=n+1) k1.ms (hin.imm λb hb=>by rw[k1.imm];exact hb) k1.giv (λp hp=>Dt (d3 p.1 (mem_map_of_mem hp)) (hf1 p (mem_append_left _ hp))) d1;have k6:=k1.trans k4
  have hfree:wW ((zJ own (n+1) c (xc.hd c (xZ rs) x)).2++(xB (n+64) rs (xc.tl c (xZ rs) x)).news++E) n=none:=Dt d0 (hf (n,_) mem_cons_self);obtain⟨g3,k7,k8⟩:=LX k6.ms hob (by rw[append_assoc];exact k5) k6.giv (λhd=>absurd hfree hd) (λe he=>by rw[hfree]at he;cases he);refine⟨e0,g3,k6.trans k7,⟨yz.2 (.inl rfl),b,k8,rfl⟩,?_⟩;refine xn.imp (λ_ _ hx=>?_) k2;have h1:=yK.mono k4.le hx
  rw[←append_assoc]at h1;exact yK.mono k7.le h1
theorem DU:∀(rs:List yY) (n:th) (x:xc (xZ rs)),(xB n rs x).upds=[]
 | [],_,_=>rfl
 | .val _ c _::rs,n,x=>DU rs (n+64) (xc.tl c (xZ rs) x)
 | .ptr c _::rs,n,x=>DU rs (n+64) (xc.tl c (xZ rs) x)
 | .cold _ c::rs,n,x=>DU rs (n+64) (xc.tl c (xZ rs) x)
theorem DV:∀(ps:List yj) (rs:List yY) (n:th) (bs:List th) (x:xc (yD ps rs)),∀p∈(xg n ps rs bs x).upds,p.1∈bs
 | [],rs,n,bs,x,p,hp=>by
  have:(xg n [] rs bs x).upds=[]:=DU rs n x;rw[this]at hp;simp at hp
 | .val .. :: ps,rs,n,bs,x,p,hp=>DV ps rs n bs x p hp
 | .ptr c own::ps,rs,n,[],x,p,hp=>by simp[xg]at hp
 | .ptr c own::ps,rs,n,b::bs,x,p,hp=>by
  have hp:p∈(b,Entry.box (zJ own n c (xc.hd c (yD ps rs) x)).1)::(xg (n+64) ps rs bs (xc.tl c (yD ps rs) x)).upds:=hp;rcases mem_cons.1 hp with rfl|hp
  · exact mem_cons_self
  · exact mem_cons_of_mem _ (DV ps rs (n+64) bs _ p hp)
theorem RO {l m:List (th×Entry)} {b:th} {x:Entry} (h:b∉l.map (·.1)) (n:th):wW ((b,x)::(l++m)) n=wW (l++(b,x)::m) n:=by
 rw[xr,yf,yf,xr];by_cases hbn:b=n
 · subst hbn;rw[if_pos rfl,if_pos rfl,QH h]
 · rw[if_neg hbn,if_neg hbn]
def QI (E:List (th×Entry)) (g:Gh) (n:th) (b:Nat):Prop:=wW E n=some .gone/\g.loc n=.pointer (some ⟨b,0,none⟩)
theorem FC:∀(ps:List yj) (rs:List yY) (n:th) (x:xc (yD ps rs)) (nm:List th) (bs:List Nat) (rvals:List Value) (ts ns ts' ns':List Nat) (g:Gh),MS w0 T N E g w->zx w0 T N E g (ts++ts') (ns++ns')->Cg g.I w ps rs x bs rvals ts ns ->
 xn (QI E g) nm bs->nm.Nodup->xm (xg n ps rs nm x).news=true->(∀p∈(xg n ps rs nm x).news,wW E p.1=none) ->
 ∃g',zk w0 T N E g w ((xg n ps rs nm x).news++(xg n ps rs nm x).upds) g' ts' ns'/\xn (yK (dom ((xg n ps rs nm x).news++(xg n ps rs nm x).upds++E)) g' w) (xg n ps rs nm x).vals rvals
 | [],rs,n,x,nm,bs,rvals,ts,ns,ts',ns',g,h,hv,ha,hp,hnd,hd,hf=>by
  obtain⟨rfl,ha⟩:=ha;have hd:xm (xB n rs x).news=true:=hd
  have hf:∀p∈(xB n rs x).news,wW E p.1=none:=hf;obtain⟨e0,g',k1,k2⟩:=DT rs n x rvals ts ns ts' ns' g h hv ha hd hf;have e:(xB n rs x).news++(xB n rs x).upds=(xB n rs x).news:=by rw[e0,append_nil]
  refine⟨g',?_,?_⟩
  · show zk w0 T N E g w ((xB n rs x).news++(xB n rs x).upds) g' ts' ns';rw[e];exact k1
  · show xn (yK (dom ((xB n rs x).news++(xB n rs x).upds++E)) g' w) (xB n rs x).vals rvals;rw[e];exact k2
 | .val agg c mv::ps,rs,n,x,nm,bs,rvals,ts,ns,ts',ns',g,h,hv,ha,hp,hnd,hd,hf=>FC ps rs n x nm bs rvals ts ns ts' ns' g h hv ha hp hnd hd hf
 | .ptr c own::ps,rs,n,x,[],bs,rvals,ts,ns,ts',ns',g,h,hv,ha,hp,hnd,hd,hf=>by
  obtain⟨b,bs',us,t1,t2,n1,n2,rfl,_⟩:=ha;exact hp.elim
 | .ptr c own::ps,rs,n,x,m::nm,bs,rvals,ts,ns,ts',ns',g,h,hv,ha,hp,hnd,hd,hf=>by
  obtain⟨b,bs',us,t1,t2,n1,n2,rfl,hob,rfl,rfl,hin,ha⟩:=ha;obtain⟨⟨hp1,hp2⟩,hp⟩:=hp;rw[List.nodup_cons]at hnd
  let r:=xg (n+64) ps rs nm (xc.tl c (yD ps rs) x)
  let q:=zJ own n c (xc.hd c (yD ps rs) x)
  have hd:xm (q.2++r.news)=true:=hd;have hf:∀p∈q.2++r.news,wW E p.1=none:=hf
  obtain⟨d1,d2,d3⟩:=yw hd;obtain⟨g1,k1,k2⟩:=FC ps rs (n+64) (xc.tl c (yD ps rs) x) nm bs' rvals t2 n2 (t1++(b::ts')) (n1++ns') g h (hv.mono (λb'=>by simp only[count_append,List.count_cons,List.cons_append];omega) (λb=>by simp only[count_append];omega)) ha hp hnd.2 d2 (λp hp=>hf p (mem_append_right _ hp));have hup:∀p∈r.upds,p.1∈nm:=DV ps rs (n+64) nm _
  have hnmE:∀k∈nm,∃y,wW E k=some y:=by
   intro k hk;have key:∀(l:List th) (bl:List Nat),xn (QI E g) l bl->k∈l->∃y,wW E k=some y:=by
    intro l
    induction l with
    | nil=>intro bl _ hk;simp at hk
    | cons a l ih=>intro bl hl hk;cases bl with
     | nil=>exact hl.elim
     | cons c bl =>
      rcases mem_cons.1 hk with rfl|hk
      · exact⟨_,hl.1.1⟩
      · exact ih bl hl.2 hk
   exact key nm bs' hp hk
  have hnotup:∀p:th×Entry,wW E p.1=none->p.1∉r.upds.map (·.1):=by
   intro p hpE hm;obtain⟨u,hu,he⟩:=mem_map.1 hm;obtain⟨y,hy⟩:=hnmE u.1 (hup u hu);rw[he,hpE]at hy;cases hy
  obtain⟨g2,k4,k5⟩:=Ey (n:=n) k1.ms (hin.imm λb hb=>by rw[k1.imm];exact hb) k1.giv (λp hp=>by
   have hpE:=hf p (mem_append_left _ hp);refine Dt ?_ hpE;rw[map_append,mem_append,not_or];exact⟨d3 p.1 (mem_map_of_mem hp),hnotup p hpE⟩) d1
  have k6:=k1.trans k4;have hmE:dom E m:=by unfold dom;rw[hp1];simp
  have hmq:m∉q.2.map (·.1):=λhm=>by
   obtain⟨u,hu,he⟩:=mem_map.1 hm;have:=hf u (mem_append_left _ hu);rw[he,hp1]at this;cases this
  have hmr:m∉r.news.map (·.1):=λhm=>by
   obtain⟨u,hu,he⟩:=mem_map.1 hm;have:=hf u (mem_append_right _ hu);rw[he,hp1]at this;cases this
  have hmu:m∉r.upds.map (·.1):=λhm=>by
   obtain⟨u,hu,he⟩:=mem_map.1 hm;exact hnd.1 (he▸hup u hu)
  have hfind:wW (q.2++(r.news++r.upds)++E) m=some .gone:=by
   rw[xV]
   · exact hp1
   · rw[map_append,map_append,mem_append,mem_append,not_or,not_or];exact⟨hmq,hmr,hmu⟩
  obtain⟨g3,k7,k8⟩:=LX (n:=m) k6.ms hob (by rw[append_assoc];exact k5) k6.giv (λ_=>(k6.le.loc m hmE).trans hp2) (λe he=>by
   have:wW (q.2++(r.news++r.upds)++E) m=some e:=he;rw[hfind]at this;cases this;rfl)
  have hcong:∀k,wW ([(m,.box q.1)]++(q.2++(r.news++r.upds))++E) k=wW ((q.2++r.news++((m,.box q.1)::r.upds))++E) k:=by
   intro k;have:=RO (l:=q.2++r.news) (m:=r.upds++E) (b:=m) (x:=.box q.1) (by rw[map_append,mem_append,not_or];exact⟨hmq,hmr⟩) k
   simpa[append_assoc]using this
  refine⟨g3,(k6.trans k7).congr hcong,?_⟩;show xn (yK (dom ((q.2++r.news++((m,.box q.1)::r.upds))++E)) g3 w) r.vals rvals
  rw[←AM hcong];refine xn.imp (λ_ _ hx=>?_) k2;have h1:=yK.mono k4.le hx
  rw[←append_assoc]at h1;exact yK.mono k7.le h1
end Go.V
namespace Go.V
variable {w0:World} {T N:Nat->Prop} {en E:List (th×Entry)} {g g':Gh} {w w':World} {I:Nat->Prop}

theorem MS.useAny (h:MS w0 T N en g w):∀{used:List (th×Entry)},zy en used->xm used=true ->
 ∃g1,MS w0 T N (used++en) g1 w/\Le (dom en) g w (dom (used++en)) g1 w/\g1.loc=g.loc/\g1.esz=g.esz/\g1.top=g.top/\g1.nest=g.nest/\(∀b,g1.I b↔g.I b\/∃p∈used,(∃e xs,p.2=.fwd e xs)/\g.top p.1=some b)
 | [],_,_=>⟨g,h,Le.refl _ _ _,rfl,rfl,rfl,rfl,λb=>⟨.inl,λk=>k.elim id λ⟨p,hp,_⟩=>by simp at hp⟩⟩
 | (n,x)::used,hu,hd=>by
  obtain⟨h1,h2⟩:=yP hd;obtain⟨g1,hM,hle,e1,e2,e3,e4,hI⟩:=h.useAny (used:=used) (λp hp=>hu p (mem_cons_of_mem _ hp)) h2;have hgone:x=.gone->dom en n->∃g1,MS w0 T N ((n,x)::used++en) g1 w/\Le (dom en) g w (dom ((n,x)::used++en)) g1 w/\g1.loc=g.loc/\g1.esz=g.esz/\g1.top=g.top/\g1.nest=g.nest/\(∀b,g1.I b↔g.I b\/∃p∈(n,x)::used,(∃e xs,p.2=.fwd e xs)/\g.top p.1=some b):=by
   intro hx hdn;subst hx;obtain⟨hM2,hle2⟩:=hM.gone (hle.dom n hdn);refine⟨g1,hM2,hle.trans hle2,e1,e2,e3,e4,λb=>(hI b).trans ⟨?_,?_⟩⟩
   · rintro (k|⟨p,hp,k⟩)
     · exact .inl k
     · exact .inr ⟨p,mem_cons_of_mem _ hp,k⟩
   · rintro (k|⟨p,hp,⟨e,xs,k⟩,k'⟩)
     · exact .inl k
     · rcases mem_cons.1 hp with rfl|hp
       · cases k
       · exact .inr ⟨p,hp,⟨e,xs,k⟩,k'⟩
  rcases hu (n,x) mem_cons_self with ⟨hx,e,m,xs,hn⟩|⟨hx,cs,hn⟩|⟨e,m,xs,hn,hx⟩|⟨e,xs,hn,hx|hx⟩
  rotate_left 3
  · exact hgone hx (by unfold dom;rw[show wW en n=_ from hn];simp)
  · obtain rfl:x=.fwd e xs:=hx;obtain⟨hM2,hle2⟩:=hM.fwdZ (n:=n) ((xV h1).trans hn);refine⟨g1,hM2,hle.trans hle2,e1,e2,e3,e4,λb=>(hI b).trans ⟨?_,?_⟩⟩
    · rintro (k|⟨p,hp,k⟩)
      · exact .inl k
      · exact .inr ⟨p,mem_cons_of_mem _ hp,k⟩
    · rintro (k|⟨p,hp,k,k'⟩)
      · exact .inl k
      · rcases mem_cons.1 hp with rfl|hp
        · have ht:g.top n=some b:=k';rw[(h.mem.rep n _ hn).2.1]at ht;cases ht
        · exact .inr ⟨p,hp,k,k'⟩
  · exact hgone hx (by unfold dom;rw[show wW en n=_ from hn];simp)
  · exact hgone hx (by unfold dom;rw[show wW en n=_ from hn];simp)
  · obtain rfl:x=.fwd e xs:=hx;obtain⟨g2,hM2,hle2,f1,f2,f3,f4,hI2⟩:=hM.fwd (n:=n) ((xV h1).trans hn);refine⟨g2,hM2,hle.trans hle2,f1.trans e1,f2.trans e2,f3.trans e3,f4.trans e4,λb=>?_⟩;rw[hI2,hI,e3];constructor
    · rintro ((k|⟨p,hp,k⟩)|k)
      · exact .inl k
      · exact .inr ⟨p,mem_cons_of_mem _ hp,k⟩
      · exact .inr ⟨_,mem_cons_self,⟨e,xs,rfl⟩,k⟩
    · rintro (k|⟨p,hp,k,k'⟩)
      · exact .inl (.inl k)
      · rcases mem_cons.1 hp with rfl|hp
        · exact .inr k'
        · exact .inl (.inr ⟨p,hp,k,k'⟩)
theorem E8 {used:List (th×Entry)} {b:Nat} (h:b∈z5 g used):∃p∈used,p.2=.gone/\g.top p.1=some b:=by
 obtain⟨p,hp,hb⟩:=List.mem_flatMap.1 h;unfold Bs at hb;split at hb
 · rename_i hx;exact⟨p,hp,hx,by simpa using hb⟩
 · simp at hb
theorem HR {used:List (th×Entry)} {b:Nat} (h:b∈zf en g used):∃p∈used,p.2=.gone/\(∃f,wW en p.1=some f/\f.deep=true)/\b∈g.nest p.1:=by
 obtain⟨p,hp,hb⟩:=List.mem_flatMap.1 h;unfold B4 at hb;split at hb
 · rename_i hx;split at hb
   · rename_i e xs hn;exact⟨p,hp,hx,⟨_,hn,rfl⟩,hb⟩
   · rename_i e xs hn;exact⟨p,hp,hx,⟨_,hn,rfl⟩,hb⟩
   · simp at hb
 · simp at hb
theorem Tg {used:List (th×Entry)} (hu:zy en used) {p:th×Entry} (hp:p∈used):dom en p.1:=by
 unfold dom;rcases hu p hp with ⟨_,e,m,xs,hn⟩|⟨_,cs,hn⟩|⟨e,m,xs,hn,_⟩|⟨e,xs,hn,_⟩<;>(rw[hn];simp)
theorem zt (hm:zv en g w) {used:List (th×Entry)} (hu:zy en used) {p:th×Entry} (hp:p∈used) {b:Nat} (ht:g.top p.1=some b):∃f,wW en p.1=some f/\f.alive=true:=by
 rcases hu p hp with ⟨_,e,m,xs,hn⟩|⟨_,cs,hn⟩|⟨e,m,xs,hn,_⟩|⟨e,xs,hn,_⟩
 · exact⟨_,hn,rfl⟩
 · exact⟨_,hn,rfl⟩
 · exact⟨_,hn,rfl⟩
 · rw[(hm.rep p.1 _ hn).2.1]at ht;cases ht
theorem IS (hm:zv en g w):∀{used:List (th×Entry)},zy en used->xm used=true->DL (z5 g used)
 | [],_,_=>λb=>by simp[z5]
 | (n,x)::used,hu,hd=>by
  obtain⟨h1,h2⟩:=yP hd;have ih:=IS hm (used:=used) (λp hp=>hu p (mem_cons_of_mem _ hp)) h2
  rw[yC]at ih ⊢;show ((n,x)::used).flatMap (Bs g) |>.Nodup
  rw[flatMap_cons,List.nodup_append];refine⟨?_,ih,λb hb c hc hbc=>?_⟩
  · unfold Bs;split
    · cases g.top (n,x).1<;>simp
    · simp
  · subst hbc;obtain⟨p,hp,_,hpt⟩:=E8 hc;have hb':b∈z5 g [(n,x)]:=by unfold z5;simpa using hb
    obtain⟨q,hq,_,hqt⟩:=E8 hb';rw[List.mem_singleton]at hq;subst hq;obtain⟨f,hf,hfa⟩:=zt hm hu (mem_cons_self) hqt;obtain⟨f',hf',hfa'⟩:=zt hm hu (mem_cons_of_mem _ hp) hpt;have:=hm.apart n p.1 f f' b hf hf' hfa hfa' hqt hpt
    exact h1 (this▸mem_map_of_mem hp)
theorem IT (hm:zv en g w):∀{used:List (th×Entry)},zy en used->xm used=true->DL (zf en g used)
 | [],_,_=>λb=>by simp[zf]
 | (n,x)::used,hu,hd=>by
  obtain⟨h1,h2⟩:=yP hd;have ih:=IT hm (used:=used) (λp hp=>hu p (mem_cons_of_mem _ hp)) h2
  rw[yC]at ih ⊢;show ((n,x)::used).flatMap (B4 en g) |>.Nodup
  rw[flatMap_cons,List.nodup_append];refine⟨?_,ih,λb hb c hc hbc=>?_⟩
  · unfold B4;split
    · rename_i hx;split
      · rename_i e xs hn;obtain⟨_,_,_,hnd⟩:=yM hm hn;exact hnd rfl
      · rename_i e xs hn;exact (hm.rep _ _ hn).2.2.2.2
      · simp
    · simp
  · subst hbc;obtain⟨p,hp,hpg,hpr,hpt⟩:=HR hc;have hb':b∈zf en g [(n,x)]:=by unfold zf;simpa using hb
    obtain⟨q,hq,hqg,hqr,hqt⟩:=HR hb';rw[List.mem_singleton]at hq;subst hq;obtain⟨f1,hn1,hd1⟩:=hqr;obtain⟨f2,hn2,hd2⟩:=hpr;have hne:n≠p.1:=λe=>h1 (e▸mem_map_of_mem hp)
    exact hm.nests n p.1 _ _ hn1 hn2 hd1 hd2 hne b hqt hpt
theorem Cs.Gifts.flat:{c:Cs}->{x:c.den}->{us:List Value}->{ts ns:List Nat}->c.hasSl=false->Cs.Gifts I w c x us ts ns->ns=[]
 | .one c,x,us,ts,ns,h,⟨v,h1,h2⟩=>by
  cases c with
  | sl e=>simp[Cs.hasSl,CT.isSl]at h
  | _=>exact h2.2.1
 | .cons c r,x,us,ts,ns,h,⟨v,vs',t1,t2,n1,n2,h1,h2,h3,h4,h5⟩=>by
  simp only[Cs.hasSl,Bool.or_eq_false_iff]at h;have:=Cs.Gifts.flat h.2 h5
  subst this;subst h3;cases c with
  | sl e=>simp[CT.isSl]at h
  | _=>rw[append_nil];exact h4.2.1
theorem Cb.shift {I':Nat->Prop} {own:Option Bool} {c:Cs} {x:c.den} {us:List Value} {ts ns:List Nat} (hn:∀b∈ns,I b->I' b) (hs:(DE own=true->c.hasSl=false)\/∀b,I b->I' b) (h:Cb I w own c x us ts ns):Cb I' w own c x us ts ns:=by
 rcases h with ⟨m,ns',rfl,h2,hm⟩|⟨rfl,h2,h3,F,h4,h5⟩
 · refine .inl ⟨m,ns',rfl,?_,hm⟩;have hn2:∀b∈ns',I b->I' b:=by
    cases m with
    | true=>rw[hm rfl];exact hn
    | false =>
     rcases hs with hs|hs
     · rw[h2.flat (hs rfl)];simp
     · exact λb _=>hs b
   clear hm hn;have hc:∀{c:CT} {x:c.den} {v:Value} {ts ns:List Nat},(∀b∈ns,I b->I' b)->CT.Gifts I w c x v ts ns->CT.Gifts I' w c x v ts ns:=by
    intro c x v ts ns hn h;cases c with
    | sl e=>obtain⟨tp,h1,h2,h3⟩:=h;exact⟨tp,h1,h2,λb hb=>hn b hb (h3 b hb)⟩
    | _=>exact h
   clear hs
   revert x us ts ns'
   induction c using Cs.rec (motive_1:=λ_=>True)with
   | one c _=>intro x us ts ns h hn;obtain⟨v,h1,h2⟩:=h;exact⟨v,h1,hc hn h2⟩
   | cons c r _ ih =>
    intro x us ts ns h hn;obtain⟨v,vs',t1,t2,n1,n2,h1,h2,h3,h4,h5⟩:=h;subst h3;exact⟨v,vs',t1,t2,n1,n2,h1,h2,rfl,hc (λb hb=>hn b (mem_append_left _ hb)) h4,ih _ h5 (λb hb=>hn b (mem_append_right _ hb))⟩
   | _=>trivial
 · refine .inr ⟨rfl,h2,h3,F,h4,λb hb=>?_⟩;rcases hs with hs|hs
   · rw[h4.flat (hs rfl)]at hb;simp at hb
   · exact hs b (h5 b hb)
theorem Cc.shift {I':Nat->Prop}:∀{rs:List yY} {x:xc (xZ rs)} {vs:List Value} {ts ns:List Nat},(∀b∈ns,I b->I' b)->(rs.any yY.sh=false\/∀b,I b->I' b)->Cc I w rs x vs ts ns->Cc I' w rs x vs ts ns
 | [],_,_,_,_,_,_,h=>h
 | .val agg c own::rs,x,vs,ts,ns,hn,hs,⟨v,vs',us,t1,t2,n1,n2,h1,h2,h3,h4,h5,h6⟩=>by
  subst h4;refine⟨v,vs',us,t1,t2,n1,n2,h1,h2,h3,rfl,h5.shift (λb hb=>hn b (mem_append_left _ hb)) (hs.imp (λhs ho=>?_) id),Cc.shift (λb hb=>hn b (mem_append_right _ hb)) (hs.imp (λhs=>?_) id) h6⟩
  · simp only[any_cons,Bool.or_eq_false_iff,yY.sh,ho,Bool.true_and]at hs;exact hs.1
  · simp only[any_cons,Bool.or_eq_false_iff]at hs;exact hs.2
 | .cold agg c::rs,x,vs,ts,ns,hn,hs,⟨v,vs',us,n1,n2,h1,h2,h4,⟨F,hF,hFI,hFc⟩,h6⟩=>by
  subst h4;refine⟨v,vs',us,n1,n2,h1,h2,rfl,⟨F,hF,λb hb=>hn b (mem_append_left _ (DS (hFc b) hb)) (hFI b hb),hFc⟩,Cc.shift (λb hb=>hn b (mem_append_right _ hb)) (hs.imp (λhs=>?_) id) h6⟩;simp only[any_cons,Bool.or_eq_false_iff]at hs;exact hs.2
 | .ptr c own::rs,x,vs,ts,ns,hn,hs,⟨v,vs',us,t1,t2,n1,n2,h1,h2,h3,h4,h5,h6⟩=>by
  subst h4;refine⟨v,vs',us,t1,t2,n1,n2,h1,h2,h3,rfl,h5.shift (λb hb=>hn b (mem_append_left _ hb)) (hs.imp (λhs ho=>?_) id),Cc.shift (λb hb=>hn b (mem_append_right _ hb)) (hs.imp (λhs=>?_) id) h6⟩
  · simp only[any_cons,Bool.or_eq_false_iff,yY.sh,ho,Bool.true_and]at hs;exact hs.1
  · simp only[any_cons,Bool.or_eq_false_iff]at hs;exact hs.2
theorem Cg.shift {I':Nat->Prop}:∀{ps:List yj} {rs:List yY} {x:xc (yD ps rs)} {bs:List Nat} {vs:List Value} {ts ns:List Nat},(∀b∈ns,I b->I' b)->(AQ ps rs=false\/∀b,I b->I' b)->Cg I w ps rs x bs vs ts ns->Cg I' w ps rs x bs vs ts ns
 | [],rs,x,bs,vs,ts,ns,hn,hs,⟨h1,h2⟩=>⟨h1,h2.shift hn (hs.imp (λhs=>by simpa[AQ]using hs) id)⟩
 | .val agg c mv::ps,rs,x,bs,vs,ts,ns,hn,hs,h=>Cg.shift (ps:=ps) hn (hs.imp (λhs=>by simpa[AQ,yj.sh]using hs) id) h
 | .ptr c own::ps,rs,x,bs,vs,ts,ns,hn,hs,⟨b,bs',us,t1,t2,n1,n2,h1,h2,h3,h4,h5,h6⟩=>by
  subst h4;refine⟨b,bs',us,t1,t2,n1,n2,h1,h2,h3,rfl,h5.shift (λb hb=>hn b (mem_append_left _ hb)) (hs.imp (λhs ho=>?_) id),Cg.shift (λb hb=>hn b (mem_append_right _ hb)) (hs.imp (λhs=>?_) id) h6⟩
  · simp only[AQ,any_cons,Bool.or_eq_false_iff,yj.sh,ho,Bool.true_and]at hs;exact hs.1.1
  · simp only[AQ,any_cons,Bool.or_eq_false_iff]at hs ⊢;exact⟨hs.1.2,hs.2⟩
end Go.V
namespace Go.V
variable {P:Program} {G:yU} {w0:World} {T N:Nat->Prop} {en E:List (th×Entry)} {g g':Gh} {w w':World} {I:Nat->Prop} {nt:Nat} {ann:List (Nat×xi)}

theorem FD:∀(ps:List yj) (i:Nat) (x:xc (xz ps)),(∀t v,wW (entry i ps x).1 t=some v->AU (dom (entry i ps x).2) v)/\(∀n cs,(n,Entry.box cs)∈(entry i ps x).2->∀c∈cs,zQ (dom (entry i ps x).2) c)
 | [],i,x=>⟨(λt v h=>by cases h),(λn cs h=>by cases h)⟩
 | .val agg c mv::ps,i,x=>by
  obtain⟨k1,k2⟩:=FD ps (i+1) (xc.tl c (xz ps) x);obtain⟨k3,k4⟩:=E5 (TU mv) (64*i+1) c (xc.hd c (xz ps) x);rw[MH];refine⟨λt v h=>?_,λn cs h=>?_⟩
  · rw[xr]at h;split at h
    · cases h;exact Hl λd hd=>(k4 d hd).mono λn hn=>Ca hn
    · exact (k1 t v h).mono λn hn=>BG hn
  · rcases mem_append.1 h with h|h
    · exact absurd h (k3 n cs)
    · exact λd hd=>(k2 n cs h d hd).mono λn hn=>BG hn
 | .ptr c own::ps,i,x=>by
  obtain⟨k1,k2⟩:=FD ps (i+1) (xc.tl c (xz ps) x);obtain⟨k3,k4⟩:=E5 own (64*i+2) c (xc.hd c (xz ps) x);rw[MI];refine⟨λt v h=>?_,λn cs h=>?_⟩
  · rw[xr]at h;split at h
    · cases h;intro n hn;simp[Cell.refs]at hn;subst hn;exact Ft
    · exact (k1 t v h).mono λn hn=>yz.2 (.inr (BG hn))
  · rcases mem_cons.1 h with h|h
    · cases h;exact λd hd=>(k4 d hd).mono λn hn=>yz.2 (.inr (Ca hn))
    · rcases mem_append.1 h with h|h
      · exact absurd h (k3 n cs)
      · exact λd hd=>(k2 n cs h d hd).mono λn hn=>yz.2 (.inr (BG hn))
theorem Jm {F:th->Option Entry}:∀{ps:List yj} {args:List AV} {b:HE (xz ps)} {L:List th},(yH true ps args).Runs F b L->b.ro=[]
 | [],[],b,L,hr=>by obtain⟨rfl,_⟩:=hr;rfl
 | .val agg c false::ps,v::args,b,L,hr=>by
  simp only[yH]at hr;obtain⟨_,L5,L6,_,h0,hr⟩:=Rd.runs_bind hr;obtain⟨a,L1,L2,_,h1,hr⟩:=Rd.runs_bind hr;obtain⟨b',L3,L4,_,h2,hr⟩:=Rd.runs_bind hr;obtain⟨rfl,_⟩:=hr;have ih:=Jm h2
  exact ih
 | .val agg c true::ps,v::args,b,L,hr=>by
  simp only[yH]at hr;obtain⟨_,L5,L6,_,h0,hr⟩:=Rd.runs_bind hr;obtain⟨a,L1,L2,_,h1,hr⟩:=Rd.runs_bind hr;obtain⟨b',L3,L4,_,h2,hr⟩:=Rd.runs_bind hr;obtain⟨rfl,_⟩:=hr;have ih:=Jm h2
  exact ih
 | .ptr c own::ps,.cell (.box n 0)::args,b,L,hr=>by
  simp only[yH]at hr;obtain⟨L',_,hr⟩:=hr;dsimp only at hr;split at hr
  · obtain⟨a,L1,L2,_,h1,hr⟩:=Rd.runs_bind hr;obtain⟨b',L3,L4,_,h2,hr⟩:=Rd.runs_bind hr;obtain⟨rfl,_⟩:=hr;have ih:=Jm h2
    exact ih
  · exact hr.elim
theorem Gl {F:th->Option Entry} {sl:Bool}:∀{ps:List yj} {args:List AV} {b:HE (xz ps)} {L:List th},(yH sl ps args).Runs F b L->xm b.used=true->b.ptrs.Nodup/\∀n∈b.ptrs,n∈b.used.map (·.1)
 | [],[],b,L,hr,_=>by obtain⟨rfl,_⟩:=hr;exact⟨List.nodup_nil,by simp⟩
 | .val agg c false::ps,v::args,b,L,hr,hd=>by
  simp only[yH]at hr;obtain⟨_,L5,L6,_,h0,hr⟩:=Rd.runs_bind hr;obtain⟨a,L1,L2,_,h1,hr⟩:=Rd.runs_bind hr;obtain⟨b',L3,L4,_,h2,hr⟩:=Rd.runs_bind hr;obtain⟨rfl,_⟩:=hr;obtain⟨k1,k2⟩:=Gl h2 (yw hd).2.1;exact⟨k1,λn hn=>by rw[map_append];exact mem_append_right _ (k2 n hn)⟩
 | .val agg c true::ps,v::args,b,L,hr,hd=>by
  simp only[yH]at hr;obtain⟨_,L5,L6,_,h0,hr⟩:=Rd.runs_bind hr;obtain⟨a,L1,L2,_,h1,hr⟩:=Rd.runs_bind hr;obtain⟨b',L3,L4,_,h2,hr⟩:=Rd.runs_bind hr;obtain⟨rfl,_⟩:=hr;obtain⟨k1,k2⟩:=Gl h2 (yw hd).2.1;exact⟨k1,λn hn=>by rw[map_append];exact mem_append_right _ (k2 n hn)⟩
 | .ptr c own::ps,.cell (.box n 0)::args,b,L,hr,hd=>by
  simp only[yH]at hr;obtain⟨L',_,hr⟩:=hr;dsimp only at hr;split at hr
  · obtain⟨a,L1,L2,_,h1,hr⟩:=Rd.runs_bind hr;obtain⟨b',L3,L4,_,h2,hr⟩:=Rd.runs_bind hr;obtain⟨rfl,_⟩:=hr;obtain⟨d1,d2⟩:=yP hd;obtain⟨k1,k2⟩:=Gl h2 (yw d2).2.1;refine⟨List.nodup_cons.2 ⟨λhn=>d1 (by rw[map_append];exact mem_append_right _ (k2 n hn)),k1⟩,λm hm=>?_⟩;rcases mem_cons.1 hm with rfl|hm
    · simp
    · simp only[List.map_cons,map_append];exact mem_cons_of_mem _ (mem_append_right _ (k2 m hm))
  · exact hr.elim
theorem LZ {used:List (th×Entry)} {g1 g2 gc gf:Gh} {D D':th->Prop} {wc wf:World} (hd:xm used=true) (hloc:∀n,g2.loc n=g.loc n) (hle:Le D gc wc D' gf wf):∀{ps:List yj} {i:Nat} {vals:List Value} {nm:List th} {bs:List Nat},BI en g used ps vals nm->EF D gc i ps vals->QG gf i ps bs ->
 xn (QI (used++en) g2) nm bs
 | [],i,vals,nm,bs,h1,_,h3=>by obtain rfl:=h1;obtain rfl:=h3;exact trivial
 | .val .. :: ps,i,v::vals,nm,bs,h1,h2,h3=>LZ (ps:=ps) (i:=i+1) (vals:=vals) (g1:=g1) hd hloc hle h1 h2 h3
 | .ptr .. :: ps,i,v::vals,nm,bs,h1,h2,h3=>by
  obtain⟨n,ns',rfl,k1,k2,k3,k4⟩:=h1;obtain⟨⟨l1,l2⟩,l3⟩:=h2;obtain⟨b,bs',rfl,m1,m2⟩:=h3;refine⟨⟨?_,?_⟩,LZ (g1:=g1) hd hloc hle k4 l3 m2⟩
  · rw[AE (mem_map_of_mem k1:n∈used.map (·.1))];exact zZ hd k1
  · rw[hloc,k3,←l2,←hle.loc _ l1];exact m1
 | .val .. :: _,_,[],_,_,_,h2,_=>h2.elim
 | .ptr .. :: _,_,[],_,_,_,h2,_=>h2.elim
theorem RP {D:th->Prop} {l:List AV} {rvals:List Value} (h:xn (yK D g w) l rvals):xO D g w (D5 l) (LY rvals):=by
 have h0:∀{x:AV} {v:Value},yK D g w x v->xO D g w x v:=by
  intro x v h;cases x with
  | cell c=>exact h
  | agg cs=>exact h
  | tup l=>exact h.elim
 match l,rvals,h with
 | [],[],_=>exact⟨#[],rfl,trivial⟩
 | [x],[v],h=>exact h0 h.1
 | x::y::l,v::u::r,h=>exact⟨(v::u::r).toArray,rfl,h⟩
theorem MS.begin (g:Gh) (Tc Nc:Nat->Prop) (h1:∀b,g.I b->b<w.heap.size) (h2:∀b,g.I b->Qc w Nc b) (hs:∀b,Tc b->soft w b):MS w Tc Nc [] g w :=
 ⟨⟨(λn e h=>by cases h),(λn m e f b h=>by cases h),(λn e b h=>by cases h),(λn m e f h=>by cases h),h1,λn h=>absurd rfl h,(λn e b h=>by cases h)⟩,
  ⟨rfl,rfl,rfl,Nat.le_refl _,λb _ _=>rfl,(λn e b h=>by cases h),(λn e b h=>by cases h),λb hb=>.inr (.inr (h2 b hb)),(λn e b h=>by cases h),λb hb=>hb.elim (λhl c t lo hi hc=>by have:=Et hc;omega) (hs b)⟩⟩
theorem MS.start (Ic:Nat->Prop) (Tc Nc:Nat->Prop) (h1:∀b,Ic b->b<w.heap.size) (h2:∀b,Ic b->Qc w Nc b) (hs:∀b,Tc b->soft w b):MS w Tc Nc [] ⟨Ic,λ_=>.slice none 0 0,λ_=>0,λ_=>none,λ_=>[],λ_=>[]⟩ w :=
 MS.begin _ Tc Nc h1 h2 hs
end Go.V
namespace Go.V
variable {P:Program} {G:yU} {w0:World} {T N:Nat->Prop} {en E:List (th×Entry)} {g g':Gh} {w w':World} {I:Nat->Prop} {nt:Nat} {ann:List (Nat×xi)}

theorem UI {ps:List yj} {rs:List yY} {used:List (th×Entry)} {ro nm:List th} {ts ns:List Nat} {vals:List Value} {D:th->Prop} {gc gf:Gh} {Sf:St} {g1:Gh} {Tc Nc:Nat->Prop} {Ic:Nat->Prop} {uid:th}
 (hM:MS w0 T N en g w) (hu:zy en used) (hd:xm used=true) (hro:∀n∈ro,wW used n=none) (hsl:AQ ps rs=true->ro=[])
 (hM1:MS w0 T N (used++en) g1 w) (hle1:Le (dom en) g w (dom (used++en)) g1 w) (e1:g1.loc=g.loc) (e3:g1.top=g.top) (e4:g1.nest=g.nest) (hI1:∀b,g1.I b↔g.I b\/∃p∈used,(∃e xs,p.2=.fwd e xs)/\g.top p.1=some b)
 (hts:ts=z5 g used) (hns:ns=zf en g used) (hIc:∀b,Ic b↔g1.I b\/∃n∈ro,∃f,wW en n=some f/\f.alive=true/\g.top n=some b) (hTc:∀b,Tc b↔b∈ts) (hNc:∀b,Nc b↔b∈ns\/∃c,b=w.heap.size+c/\Ic c)
 (hnames:BI en g used ps vals nm) (hnd:nm.Nodup) (hploc:EF D gc 0 ps vals) (hgc:gc.I=Ic) (hMf:MS w Tc Nc Sf.en gf w') (hle:Le D gc w (dom Sf.en) gf w')
 {vs:List AV} {rvals:List Value} {r:xc (yD ps rs)} {ents:List (th×Entry)} {L:List th} (hrv:xn (xO (dom Sf.en) gf w') vs rvals) (hok:DH rs vs=true) (hto:(E3 0 ps rs vs).Runs (wW Sf.en) (r,ents) L) (hde:xm ents=true)
 (hdist:xm (xg uid ps rs nm r).news=true) (hnew:∀p∈(xg uid ps rs nm r).news,wW en p.1=none) :
 ∃g',MS w0 T N ((xg uid ps rs nm r).news++((xg uid ps rs nm r).upds++used)++en) g' w'/\Le (dom en) g w (dom ((xg uid ps rs nm r).news++((xg uid ps rs nm r).upds++used)++en)) g' w' /\
  xO (dom ((xg uid ps rs nm r).news++((xg uid ps rs nm r).upds++used)++en)) g' w' (D5 (xg uid ps rs nm r).vals) (LY rvals):=by
 have hM1I:∀b,g1.I b->b<w.heap.size:=hM1.mem.old;have htsU:∀b∈ts,b<w.heap.size/\¬g1.I b/\∃p∈used,p.2=.gone/\g.top p.1=some b:=by
  intro b hb;rw[hts]at hb;obtain⟨p,hp,hpg,hpt⟩:=E8 hb;obtain⟨f,hf,hfa⟩:=zt hM.mem hu hp hpt;refine⟨(hM.mem.rep p.1 f hf).top_lt hfa hpt,λhI=>?_,p,hp,hpg,hpt⟩;rcases (hI1 b).1 hI with h|⟨q,hq,⟨e,xs,hqe⟩,hqt⟩
  · exact hM.mem.topI p.1 f b hf hfa hpt h
  · obtain⟨f',hf',hfa'⟩:=zt hM.mem hu hq hqt;have:=hM.mem.apart p.1 q.1 f f' b hf hf' hfa hfa' hpt hqt
    have h1:=zZ hd hp;have h2:=zZ hd hq
    rw[this,h2]at h1;rw[hpg,hqe]at h1;cases h1
 have hnsU:∀b∈ns,g.I b/\∃p∈used,(∃f,wW en p.1=some f/\f.deep=true)/\b∈g.nest p.1:=by
  intro b hb;rw[hns]at hb;obtain⟨p,hp,hpg,⟨f,hn,hfd⟩,hpt⟩:=HR hb;exact⟨(Hh hM.mem hn hfd).1 b hpt,p,hp,⟨f,hn,hfd⟩,hpt⟩
 have hgI:∀b,g.I b->g1.I b:=λb hb=>(hI1 b).2 (.inl hb);have halive:∀n f,wW (used++en) n=some f->f.alive=true\/f.deep=true->wW en n=some f/\n∉used.map (·.1):=by
  intro n f hf ha;by_cases hn:n∈used.map (·.1)
  · exfalso;rw[AE hn]at hf;have hp:=yk hf
    have hfe:f=.gone\/∃e xs,f=.fwd e xs:=by
     rcases hu (n,f) hp with ⟨h,_⟩|⟨h,_⟩|⟨e,m,xs,_,h⟩|⟨e,xs,_,h|h⟩
     · exact .inl h
     · exact .inl h
     · exact .inr ⟨e,xs,h⟩
     · exact .inl h
     · exact .inr ⟨e,xs,h⟩
    rcases hfe with rfl|⟨e,xs,rfl⟩<;>first | (rcases ha with ha|ha<;>cases ha;done) | (cases ha;done)
  · rw[xV hn]at hf;exact⟨hf,hn⟩
 have hlent:∀b,(∃n∈ro,∃f,wW en n=some f/\f.alive=true/\g.top n=some b)->b<w.heap.size/\b∉ts/\¬g1.I b:=by
  rintro b ⟨n,hn,f,hf,hfa,ht⟩;have hnu:n∉used.map (·.1):=λhm=>by
   have:=hro n hn;exact absurd (Av.1 hm) (by rw[this];simp)
  refine⟨(hM.mem.rep n f hf).top_lt hfa ht,λhb=>?_,λhI=>?_⟩
  · obtain⟨_,_,p,hp,_,hpt⟩:=htsU b hb;obtain⟨f',hf',hfa'⟩:=zt hM.mem hu hp hpt;have:=hM.mem.apart n p.1 f f' b hf hf' hfa hfa' ht hpt
    exact hnu (this▸mem_map_of_mem hp)
  · rcases (hI1 b).1 hI with h|⟨q,hq,_,hqt⟩
    · exact hM.mem.topI n f b hf hfa ht h
    · obtain⟨f',hf',hfa'⟩:=zt hM.mem hu hq hqt;have:=hM.mem.apart n q.1 f f' b hf hf' hfa hfa' ht hqt
      exact hnu (this▸mem_map_of_mem hq)
 have haliveT:∀n f b,wW (used++en) n=some f->f.alive=true->g1.top n=some b->b<w.heap.size/\b∉ts/\¬g1.I b:=by
  intro n f b hf ha ht;obtain⟨hfe,hnu⟩:=halive n f hf (.inl ha);rw[e3]at ht;refine⟨(hM.mem.rep n f hfe).top_lt ha ht,λhb=>?_,λhI=>hM1.mem.topI n f b hf ha (by rw[e3];exact ht) hI⟩;obtain⟨_,_,p,hp,_,hpt⟩:=htsU b hb;obtain⟨f',hf',hfa'⟩:=zt hM.mem hu hp hpt;have:=hM.mem.apart n p.1 f f' b hfe hf' ha hfa' ht hpt
  exact hnu (this▸mem_map_of_mem hp)
 have htree:∀n f,wW (used++en) n=some f->f.isTree=true->wW en n=some f/\n∉used.map (·.1):=by
  intro n f hf ha;by_cases hn:n∈used.map (·.1)
  · exfalso;rw[AE hn]at hf;have hp:=yk hf
    have hfe:f=.gone\/∃e xs,f=.fwd e xs:=by
     rcases hu (n,f) hp with ⟨h,_⟩|⟨h,_⟩|⟨e,m,xs,_,h⟩|⟨e,xs,_,h|h⟩
     · exact .inl h
     · exact .inl h
     · exact .inr ⟨e,xs,h⟩
     · exact .inl h
     · exact .inr ⟨e,xs,h⟩
    rcases hfe with rfl|⟨e,xs,rfl⟩<;>first | (rcases ha with ha|ha<;>cases ha;done) | (cases ha;done)
  · rw[xV hn]at hf;exact⟨hf,hn⟩
 have htreeT:∀n f b,wW (used++en) n=some f->f.isTree=true->b∈g1.nest n->b<w.heap.size/\b∉ts:=by
  intro n f b hf ht hb;obtain⟨hfe,hnu⟩:=htree n f hf ht;rw[e4]at hb;refine⟨Bx (hM.mem.rep n f hfe) ht hb,λhbt=>?_⟩;obtain⟨_,_,p,hp,_,hpt⟩:=htsU b hbt;obtain⟨f',hf',hfa'⟩:=zt hM.mem hu hp hpt;exact (hM.mem.wood n f b hfe ht hb).2.1 p.1 f' hf' hfa' hpt
 let I3:Nat->Prop:=λb=>gf.I b\/∃p∈ents,(∃e xs,p.2=.fwd e xs)/\gf.top p.1=some b
 obtain⟨bs,houts,hue,hbl⟩:=EG (I:=I3) hMf.mem hrv hok hto (used:=ents) ⟨λb hb=>.inl hb,λp hp e xs he b hb=>.inr ⟨p,hp,⟨e,xs,he⟩,hb⟩,λn hn=>by simp at hn⟩ (λp hp=>hp);obtain⟨g3,hM3,hle3,_,_,e33,e34,hI3⟩:=hMf.useAny hue hde;have hI3':∀b,I3 b↔g3.I b:=λb=>(hI3 b).symm
 have houts:Cg I3 w' ps rs r bs rvals (z5 gf ents) (zf Sf.en gf ents):=houts;have hsize:=hMf.since.size
 have hmem:∀b,b<w.heap.size->b∉ts->w'.heap[b]?=w.heap[b]?:=λb hb hn=>hMf.since.mem b hb λhT=>hn ((hTc b).1 hT);have himm:∀b,I3 b->w.heap.size<=b\/b∈ts\/Ic b:=by
  intro b hb;rcases hM3.since.imm b ((hI3' b).1 hb)with h|h|h
  · exact .inl h
  · exact .inr (.inl ((hTc b).1 h))
  · rcases (hNc _).1 h with h|⟨c,hc,hI⟩
    · have:=hM1I _ (hgI _ (hnsU _ h).1);omega
    · obtain rfl:b=c:=by omega
      exact .inr (.inr hI)
 let lent:Nat->Prop:=λb=>∃n∈ro,∃f,wW en n=some f/\f.alive=true/\g.top n=some b
 let J:Nat->Prop:=λb=>I3 b/\¬lent b
 obtain⟨hM2,hle2⟩:=hM1.world (w':=w') (λb hb=>hmem b (hM1I b hb) λht=>(htsU b ht).2.1 hb) (λn f b hf ha hb=>hmem b (haliveT n f b hf ha hb).1 (haliveT n f b hf ha hb).2.1) hMf.since.os hMf.since.out hMf.since.tape hsize
  (λb hb hT=>hmem b (Nat.lt_of_lt_of_le hb hM1.since.size) λht=>by
   obtain⟨_,_,p,hp,_,hpt⟩:=htsU b ht;obtain⟨f,hf,hfa⟩:=zt hM.mem hu hp hpt;rcases hM.since.tops p.1 f b hf hfa hpt with h|h
   · omega
   · exact hT h)
  (λn f b hf ht hb=>by
   obtain⟨k1,k2⟩:=htreeT n f b hf ht hb;exact hmem b k1 k2) (λb hb=>by
   rcases Nat.lt_or_ge b w.heap.size with hl|hl
   · by_cases ht:b∈ts
     · exact hMf.since.soft b (.inr ((hTc b).2 ht))
     · exact (hM1.since.soft b hb).of_same (hmem b hl ht)
   · exact hMf.since.soft b (.inl hl))
 have htsT:∀b∈ts,w0.heap.size<=b\/T b:=by
  intro b hb;obtain⟨_,_,p,hp,_,hpt⟩:=htsU b hb;obtain⟨f,hf,hfa⟩:=zt hM.mem hu hp hpt;exact hM.since.tops p.1 f b hf hfa hpt
 obtain⟨hM4,hle4⟩:=hM2.freeze J (λb hb=>hM3.mem.old b ((hI3' b).1 hb.1))
  (λn f b hf ha hb hJ=>by
   obtain⟨k1,k2,k3⟩:=haliveT n f b hf ha hb;rcases himm b hJ.1 with h|h|h
   · omega
   · exact k2 h
   · rcases (hIc b).1 h with h|h
     · exact k3 h
     · exact hJ.2 h)
  (λn f b hf ht hb hJ=>by
   obtain⟨k1,k2⟩:=htreeT n f b hf ht hb;rcases himm b hJ.1 with h|h|h
   · omega
   · exact k2 h
   · rcases (hIc b).1 h with h|h
     · exact (hM1.mem.wood n f b hf ht hb).1 h
     · exact hJ.2 h)
  (λb hJ=>by
   rcases himm b hJ.1 with h|h|h
   · exact .inl (Nat.le_trans hM1.since.size h)
   · exact (htsT b h).imp id .inl
   · rcases (hIc b).1 h with h|h
     · exact hM1.since.imm b h
     · exact absurd h hJ.2)
 let g2:Gh:={ g1 with I:=λb=>g1.I b\/J b }
 have hts3:∀b∈z5 gf ents,¬I3 b/\(w.heap.size<=b\/b∈ts):=by
  intro b hb;obtain⟨p,hp,hpg,hpt⟩:=E8 hb;obtain⟨f,hf,hfa⟩:=zt hMf.mem hue hp hpt;refine⟨λhI=>?_,(hMf.since.tops p.1 f b hf hfa hpt).imp id (hTc b).1⟩;rcases hI with h|⟨q,hq,⟨e,xs,hqe⟩,hqt⟩
  · exact hMf.mem.topI p.1 f b hf hfa hpt h
  · obtain⟨f',hf',hfa'⟩:=zt hMf.mem hue hq hqt;have:=hMf.mem.apart p.1 q.1 f f' b hf hf' hfa hfa' hpt hqt
    have h1:=zZ hde hp;have h2:=zZ hde hq
    rw[this,h2]at h1;rw[hpg,hqe]at h1;cases h1
 have hns3:∀b∈zf Sf.en gf ents,w.heap.size<=b\/b∈ts\/b∈ns:=by
  intro b hb;obtain⟨p,hp,hpg,⟨f,hn,hfd⟩,hpt⟩:=HR hb;rcases hMf.since.nests p.1 _ b hn hfd hpt with h|h|h
  · exact .inl h
  · exact .inr (.inl ((hTc b).1 h))
  · rcases (hNc b).1 h with h|⟨c,hc,_⟩
    · exact .inr (.inr h)
    · exact .inl (by omega)
 have hIcI3:∀b,g1.I b->I3 b:=λb hb=>.inl (hle.imm b (by rw[hgc];exact (hIc b).2 (.inl hb)));have hgiv:zx w0 T N (used++en) g2 (z5 gf ents++[]) (zf Sf.en gf ents++[]):=by
  rw[append_nil,append_nil];refine⟨IS hMf.mem hue hde,IT hMf.mem hue hde,λb hb=>?_,λb hb=>?_,λb hb m f hf ht hbm=>?_⟩
  rotate_left 2
  · obtain⟨k1,k2⟩:=hts3 b hb;have hbm:b∈g1.nest m:=hbm
    obtain⟨j1,j2⟩:=htreeT m f b hf ht hbm;rcases k2 with h|h
    · omega
    · exact j2 h
  · obtain⟨k1,k2⟩:=hts3 b hb;refine⟨λhI=>hI.elim (λh=>k1 (hIcI3 b h)) (λh=>k1 h.1),λm f hf ha ht=>?_,k2.elim (λh=>.inl (Nat.le_trans hM1.since.size h)) (htsT b)⟩;obtain⟨j1,j2,_⟩:=haliveT m f b hf ha ht;rcases k2 with h|h
    · omega
    · exact j2 h
  · have k2:=hns3 b hb;refine⟨λm f hf hfd hbm=>?_,?_⟩
    · obtain⟨hfe,hnu⟩:=halive m f hf (.inr hfd);have hbm:b∈g.nest m:=by have:b∈g1.nest m:=hbm;rw[e4]at this;exact this
      have hbI:g.I b:=(Hh hM.mem hfe hfd).1 b hbm;rcases k2 with h|h|h
      · have:=hM1I b (hgI b hbI);omega
      · exact (htsU b h).2.1 (hgI b hbI)
      · obtain⟨_,p,hp,⟨f2,hn,hd2⟩,hpb⟩:=hnsU b h;have hne:m≠p.1:=λh=>hnu (h▸mem_map_of_mem hp)
        exact hM.mem.nests m p.1 f _ hfe hn hfd hd2 hne b hbm hpb
    · rcases k2 with h|h|h
      · exact .inl (Nat.le_trans hM1.since.size h)
      · exact (htsT b h).imp id .inl
      · obtain⟨_,p,hp,⟨f2,hn,hd2⟩,hpb⟩:=hnsU b h;exact hM.since.nests p.1 _ b hn hd2 hpb
 have hlentns:∀b∈zf Sf.en gf ents,¬lent b:=by
  intro b hb hl;obtain⟨j1,j2,j3⟩:=hlent b hl;rcases hns3 b hb with h|h|h
  · omega
  · exact j2 h
  · exact j3 (hgI b (hnsU b h).1)
 have houts2:Cg g2.I w' ps rs r bs rvals (z5 gf ents) (zf Sf.en gf ents):=by
  refine houts.shift (λb hb hI=>.inr ⟨hI,hlentns b hb⟩) ?_;cases hs:AQ ps rs with
  | false=>exact .inl rfl
  | true =>
   refine .inr λb hb=>.inr ⟨hb,λ⟨n,hn,_⟩=>?_⟩;rw[hsl hs]at hn;simp at hn
 have hptr:=LZ (en:=en) (g:=g) (g1:=g1) (g2:=g2) hd (λn=>congrFun e1 n) hle hnames hploc hbl;have hfresh:∀p∈(xg uid ps rs nm r).news,wW (used++en) p.1=none:=by
  intro p hp;refine Dt (λhm=>?_) (hnew p hp);obtain⟨q,hq,he⟩:=mem_map.1 hm;have hdq:=Tg hu hq
  rw[he]at hdq;exact hdq (hnew p hp)
 obtain⟨g5,hG5,hv5⟩:=FC ps rs uid r nm bs rvals _ _ [] [] g2 hM4 hgiv houts2 hptr hnd hdist hfresh;have e5:(xg uid ps rs nm r).news++((xg uid ps rs nm r).upds++used)++en=(xg uid ps rs nm r).news++(xg uid ps rs nm r).upds++(used++en):=by simp only[append_assoc]
 rw[e5];exact⟨g5,hG5.ms,(hle1.trans (hle2.trans hle4)).trans hG5.le,RP hv5⟩
end Go.V
namespace Go.V
variable {P:Program} {G:yU} {ann:List (Nat×xi)}

theorem QJ {G:yU} {rv:List ResultVar} {ps:List yj} {rs:List yY} {S:St} {r:xc (yD ps rs)} (h:leave G rv ps rs S=some r) :
 ∃vs ents L,Ek G S rv=some vs/\xm (S.cold (BD rs vs))=true/\DH rs vs=true/\(E3 0 ps rs vs).Runs (wW (S.more (S.cold (BD rs vs))).en) (r,ents) L/\xm ents=true:=by
 unfold leave at h;split at h
 · rename_i vs hvs;cases ho:(xm (S.cold (BD rs vs))&&DH rs vs)with
   | false=>rw[ho]at h;cases h
   | true =>
    rw[ho]at h;simp only[cT]at h;simp only[aT]at ho;obtain⟨y,L,h1,h2⟩:=Rd.run_some h;cases hd:xm y.2 with
    | false=>rw[hd]at h2;cases h2
    | true =>
     rw[hd]at h2;simp only[cT,Option.some.injEq]at h2;exact⟨vs,y.2,L,hvs,ho.1,ho.2,by rw[←h2];exact h1,hd⟩
 · cases h
theorem O1 (hG : zS P G) (hm : P.follows .mixedOrders=true) {f : FuncId} {fn : Func} {c : Code} {ps : List yj} {rs : List yY} (hf : P.funcs[f]?=some fn) (hn : (fn.name == "runtime.NumGoroutine")=false) (hb : fn.body=some c) :
 EU P f ⟨ps,rs,Jh G ann fn c ps rs⟩:=by
 refine⟨⟨fn,c,hf,hn,hb⟩,?_⟩;intro w0 T N en g w uid args vals b L r hM hargs hbind hro hden hdist hnew;simp only[aT]at hro;obtain⟨hd,hro⟩:=hro;have hro:∀n∈b.ro,wW b.used n=none:=λn hn=>by
  have:=all_eq_true.1 hro n hn;cases h:wW b.used n with
  | none=>rfl
  | some y=>rw[h]at this;cases this
 have hden:Jh G ann fn c ps rs b.args=some r:=hden;unfold Jh at hden;cases hck:(Br fn.ntmps c&&(Nat.ble ps.length fn.ntmps&&xm (entry 0 ps b.args).2))with
 | false=>rw[hck]at hden;cases hden
 | true =>
 rw[hck]at hden;simp only[aT,cT]at hck hden;obtain⟨hbel,_,hdis⟩:=hck
 let Ic:Nat->Prop:=λb'=>(g.I b'\/∃p∈b.used,(∃e xs,p.2=.fwd e xs)/\g.top p.1=some b')\/∃n∈b.ro,∃f,wW en n=some f/\f.alive=true/\g.top n=some b'
 obtain⟨hat,hu,hnames⟩:=Gg (I:=Ic) hM.mem hargs hbind ⟨λb' hb'=>.inl (.inl hb'),λp hp e xs he b' hb'=>.inl (.inr ⟨p,hp,⟨e,xs,he⟩,hb'⟩),λn hn f b' hf ha ht=>.inr ⟨n,hn,f,hf,ha,ht⟩⟩;obtain⟨g1,hM1,hle1,e1,e2,e3,e4,hI1⟩:=hM.useAny hu hd;have hIc:∀b',Ic b'↔g1.I b'\/∃n∈b.ro,∃f,wW en n=some f/\f.alive=true/\g.top n=some b':=λb'=>by
  constructor
  · rintro (h|h)
    · exact .inl ((hI1 b').2 h)
    · exact .inr h
  · rintro (h|h)
    · exact .inl ((hI1 b').1 h)
    · exact .inr h
 let Tc:Nat->Prop:=λb'=>b'∈z5 g b.used
 let Nc:Nat->Prop:=λk=>k∈zf en g b.used\/∃c,k=w.heap.size+c/\Ic c
 have hIsz:∀b',Ic b'->b'<w.heap.size:=λb' h=>by
  rcases (hIc b').1 h with h|⟨n,_,f,hf,ha,ht⟩
  · exact hM1.mem.old b' h
  · exact (hM.mem.rep n f hf).top_lt ha ht
 have hMc:=MS.start (w:=w) Ic Tc Nc hIsz (λb' h=>.inr ⟨b',rfl,h⟩) (λb' hb'=>by
  obtain⟨p,hp,hpg,hpt⟩:=E8 hb';obtain⟨f,hf,hfa⟩:=zt hM.mem hu hp hpt;exact hM.since.soft b' (hM.since.tops p.1 f b' hf hfa hpt))
 have hgiv:zx w Tc Nc [] ⟨Ic,λ_=>.slice none 0 0,λ_=>0,λ_=>none,λ_=>[],λ_=>[]⟩ (z5 g b.used++[]) (zf en g b.used++[]):=by
  rw[append_nil,append_nil];refine⟨IS hM.mem hu hd,IT hM.mem hu hd,λb' hb'=>⟨λhI=>?_,(λm f h=>by cases h),.inr hb'⟩,λb' hb'=>⟨(λm f h=>by cases h),.inr (.inr (.inl hb'))⟩,(λb' hb' m f h=>by cases h)⟩;obtain⟨p,hp,hpg,hpt⟩:=E8 hb';obtain⟨f,hf,hfa⟩:=zt hM.mem hu hp hpt;rcases hI with (h|⟨q,hq,⟨e,xs,hqe⟩,hqt⟩)|⟨n,hn,f',hf',hfa',ht⟩
  · exact hM.mem.topI p.1 f b' hf hfa hpt h
  · obtain⟨f',hf',hfa'⟩:=zt hM.mem hu hq hqt;have:=hM.mem.apart p.1 q.1 f f' b' hf hf' hfa hfa' hpt hqt
    have h1:=zZ hd hp;have h2:=zZ hd hq
    rw[this,h2]at h1;rw[hpg,hqe]at h1;cases h1
  · have:=hM.mem.apart p.1 n f f' b' hf hf' hfa hfa' hpt ht;have h1:=zZ hd hp
    rw[this,hro n hn]at h1;cases h1
 obtain⟨gc,hgave,hslots,hploc⟩:=HP hMc ps 0 b.args vals _ _ [] [] hgiv hat hdis;have hInv:xR w Tc Nc ⟨(entry 0 ps b.args).1,(entry 0 ps b.args).2⟩ gc w { tmps:=vals.toArray++Array.replicate (fn.ntmps-vals.toArray.size) undef,defers:=[] }:=by
  refine⟨hgave.to_nil.mem,hgave.to_nil.since,λt=>?_,rfl⟩;rcases hslots t with h|⟨k,v,x,h1,h2,h3,h4⟩
  · show xO _ _ _ (match wW (entry 0 ps b.args).1 t with|some v=>v|none=>.undef) _;rw[h];trivial
  · show xO _ _ _ (match wW (entry 0 ps b.args).1 t with|some v=>v|none=>.undef) _;rw[h3];obtain rfl:t=k:=by omega
    have hlt:t<vals.length:=(List.getElem?_eq_some_iff.1 h2).1;have:(vals.toArray++Array.replicate (fn.ntmps-vals.toArray.size) undef).getD t undef=v:=by
     have hv:=(List.getElem?_eq_some_iff.1 h2).2;have hsz':t<(vals.toArray++Array.replicate (fn.ntmps-vals.toArray.size) undef).size:=by rw[Array.size_append,List.size_toArray];omega
     unfold Array.getD;rw[dif_pos hsz'];show (vals.toArray++Array.replicate (fn.ntmps-vals.toArray.size) undef)[t]'hsz'=v
     rw[Array.getElem_append_left (by simpa using hlt)];simpa using hv
    rw[this];exact h4
 have hsz:fn.ntmps<=(vals.toArray++Array.replicate (fn.ntmps-vals.toArray.size) undef).size:=by simp;omega
 have hc0:yp ⟨(entry 0 ps b.args).1,(entry 0 ps b.args).2⟩:=by
  obtain⟨k1,k2⟩:=FD ps 0 b.args;refine⟨λt=>?_,λn cs hn=>k2 n cs (yk hn)⟩;show A9 _ (match wW (entry 0 ps b.args).1 t with|some v=>v|none=>.undef)
  cases hf:wW (entry 0 ps b.args).1 t with
  | none=>exact xA rfl
  | some v =>
   have:=k1 t v hf;cases v with
   | cell c=>exact this
   | agg cs=>exact this
   | tup l=>exact this.elim
 have key:∀(S':St) (a':Act) (w':World),At w Tc Nc fn.ntmps (dom (entry 0 ps b.args).2) gc w S' a' w'->leave G fn.results.toList ps rs S'=some r ->
  a'.defers=[]/\∃v,(results fn a'.tmps).run P w'=.ok v w'/\∃g',MS w0 T N ((xg uid ps rs b.ptrs r).news++((xg uid ps rs b.ptrs r).upds++b.used)++en) g' w' /\
   Le (dom en) g w (dom ((xg uid ps rs b.ptrs r).news++((xg uid ps rs b.ptrs r).upds++b.used)++en)) g' w' /\
   xO (dom ((xg uid ps rs b.ptrs r).news++((xg uid ps rs b.ptrs r).upds++b.used)++en)) g' w' (D5 (xg uid ps rs b.ptrs r).vals) v:=by
  intro S' a' w' ⟨gf,hIf,_,hle⟩ hl;obtain⟨vs,ents,L',h1,h0,h2,h3,h4⟩:=QJ hl;obtain⟨rvals,h5,h6⟩:=Gk hIf hG.tis h1;refine⟨hIf.plain,LY rvals,JP h6,?_⟩;obtain⟨gf2,hMf2,hle2⟩:=hIf.ms.coldAll (l:=S'.cold (BD rs vs)) Pz h0;exact UI (Sf:=S'.more (S'.cold (BD rs vs))) (Tc:=Tc) (Nc:=Nc) (Ic:=Ic) hM hu hd hro (λhs=>by rw[hs]at hbind;exact Jm hbind) hM1 hle1 e1 e3 e4 hI1 rfl rfl hIc (λ_=>Iff.rfl) (λ_=>Iff.rfl) hnames (Gl hbind hd).1 hploc hgave.imm hMf2 (hle.trans hle2) (xn.imp (λ_ _ h=>h.mono hle2) h5) h2 h3 h4 hdist hnew
 refine calls_of_wp hf hb (AX hG hm c hbel hInv hsz hc0 hden ⟨λS' a' w' _ _ hat hk=>?_,(λi S' a' w' _ _ hat hk=>by cases hk),λS' a' w' _ _ hat hk=>?_⟩)
 · obtain⟨k1,v,k2,k3⟩:=key S' a' w' hat hk;exact⟨k1,v,k2,k3⟩
 · obtain⟨k1,v,k2,k3⟩:=key S' a' w' hat hk;exact⟨k1,v,k2,k3⟩
end Go.V
namespace Go.V

mutual
/-- Whole numbers lie in their kind's range; lengths are lengths. -/
def CT.wf:(c:CT)->c.den->Prop
 | .int k,n=>k.min<=n/\n<=k.max
 | .bool,_=>True
 | .str,s=>s.length<=maxLen
 | .err,_=>True
 | .sl e,xs=>xs.length<=maxLen/\∀x∈xs,Cs.wf e x
def Cs.wf:(e:Cs)->e.den->Prop
 | .one c,x=>CT.wf c x
 | .cons c r,x=>CT.wf c x.1/\Cs.wf r x.2
end
def Cs.toL:Cs->List CT | .one c=>[c] | .cons c r=>c::r.toL
theorem Cs.toL_length:∀e:Cs,e.toL.length=e.len
 | .one _=>rfl
 | .cons _ r=>by simp[Cs.toL,Cs.len,Cs.toL_length r]
def N7:List CT->List CT->Bool
 | [],[]=>true
 | c::l,d::m=>(CT.same c d).isSome&&N7 l m
 | _,_=>false
theorem O2:∀{l m:List CT},N7 l m=true->l=m
 | [],[],_=>rfl
 | c::l,d::m,h=>by
  simp only[N7,aT]at h;cases hs:CT.same c d with
  | none=>rw[hs]at h;cases h.1
  | some e=>obtain⟨rfl⟩:=e;rw[O2 h.2]
 | [],_::_,h=>by cases h
 | _::_,[],h=>by cases h
def CR (ti:List (Nat×xD)):List Field->Nat->Option (List CT)
 | [],_=>some []
 | f::fs,o=>cond (Nat.beq f.offset o) (match wW ti f.type with|some j=>(match CR ti fs (o+j.cs.len)with|some l=>some (j.cs.toL++l)|none=>none)|none=>none) none
def O3 (P:Program) (ti:List (Nat×xD)) (p:Nat×xD):Bool :=
 match P.underlying p.1 with
 | some (.struct fs)=>(match CR ti fs.toList 0 with|some l=>N7 l p.2.cs.toL|none=>false)
 | _=>true
def Deep (P:Program) (ti:List (Nat×xD)):Prop:=∀t i,wW ti t=some i->O3 P ti (t,i)=true
theorem Deep.of_all {P:Program} {ti:List (Nat×xD)} (h:ti.all (O3 P ti)=true):Deep P ti:=λt i hi=>all_eq_true.1 h _ (E4 hi)
variable {P:Program} {ti:List (Nat×xD)} {w:World}
def HS (w:World) (c:CT) (v:Value):Prop:=∃x F,CT.Rep w c x v F/\(∀b∈F,b<w.heap.size)/\CT.wf c x
theorem K1:∀(e:Cs) (vs:List Value),xn (HS w) e.toL vs->∃x F,Cs.Rep w e x vs F/\(∀b∈F,b<w.heap.size)/\Cs.wf e x
 | .one c,[v],h=>by
  obtain⟨x,F,h1,h2,h3⟩:=h.1;exact⟨x,F,by simp only[Cs.Rep];exact⟨v,rfl,h1⟩,h2,by simp only[Cs.wf];exact h3⟩
 | .one c,[],h=>h.elim
 | .one c,_::_::_,h=>h.2.elim
 | .cons c r,[],h=>h.elim
 | .cons c r,v::vs,h=>by
  obtain⟨x,F,h1,h2,h3⟩:=h.1;obtain⟨y,F',k1,k2,k3⟩:=K1 r vs h.2;refine⟨(x,y),F++F',by simp only[Cs.Rep];exact⟨v,vs,F,F',rfl,rfl,h1,k1⟩,λb hb=>(mem_append.1 hb).elim (h2 b) (k2 b),by simp only[Cs.wf];exact⟨h3,k3⟩⟩
theorem RQ {α:Type} {n:Nat} {R:α->List Value->List Nat->Prop} {Q:α->List Nat->Prop}:∀(m:Nat) (vs:List Value),vs.length=m*n->(∀i,i<m->∃y F,R y ((vs.drop (i*n)).take n) F/\Q y F) ->
 ∃xs F,xs.length=m/\xt n R xs vs F/\(∀x∈xs,∃G,Q x G)/\∀b∈F,∃x G,Q x G/\b∈G
 | 0,vs,h,_=>⟨[],[],rfl,⟨by simpa using h,rfl⟩,by simp,by simp⟩
 | m+1,vs,h,hr=>by
  obtain⟨y,F,h1,h2⟩:=hr 0 (by omega);rw[Nat.zero_mul,List.drop_zero]at h1;have hn:n<=vs.length:=by rw[h,Nat.add_mul];omega
  obtain⟨xs,F',k1,k2,k3,k4⟩:=RQ (n:=n) (R:=R) (Q:=Q) m (vs.drop n) (by rw[List.length_drop,h,Nat.add_mul];omega) (λi hi=>by
   obtain⟨y,F,h1,h2⟩:=hr (i+1) (by omega);exact⟨y,F,by rw[List.drop_drop];rw[Nat.add_mul,Nat.one_mul,Nat.add_comm]at h1;exact h1,h2⟩)
  refine⟨y::xs,F++F',by simp[k1],⟨vs.take n,vs.drop n,F,F',(List.take_append_drop n vs).symm,by rw[length_take];omega,rfl,h1,k2⟩,λx hx=>?_,λb hb=>?_⟩
  · rcases mem_cons.1 hx with rfl|hx
    · exact⟨F,h2⟩
    · exact k3 x hx
  · rcases mem_append.1 hb with hb|hb
    · exact⟨y,F,h2,hb⟩
    · exact k4 b hb
theorem Gm:∀{fs:List Field} {o:Nat} {l:List CT} {vs:List Value},CR ti fs o=some l->vs.length=o+l.length ->
 (∀f∈fs,∀j,wW ti f.type=some j->xn (HS w) j.cs.toL ((vs.drop f.offset).take j.cs.len))->xn (HS w) l (vs.drop o)
 | [],o,l,vs,h,hl,_=>by
  cases h;rw[List.drop_of_length_le (by simpa using Nat.le_of_eq hl)];trivial
 | f::fs,o,l,vs,h,hl,hg=>by
  simp only[CR]at h;cases ho:Nat.beq f.offset o with
  | false=>rw[ho]at h;cases h
  | true =>
   rw[ho]at h;obtain rfl:=Nat.eq_of_beq_eq_true ho;cases hj:wW ti f.type with
   | none=>rw[hj]at h;cases h
   | some j =>
    rw[hj]at h;simp only[cT]at h;cases hr:CR ti fs (f.offset+j.cs.len)with
    | none=>rw[hr]at h;cases h
    | some m =>
     rw[hr]at h;cases h;rw[List.length_append,Cs.toL_length]at hl;have h1:=hg f mem_cons_self j hj
     have h2:=Gm hr (vs:=vs) (by omega) (λf' hf'=>hg f' (mem_cons_of_mem _ hf'));have e:vs.drop f.offset=(vs.drop f.offset).take j.cs.len++vs.drop (f.offset+j.cs.len):=by
      conv=>lhs;rw[←List.take_append_drop j.cs.len (vs.drop f.offset)]
      rw[List.drop_drop]
     rw[e];exact h1.append h2
section
variable {H:Type} {enc:TypeId×Value->H} {held:Bool}
theorem BE.cells {t:Nat} {i:xD} {d:TypeInfo} {u:TypeDesc} {z:Value} (h:BE P ti t i d u z):P.cellsOf t=i.cs.len:=by
 simp[Program.cellsOf,h.info,h.size]
theorem Lf {base:Nat} {a:Addr} {n:Nat} {vs:List Value} (h:w.cells? base a n=some vs):vs.length=n/\∀k,k<n->w.cell? (a.add k)=vs[k]?:=by
 unfold World.cells? at h;split at h
 · refine⟨by simpa using mapM_some_length h,λk hk=>?_⟩;exact mapM_some_get h k k (by simp[hk])
 · cases h
theorem QK {a:Addr} {v:Value} (h:w.cell? a=some v):a.spot=none/\∃c t fz,w.heap[a.block]?=some (.cells c t fz)/\c[a.off]?=some v:=by
 unfold World.cell? at h;split at h
 · rename_i c t fz hc;split at h
   · cases h
   · rename_i hs;exact⟨by
      cases hsp : a.spot with
      | none=>rfl
      | some _=>rw[hsp]at hs;simp at hs,c,t,fz,hc,h⟩
 · cases h
theorem IU (hT:zG P ti) (hD:Deep P ti):∀(fuel:Nat) (t:Nat) (i:xD) (cs:List Value) (x:DataW H×List MemPlace),wW ti t=some i->DataW.trod enc P w 0 (λ_=>true) held fuel t cs=some x->xn (HS w) i.cs.toL cs
 | 0,t,i,cs,x,hi,h=>by simp[DataW.trod]at h
 | fuel+1,t,i,cs,x,hi,h=>by
  obtain⟨d,u,z,hf⟩:=hT.facts hi;cases ha:i.agg with
  | true =>
   obtain⟨fs,hu,_⟩:=hf.agg ha;have hund:=hf.und
   rw[hu]at hund;obtain⟨xs,n,hn,_,hlen,hxs,hget⟩:=DataW.trod_struct hund h;obtain rfl:fuel=n:=by omega
   have hd:=hD t i hi;unfold O3 at hd;simp only[hund]at hd;cases hdf:CR ti fs.toList 0 with
   | none=>rw[hdf]at hd;cases hd
   | some l =>
    rw[hdf]at hd;obtain rfl:=O2 hd;have hlen':cs.length=0+i.cs.toL.length:=by rw[hlen,hf.cells,Cs.toL_length];omega
    have:=Gm (w:=w) hdf hlen' (λf hfm j hj=>by
     obtain⟨k,hk,hkf⟩:=List.mem_iff_getElem.1 hfm;have hfk:fs[k]?=some f:=by rw[←hkf];simp at hk ⊢
     have hg:=hget k f hfk;have hkx:k<xs.length:=by rw[hxs];simpa using hk
     rw[List.getElem?_eq_getElem hkx]at hg;obtain⟨d',u',z',hf'⟩:=hT.facts hj;rw[hf'.cells]at hg;exact IU hT hD fuel f.type j _ _ hj hg)
    simpa using this
  | false =>
   obtain⟨c,hc,hs⟩:=hf.plain ha;rw[hc];have hund:=hf.und
   cases u<;>try (simp[za]at hs;done)
   case bool =>
    obtain⟨b,rfl,_⟩:=DataW.trod_bool hund h;cases c<;>simp[za]at hs;exact⟨⟨b,[],by simp only[CT.Rep];exact⟨trivial,trivial⟩,by simp,by simp only[CT.wf]⟩,trivial⟩
   case int k =>
    obtain⟨n,rfl,_,hw⟩:=DataW.trod_int hund h;cases c<;>simp[za]at hs;obtain rfl:=Bh hs;simp only[Lit.wf,aT,decide_eq_true_eq]at hw;exact⟨⟨n,[],by simp only[CT.Rep];exact⟨trivial,trivial⟩,by simp,by simp only[CT.wf];exact hw⟩,trivial⟩
   case string =>
    obtain⟨s,rfl,_,hw⟩:=DataW.trod_string hund h;cases c<;>simp[za]at hs;refine⟨⟨s.data.toList,[],by simp only[CT.Rep];exact⟨by simp,trivial⟩,by simp,?_⟩,trivial⟩;simp only[CT.wf];rw[Array.length_toList];exact hw
   case interface ms =>
    cases c<;>simp[za]at hs;unfold DataW.trod at h;rw[hund]at h;split at h<;>simp_all
    · exact⟨⟨false,[],by simp only[CT.Rep];exact⟨trivial,.inl ⟨trivial,trivial⟩⟩,by simp,by simp only[CT.wf]⟩,trivial⟩
    · exact⟨⟨true,[],by simp only[CT.Rep];exact⟨trivial,.inr ⟨trivial,_,_,rfl⟩⟩,by simp,by simp only[CT.wf]⟩,trivial⟩
   case slice e =>
    cases c<;>simp[za]at hs;rename_i f;obtain⟨rfl,hs⟩:=hs;cases hj:wW ti i.elem with
    | none=>rw[hj]at hs;simp at hs
    | some j =>
     rw[hj]at hs;have hjf:j.cs=f:=by
      simp only at hs;cases hsm:Cs.same j.cs f with
      | none=>rw[hsm]at hs;cases hs
      | some q=>exact q.down
     subst hjf;obtain⟨d',u',z',hf'⟩:=hT.facts hj;rcases DataW.trod_slice hund h with ⟨rfl,_⟩|⟨a,len,cap,elems,rest,n,hn,rfl,_,_,hlc,hcap,hel,hget,hsp,_⟩
     · exact⟨⟨[],[],zN.2 (.inl ⟨⟨_,rfl⟩,rfl,rfl⟩),by simp,by simp[CT.wf]⟩,trivial⟩
     obtain rfl:fuel=n:=by omega
     obtain⟨hr1,hr2⟩:=hsp rfl;rw[hf'.cells]at hget hr2;have hpos:=Cs.len_pos j.cs
     have hall:∀k,k<cap->∃vs,w.cells? 0 (a.add (k*j.cs.len)) j.cs.len=some vs/\xn (HS w) j.cs.toL vs:=by
      intro k hk;have key:∀{y:DataW H×List MemPlace},(w.cells? 0 (a.add (k*j.cs.len)) j.cs.len).bind (DataW.trod enc P w 0 (λ_=>true) held fuel i.elem)=some y->∃vs,w.cells? 0 (a.add (k*j.cs.len)) j.cs.len=some vs/\xn (HS w) j.cs.toL vs:=by
       intro y hy;rw[Option.bind_eq_some_iff]at hy;obtain⟨vs,h1,h2⟩:=hy;exact⟨vs,h1,IU hT hD fuel i.elem j vs _ hj h2⟩
      by_cases hkl:k<len
      · have:=hget k hkl;rw[List.getElem?_eq_getElem (by omega)]at this;exact key this
      · have:=hr2 (k-len) (by omega);rw[show len+(k-len)=k by omega,List.getElem?_eq_getElem (by omega)]at this;exact key this
     by_cases hc0:cap=0
     · subst hc0;obtain rfl:len=0:=by omega
       exact⟨⟨[],[],zN.2 (.inl ⟨⟨_,rfl⟩,rfl,rfl⟩),by simp,by simp[CT.wf]⟩,trivial⟩
     obtain⟨vs0,h00,_⟩:=hall 0 (by omega);obtain⟨hl0,hg0⟩:=Lf h00;have h0:w.cell? a=some (vs0[0]'(by omega)):=by
      have:=hg0 0 hpos;rw[Nat.zero_mul,List.getElem?_eq_getElem (by omega)]at this;simpa[Addr.add]using this
     obtain⟨hsp0,c,tc,fz,hcell,_⟩:=QK h0;obtain⟨b,off,sp⟩:=a;obtain rfl:sp=none:=hsp0;have hcells:∀k,k<cap->∃vs,vs.length=j.cs.len/\(∀q,q<j.cs.len->c[off+k*j.cs.len+q]?=vs[q]?)/\xn (HS w) j.cs.toL vs:=by
      intro k hk;obtain⟨vs,h1,h2⟩:=hall k hk;obtain⟨hl,hg⟩:=Lf h1;refine⟨vs,hl,λq hq=>?_,h2⟩;have:=hg q hq
      rw[zM,zM]at this;rw[←this];simp only[World.cell?,hcell];simp
     have hsize:off+cap*j.cs.len<=c.size:=by
      obtain⟨vs,hl,hg,_⟩:=hcells (cap-1) (by omega);have:=hg (j.cs.len-1) (by omega)
      rw[List.getElem?_eq_getElem (by omega)]at this;have hlt:=(Array.getElem?_eq_some_iff.1 this).1
      have e:cap*j.cs.len=(cap-1)*j.cs.len+j.cs.len:=by rw[←Nat.succ_mul];congr 1;omega
      omega
     have hlensz:len*j.cs.len<=cap*j.cs.len:=Nat.mul_le_mul_right _ hlc
     let vs:=(c.toList.drop off).take (len*j.cs.len)
     have hvl:vs.length=len*j.cs.len:=by simp only[vs,length_take,List.length_drop,Array.length_toList];omega
     obtain⟨xs,F,hxl,hL,hQ,hFb⟩:=RQ (R:=Cs.Rep w j.cs) (Q:=λy G=>(∀b∈G,b<w.heap.size)/\Cs.wf j.cs y) len vs hvl (λk hk=>by
      obtain⟨us,hl,hg,hgood⟩:=hcells k (by omega);have e:(vs.drop (k*j.cs.len)).take j.cs.len=us:=by
       have hkk:k*j.cs.len+j.cs.len<=len*j.cs.len:=by rw[←Nat.succ_mul];exact Nat.mul_le_mul_right _ hk
       apply List.ext_getElem?;intro q;by_cases hq:q<j.cs.len
       · rw[List.getElem?_take_of_lt hq,List.getElem?_drop];simp only[vs];rw[List.getElem?_take_of_lt (by omega),List.getElem?_drop,←hg q hq,Array.getElem?_toList]
         congr 1;omega
       · rw[List.getElem?_eq_none (by rw[length_take];omega),List.getElem?_eq_none (by omega)]
      rw[e];obtain⟨y,G,k1,k2,k3⟩:=K1 j.cs us hgood;exact⟨y,G,k1,k2,k3⟩)
     have hb:b<w.heap.size:=(Array.getElem?_eq_some_iff.1 hcell).1;refine⟨⟨xs,b::F,zN.2 (.inr ⟨b,off,cap,vs,F,?_,rfl,by omega,⟨c,tc,fz,hcell,hsize⟩,⟨c,tc,fz,hcell,?_⟩,hL⟩),λb' hb'=>?_,?_⟩,trivial⟩
     · rw[hxl]
     · rw[hvl]
     · rcases mem_cons.1 hb' with rfl|hb'
       · exact hb
       · obtain⟨y,G,⟨k1,_⟩,k2⟩:=hFb b' hb';exact k1 b' k2
     · simp only[CT.wf];exact⟨by omega,λy hy=>by obtain⟨G,_,k⟩:=hQ y hy;exact k⟩
end
end Go.V
namespace Go.V
open Go.RowKit
variable {P:Program} {ti:List (Nat×xD)} {W w:World}

mutual
theorem CT.same_refl:∀c:CT,CT.same c c=some ⟨rfl⟩
 | .int k=>by simp[CT.same]
 | .bool=>rfl
 | .str=>rfl
 | .err=>rfl
 | .sl e=>by simp only[CT.same,Cs.same_refl e]
theorem Cs.same_refl:∀e:Cs,Cs.same e e=some ⟨rfl⟩
 | .one c=>by simp only[Cs.same,CT.same_refl c]
 | .cons c r=>by simp only[Cs.same,CT.same_refl c,Cs.same_refl r]
end
theorem CT.read_cell {F:th->Option Entry} (c:CT) (x:c.den):(c.read (c.cell x)).Runs F x []:=by
 cases c with
 | int k=>exact (show (cond (Nat.beq (yv k) (yv k)) (Rd.ret x) .fail).Runs F x []from by rw[show Nat.beq (yv k) (yv k)=true from Nat.beq_refl _];exact⟨rfl,rfl⟩)
 | bool=>exact⟨rfl,rfl⟩
 | str=>exact⟨rfl,rfl⟩
 | err=>exact⟨rfl,rfl⟩
 | sl e =>
  show (DB e (.sh e x)).Runs F x [];simp only[DB,Cs.same_refl];exact⟨rfl,rfl⟩
theorem Cs.read_cells {F:th->Option Entry}:∀(c:Cs) (x:c.den),(c.read (c.cells x)).Runs F x []
 | .one c,x=>CT.read_cell c x
 | .cons c r,x=>by
  show ((c.read (c.cell x.1)).bind λa=>(r.read (r.cells x.2)).bind λb=>.ret (a,b)).Runs F x [];exact Rd.bind_runs (L1:=[]) (L2:=[]) (CT.read_cell c x.1) (Rd.bind_runs (L1:=[]) (L2:=[]) (Cs.read_cells r x.2) ⟨rfl,rfl⟩)
def FE:(ps:List yj)->xc (xz ps)->List AV
 | [],_=>[]
 | .val agg c _::ps,x=>Ah agg (c.cells (xc.hd c (xz ps) x))::FE ps (xc.tl c (xz ps) x)
 | .ptr c _::ps,x=>FE ps (xc.tl c (xz ps) x)
theorem HT {D:th->Prop} {g:Gh}:∀{ps:List yj} {x:xc (xz ps)} {vs:List Value},zh ps=true->BH g.I w ps x vs [] []->xn (xO D g w) (FE ps x) vs
 | [],x,vs,_,⟨h,_⟩=>by subst h;trivial
 | .val agg c false::ps,x,vs,hl,⟨v,vs',us,t1,t2,n1,n2,h1,h2,h3,h4,h5,h6⟩=>by
  subst h1;obtain⟨rfl,rfl⟩:=append_eq_nil_iff.1 h3.symm;obtain⟨rfl,rfl⟩:=append_eq_nil_iff.1 h4.symm;rcases h5 with ⟨_,_,h,_⟩|⟨_,_,_,F,hF,hI⟩
  · cases h
  · exact⟨E7 (Cs.cells_rep hF hI) h2,HT (by simpa[zh]using hl) h6⟩
 | .val _ _ true::_,_,_,hl,_=>by simp[zh]at hl
 | .ptr _ _::_,_,_,hl,_=>by simp[zh]at hl
theorem Th {D:th->Prop} {g:Gh} {agg:Bool} {c:Cs} {x:c.den} {v:Value} {us:List Value} {F:List Nat} (h:isAgg agg v us) (hF:Cs.Rep w c x us F):C7 agg (Ah agg (c.cells x))=true/\(Ah agg (c.cells x)).cells=c.cells x:=by
 rcases h with ⟨rfl,rfl⟩|⟨rfl,_⟩
 · have hl:=hF.length;cases c with
   | one c=>exact⟨rfl,rfl⟩
   | cons c r =>
    exfalso;have:=Cs.len_pos r
    simp[Cs.len]at hl;omega
 · have:Ah true (c.cells x)=.agg (c.cells x):=by cases c.cells x<;>rfl
   rw[this];exact⟨rfl,rfl⟩
theorem GX {I:Nat->Prop} {F:th->Option Entry}:∀{ps:List yj} {x:xc (xz ps)} {vs:List Value},zh ps=true->BH I w ps x vs [] []->∃b:HE (xz ps),(yH false ps (FE ps x)).Runs F b []/\b.args=x/\b.used=[]/\b.ptrs=[]
 | [],x,vs,_,⟨h,_⟩=>⟨⟨(),[],[],[]⟩,⟨rfl,rfl⟩,rfl,rfl,rfl⟩
 | .val agg c false::ps,x,vs,hl,⟨v,vs',us,t1,t2,n1,n2,h1,h2,h3,h4,h5,h6⟩=>by
  subst h1;obtain⟨rfl,rfl⟩:=append_eq_nil_iff.1 h3.symm;obtain⟨rfl,rfl⟩:=append_eq_nil_iff.1 h4.symm;rcases h5 with ⟨_,_,h,_⟩|⟨_,_,_,G,hG,hI⟩
  · cases h
  · obtain⟨k1,k2⟩:=Th (D:=λ_=>False) (g:=⟨λ_=>False,λ_=>.slice none 0 0,λ_=>0,λ_=>none,λ_=>[],λ_=>[]⟩) h2 hG;obtain⟨b,e1,e2,e3,e4⟩:=GX (F:=F) (show zh ps=true by simpa[zh]using hl) h6;refine⟨⟨xc.mk c (xz ps) (xc.hd c (xz ps) x) b.args,[]++b.used,b.ptrs,cond false [] ((Ah agg (c.cells (xc.hd c (xz ps) x))).cells.flatMap Cell.names)++b.ro⟩,?_,?_,?_,e4⟩
    · show (yH false (.val agg c false::ps) (Ah agg (c.cells (xc.hd c (xz ps) x))::FE ps (xc.tl c (xz ps) x))).Runs F _ [];rw[yH,k1];refine Rd.bind_runs (L1:=[]) (L2:=[]) (a:=()) ⟨rfl,rfl⟩ ?_;refine Rd.bind_runs (L1:=[]) (L2:=[]) (a:=(xc.hd c (xz ps) x,[])) ?_ ?_
      · refine Rd.bind_runs (L1:=[]) (L2:=[]) (a:=xc.hd c (xz ps) x) ?_ ⟨rfl,rfl⟩;rw[k2];exact Cs.read_cells c _
      · exact Rd.bind_runs (L1:=[]) (L2:=[]) e1 ⟨rfl,rfl⟩
    · show xc.mk c (xz ps) (xc.hd c (xz ps) x) b.args=x;rw[e2];have eta:∀(c:Cs) (r:List Cs) (x:xc (c::r)),xc.mk c r (xc.hd c r x) (xc.tl c r x)=x:=by
       intro c r x;cases r with
       | nil=>rfl
       | cons _ _=>rfl
      exact eta c (xz ps) x
    · simpa using e3
 | .val _ _ true::_,_,_,hl,_=>by simp[zh]at hl
 | .ptr _ _::_,_,_,hl,_=>by simp[zh]at hl
abbrev yesR:List yY:=[.val false (.one .bool) (some true)]
def yes:(ps:List yj)->xc (yD ps yesR)
 | []=>true
 | .val _ _ _::ps=>yes ps
 | .ptr c _::ps=>xc.mk c (yD ps yesR) c.zero (yes ps)
theorem JQ:∀(ps:List yj) (n:th),zh ps=true->xg n ps yesR [] (yes ps)=⟨[.cell (.bool true)],[],[]⟩
 | [],n,_=>rfl
 | .val _ _ false::ps,n,h=>JQ ps n (by simpa[zh]using h)
 | .val _ _ true::_,_,h=>by simp[zh]at h
 | .ptr _ _::_,_,h=>by simp[zh]at h
theorem Pe:∀(ps:List yj),zh ps=true->AQ ps yesR=false:=by
 intro ps h;unfold AQ;rw[show yesR.any yY.sh=false from rfl,Bool.or_false];rw[List.any_eq_false];intro p hp;have:=all_eq_true.1 h p hp
 cases p with
 | val _ _ _=>simp[yj.sh]
 | ptr _ _=>cases this
theorem RR {f:FuncId} {ps:List yj} {den:xc (xz ps)->Option (xc (yD ps yesR))} (hm:EU P f ⟨ps,yesR,den⟩) (hl:zh ps=true) {x:xc (xz ps)} {vs:List Value} (ha:BH (λb=>b<w.heap.size) w ps x vs [] []) (hd:den x=some (yes ps)) :
 Calls P f vs.toArray w λe w'=>e=.returned (.bool true)/\Below w.heap.size w w':=by
 have hM:=MS.start (w:=w) (λb=>b<w.heap.size) (λ_=>False) (λk=>∃b,k=w.heap.size+b/\b<w.heap.size) (λ_ h=>h) (λb h=>⟨b,rfl,h⟩) (λ_ h=>h.elim);have h1:=HT (D:=dom []) (g:=⟨λb=>b<w.heap.size,λ_=>.slice none 0 0,λ_=>0,λ_=>none,λ_=>[],λ_=>[]⟩) hl ha
 obtain⟨b,h2,e1,e2,e3⟩:=GX (F:=wW []) hl ha;have hs:=Pe ps hl
 have hg:=JQ ps 0 hl;have key:=hm.2 w (λ_=>False) (λk=>∃b,k=w.heap.size+b/\b<w.heap.size) [] _ w 0 (FE ps x) vs b [] (yes ps) hM h1 (by rw[hs];exact h2)
  (by rw[e2];simp[xm,wW]) (by show den b.args=_;rw[e1];exact hd)
  (by show xm (xg 0 ps yesR b.ptrs (yes ps)).news=true;rw[e3,hg];rfl) (by intro p hp;have hp:p∈(xg 0 ps yesR b.ptrs (yes ps)).news:=hp;rw[e3,hg]at hp;simp at hp)
 refine key.mono λe w' he=>?_;cases e with
 | returned v =>
  obtain⟨g',hM',_,hv⟩:=he;have hv:xO _ g' w' (D5 (xg 0 ps yesR b.ptrs (yes ps)).vals) v:=hv
  rw[e3,hg]at hv;have hv:v=.bool true:=hv
  exact⟨by rw[hv],⟨hM'.since.os,hM'.since.tape,hM'.since.out,hM'.since.size,λk hk=>hM'.since.mem k hk (λh=>h)⟩⟩
 | panicked _=>exact he.elim
 | outgrown=>exact he.elim

theorem ML:∀{ps:List yj} {x:xc (xz ps)} {vs:List Value},IG w ps x vs->BH (λb=>b<w.heap.size) w ps x vs [] []
 | [],x,vs,h=>⟨h,rfl,rfl⟩
 | .val agg c false::ps,x,vs,⟨v,vs',us,F,h1,h2,h3,h4⟩=>⟨v,vs',us,[],[],[],[],h1,h2,rfl,rfl,.inr ⟨rfl,rfl,rfl,F,h3,λb hb=>h3.lt b hb⟩,ML h4⟩
 | .val _ _ true::_,_,_,h=>h.elim
 | .ptr .. :: _,_,_,h=>h.elim
theorem Pf {ps:List yj} {rs:List yY} (h:zh ps=true) (k:H8 rs=true):AQ ps rs=false:=by
 unfold AQ;rw[Bool.or_eq_false_iff,List.any_eq_false,List.any_eq_false];refine⟨λp hp=>?_,λr hr=>?_⟩
 · have:=all_eq_true.1 h p hp;cases p with
   | val _ _ _=>simp[yj.sh]
   | ptr _ _=>cases this
 · have:=all_eq_true.1 k r hr;cases r with
   | val agg c own=>cases hx:DE own<;>simp_all [yY.sh]
   | ptr _ _=>cases this
   | cold _ _=>cases this
theorem RS {f:FuncId} {F:Fn} (hm:EU P f F) (hl:zh F.ps=true) (hk:H8 F.rs=true):NQ P f F:=by
 refine⟨hm.1,λw uid x vs r ha hd hdist=>?_⟩;have hM:=MS.start (w:=w) (λb=>b<w.heap.size) (λ_=>False) (λk=>∃b,k=w.heap.size+b/\b<w.heap.size) (λ_ h=>h) (λb h=>⟨b,rfl,h⟩) (λ_ h=>h.elim)
 have ha':=ML ha;have h1:=HT (D:=dom []) (g:=⟨λb=>b<w.heap.size,λ_=>.slice none 0 0,λ_=>0,λ_=>none,λ_=>[],λ_=>[]⟩) hl ha'
 obtain⟨b,h2,e1,e2,e3⟩:=GX (F:=wW []) hl ha';have hs:=Pf hl hk
 have hu:(xg uid F.ps F.rs [] r).upds=[]:=by
  have:=DV F.ps F.rs uid [] r;cases hq:(xg uid F.ps F.rs [] r).upds with
  | nil=>rfl
  | cons p l=>exact absurd (this p (by rw[hq];simp)) (by simp)
 have key:=hm.2 w (λ_=>False) (λk=>∃b,k=w.heap.size+b/\b<w.heap.size) [] _ w uid (FE F.ps x) vs b [] r hM h1 (by rw[hs];exact h2)
  (by rw[e2];simp[xm,wW]) (by rw[e1];exact hd) (by rw[e3];exact hdist) (by intro p hp;rfl)
 refine key.mono λe w' he=>?_;cases e with
 | returned v =>
  obtain⟨g',hM',_,hv⟩:=he;rw[e3,e2,hu]at hM' hv;simp only[append_nil]at hM' hv;exact⟨g',_,_,λ_ h=>h,λb hb ⟨c,hc,_⟩=>by omega,hM',hv⟩
 | panicked _=>exact he.elim
 | outgrown=>exact he.elim
theorem zS.cons {l:List (FuncId×Fn)} {f:FuncId} {F:Fn} (h:zS P ⟨ti,l,[],false⟩) (hm:EU P f F):zS P ⟨ti,(f,F)::l,[],false⟩:=by
 refine⟨h.tis,h.eqs,λk F' hk=>?_,(λf M hf=>by cases hf),(λh=>by cases h)⟩;have hk':(if f=k then some F else wW l k)=some F':=by rw[←xr];exact hk
 clear hk;split at hk'
 · rename_i e;subst e;cases hk';exact hm
 · exact h.fns k F' hk'
theorem zS.trees {l:List (FuncId×Fn)} {m:List (FuncId×AK)} (h:zS P ⟨ti,l,[],false⟩) (hm:∀f M,wW m f=some M->zb P f M):zS P ⟨ti,l,m,true⟩ :=
 ⟨h.tis,h.eqs,h.fns,hm,λ_ f F hf hl hk=>RS (h.fns f F hf) hl hk⟩

def Lg:(ps:List yj)->xc (xz ps)->Prop
 | [],_=>True
 | .val _ c _::ps,x=>Cs.wf c (xc.hd c (xz ps) x)/\Lg ps (xc.tl c (xz ps) x)
 | .ptr c _::ps,x=>Cs.wf c (xc.hd c (xz ps) x)/\Lg ps (xc.tl c (xz ps) x)
def Jn (ti:List (Nat×xD)):List TypeId->List yj->Bool
 | [],[]=>true
 | t::ts,.val agg c false::ps=>(match wW ti t with|some i=>HG i.agg agg&&(Cs.same i.cs c).isSome|none=>false)&&Jn ti ts ps
 | _,_=>false
theorem JR:∀{ts:List TypeId} {ps:List yj},Jn ti ts ps=true->zh ps=true
 | [],[],_=>rfl
 | t::ts,.val agg c false::ps,h=>by
  simp only[Jn,aT]at h;simpa[zh]using JR h.2
 | [],_::_,h=>by cases h
 | _::_,[],h=>by cases h
 | _::_,.val _ _ true::_,h=>by cases h
 | _::_,.ptr _ _::_,h=>by cases h
theorem QL (hT:zG P ti) {t:Nat} {i:xD} (hi:wW ti t=some i) {base:Nat} {v:Value} (hv:Value.okWide P W .any base t v):isAgg i.agg v v.cells.toList:=by
 obtain⟨d,u,z,hf⟩:=hT.facts hi;cases ha:i.agg with
 | true =>
  obtain⟨fs,hu,_⟩:=hf.agg ha;have hund:=hf.und
  rw[hu]at hund;simp only[Value.okWide,hund]at hv;obtain⟨cs,rfl,_⟩:=hv;exact .inr ⟨rfl,rfl⟩
 | false =>
  obtain⟨c,_,hs⟩:=hf.plain ha;have hund:=hf.und
  left;refine⟨rfl,?_⟩;cases u<;>try (simp[za]at hs;done)
  all_goals
   simp only[Value.okWide,hund,Cell.okWide]at hv;cases v<;>first|rfl | (simp_all [Cell.ok];done)
theorem O4 {H:Type} {enc:TypeId×Value->H} {held:Bool} (hT:zG P ti) (hD:Deep P ti) {base:Nat}:∀{ts:List TypeId} {ps:List yj} {vs:List Value} {ds:List (DataW H)} {p:List MemPlace},Jn ti ts ps=true->DataW.TrodAll enc P W 0 (λ_=>true) held ts vs ds p ->
 (∀(j:Nat) t v,ts[j]?=some t->vs[j]?=some v->Value.okWide P W .any base t v)->∃x,BH (λb=>b<W.heap.size) W ps x vs [] []/\Lg ps x
 | [],[],[],[],p,_,_,_=>⟨(),⟨rfl,rfl,rfl⟩,trivial⟩
 | t::ts,.val agg c false::ps,v::vs,d::ds,p,hs,h,hv=>by
  obtain⟨p1,q1,⟨fuel,h1⟩,h2,_⟩:=h;simp only[Jn,aT]at hs;cases hi:wW ti t with
  | none=>rw[hi]at hs;cases hs.1
  | some i =>
   rw[hi]at hs;simp only[aT]at hs;obtain⟨⟨ha,hc⟩,hs⟩:=hs;obtain rfl:=Jk ha;cases hsm:Cs.same i.cs c with
   | none=>rw[hsm]at hc;cases hc
   | some e =>
    obtain⟨e⟩:=e;subst e;obtain⟨x1,F,k1,k2,k3⟩:=K1 i.cs _ (IU hT hD fuel t i _ _ hi h1);obtain⟨x2,k4,k5⟩:=O4 (ps:=ps) hT hD hs h2 (λj t v ht hv'=>hv (j+1) t v (by simpa using ht) (by simpa using hv'));have hag:=QL hT hi (hv 0 t v rfl rfl)
    refine⟨xc.mk i.cs (xz ps) x1 x2,⟨v,vs,v.cells.toList,[],[],[],[],rfl,hag,rfl,rfl,.inr ⟨rfl,rfl,rfl,F,?_,k2⟩,?_⟩,?_⟩
    · show Cs.Rep W i.cs (xc.hd i.cs (xz ps) (xc.mk i.cs (xz ps) x1 x2)) _ F;rw[xc.hd_mk];exact k1
    · show BH _ W ps (xc.tl i.cs (xz ps) (xc.mk i.cs (xz ps) x1 x2)) vs [] [];rw[xc.tl_mk];exact k4
    · show Cs.wf i.cs (xc.hd i.cs (xz ps) (xc.mk i.cs (xz ps) x1 x2))/\Lg ps (xc.tl i.cs (xz ps) (xc.mk i.cs (xz ps) x1 x2));rw[xc.hd_mk,xc.tl_mk];exact⟨k3,k5⟩
 | [],[],_::_,_,_,_,h,_=>by cases h
 | [],[],[],_::_,_,_,h,_=>by cases h
 | _::_,_,[],_,_,_,h,_=>by cases h
 | _::_,_,_::_,[],_,_,h,_=>by cases h
 | [],_::_,_,_,_,hs,_,_=>by cases hs
 | _::_,[],_,_,_,hs,_,_=>by cases hs
 | _::_,.val _ _ true::_,_,_,_,hs,_,_=>by cases hs
 | _::_,.ptr _ _::_,_,_,_,hs,_,_=>by cases hs
theorem law_walk {H:Type} {enc:TypeId×Value->H} {held:Bool} {f:FuncId} {ps:List yj} {den:xc (xz ps)->Option (xc (yD ps yesR))} (hm:EU P f ⟨ps,yesR,den⟩) (hT:zG P ti) (hD:Deep P ti) {ts:List TypeId} (hs:Jn ti ts ps=true) (hden:∀x,Lg ps x->den x=some (yes ps))
 {base:Nat} {vs:List Value} {ds:List (DataW H)} {p:List MemPlace} (h:DataW.TrodAll enc P W 0 (λ_=>true) held ts vs ds p) (hv:∀(j:Nat) t v,ts[j]?=some t->vs[j]?=some v->Value.okWide P W .any base t v) :
 Calls P f vs.toArray W λe W'=>e=.returned (.bool true)/\Below W.heap.size W W':=by
 obtain⟨x,h1,h2⟩:=O4 hT hD hs h hv;exact RR hm (JR hs) h1 (hden x h2)
end Go.V
namespace Go.V
variable {P:Program} {G:yU} {ann:List (Nat×xi)} {w w':World}

def IV (agg:Bool) (c:Cs) (x:c.den) (k:Int):St:=⟨[(0,Ah agg (Cs.give true 1 c x).1),(1,.cell (.int .i64 k))],ya (Cs.give true 1 c x).2⟩
def CT.reap (S:St) (n:th):(c:CT)->c.den->Option c.den
 | .sl e,_=>Fl S e n
 | .int _,x=>some x
 | .bool,x=>some x
 | .str,x=>some x
 | .err,x=>some x
def Cs.reap (S:St):th->(c:Cs)->c.den->Option c.den
 | n,.one c,x=>c.reap S n x
 | n,.cons c r,x=>match c.reap S n x.1,Cs.reap S (n+1) r x.2 with|some a,some b=>some (a,b)|_,_=>none
def Gn (G:yU) (rv:List ResultVar) (c:Cs) (x:c.den) (S:St):Option (c.den×Int) :=
 match Ek G S rv with
 | some [.cell (.int .i64 k)]=>match Cs.reap S 1 c x with|some y=>some (y,k)|none=>none
 | _=>none
noncomputable def Aw (G:yU) (ann:List (Nat×xi)) (fn:Func) (c:Code) (agg:Bool) (cs:Cs) (x:cs.den) (k:Int):Option (cs.den×Int) :=
 cond (Br fn.ntmps c&&(Nat.ble 2 fn.ntmps&&xm (ya (Cs.give true 1 cs x).2))) (Bv G ann c (IV agg cs x k) ⟨Gn G fn.results.toList cs x,λ_ _=>none,Gn G fn.results.toList cs x⟩) none

theorem Gp:∀{c:Cs} {n:th} {x:c.den},c.held (Cs.give true n c x).1 x=ya (Cs.give true n c x).2
 | .one c,n,x=>by cases c<;>rfl
 | .cons c r,n,x=>by
  have ih:=Gp (c:=r) (n:=n+1) (x:=x.2);simp only[Cs.give,Cs.held,ya,map_append];rw[ih];cases c<;>rfl
theorem MM:∀{c:Cs} {n:th} {x:c.den} {us:List Value} {F:List Nat} {R:List (List Value)},Cs.TRep w c x us F R ->
 ∃(loc:th->Value) (esz:th->Nat) (rows:th->List Value),∀(g:Gh),(∀m,n<=m->g.loc m=loc m/\g.esz m=esz m/\g.rows m=rows m)->Cs.Slot [] g c (Cs.give true n c x).1 us R
 | .one c,n,x,us,F,R,h=>by
  obtain⟨v,rfl,h⟩:=h;cases c with
  | sl e =>
   obtain⟨rw,rfl,_⟩:=h;exact⟨λ_=>v,λ_=>e.len,λ_=>rw,λg hg=>⟨_,v,rfl,rfl,n,rfl,.inr rfl,(hg n (Nat.le_refl _)).1,(hg n (Nat.le_refl _)).2.1,by rw[(hg n (Nat.le_refl _)).2.2]⟩⟩
  | int k=>obtain⟨rfl,_⟩:=h;exact⟨λ_=>v,λ_=>0,λ_=>[],λg hg=>⟨_,v,rfl,rfl,rfl⟩⟩
  | bool=>obtain⟨rfl,_⟩:=h;exact⟨λ_=>v,λ_=>0,λ_=>[],λg hg=>⟨_,v,rfl,rfl,rfl⟩⟩
  | str=>obtain⟨rfl,_⟩:=h;exact⟨λ_=>v,λ_=>0,λ_=>[],λg hg=>⟨_,v,rfl,rfl,rfl⟩⟩
  | err=>obtain⟨rfl,_⟩:=h;exact⟨λ_=>v,λ_=>0,λ_=>[],λg hg=>⟨_,v,rfl,rfl,rfl⟩⟩
 | .cons c r,n,x,us,F,R,h=>by
  obtain⟨v,vs',F1,F2,R1,R2,rfl,rfl,rfl,h1,h2⟩:=h;obtain⟨loc,esz,rows,ih⟩:=MM (n:=n+1) h2;have tail:∀(l:Value) (e:Nat) (rw:List Value) (g:Gh),(∀m,n<=m->g.loc m=(if m=n then l else loc m)/\g.esz m=(if m=n then e else esz m)/\g.rows m=(if m=n then rw else rows m))->Cs.Slot [] g r (Cs.give true (n+1) r x.2).1 vs' R2:=by
   intro l e rw g hg;refine ih g λm hm=>?_;have hne:¬m=n:=Nat.ne_of_gt (Nat.lt_of_succ_le hm)
   have:=hg m (Nat.le_of_succ_le hm);rw[if_neg hne,if_neg hne,if_neg hne]at this;exact this
  cases c with
  | sl e =>
   obtain⟨rw,rfl,_⟩:=h1;refine⟨λm=>if m=n then v else loc m,λm=>if m=n then e.len else esz m,λm=>if m=n then rw else rows m,λg hg=>⟨_,v,_,vs',[rw],R2,rfl,rfl,rfl,⟨n,rfl,.inr rfl,?_⟩,tail v e.len rw g hg⟩⟩;have:=hg n (Nat.le_refl _)
   simp only[if_true]at this;exact⟨this.1,this.2.1,by rw[this.2.2]⟩
  | int k=>obtain⟨rfl,_⟩:=h1;exact⟨λm=>if m=n then v else loc m,λm=>if m=n then 0 else esz m,λm=>if m=n then []else rows m,λg hg=>⟨_,v,_,vs',[],R2,rfl,rfl,rfl,rfl,tail v 0 [] g hg⟩⟩
  | bool=>obtain⟨rfl,_⟩:=h1;exact⟨λm=>if m=n then v else loc m,λm=>if m=n then 0 else esz m,λm=>if m=n then []else rows m,λg hg=>⟨_,v,_,vs',[],R2,rfl,rfl,rfl,rfl,tail v 0 [] g hg⟩⟩
  | str=>obtain⟨rfl,_⟩:=h1;exact⟨λm=>if m=n then v else loc m,λm=>if m=n then 0 else esz m,λm=>if m=n then []else rows m,λg hg=>⟨_,v,_,vs',[],R2,rfl,rfl,rfl,rfl,tail v 0 [] g hg⟩⟩
  | err=>obtain⟨rfl,_⟩:=h1;exact⟨λm=>if m=n then v else loc m,λm=>if m=n then 0 else esz m,λm=>if m=n then []else rows m,λg hg=>⟨_,v,_,vs',[],R2,rfl,rfl,rfl,rfl,tail v 0 [] g hg⟩⟩
theorem RT {D:th->Prop} {g g':Gh} (hg:∀n,g'.loc n=g.loc n):∀{c:Cs} {n:th} {x:c.den} {us:List Value} {F:List Nat} {R:List (List Value)},Cs.TRep w c x us F R->Cs.Slot [] g c (Cs.give true n c x).1 us R->(∀m∈(Cs.give true n c x).2.map (·.1),D m)->xn (xd D g' w') (Cs.give true n c x).1 us:=by
 have one:∀{c:CT} {n:th} {x:c.den} {v:Value} {F:List Nat} {R S:List (List Value)},CT.TRep w c x v F R->CT.Slot [] g c (c.give true n x).1 v S->(∀m∈(c.give true n x).2.map (·.1),D m)->xd D g' w' (c.give true n x).1 v:=by
  intro c n x v F R S h hs hd;cases c with
  | sl e =>
   obtain⟨r,hr,_,hl,_⟩:=hs;cases hr;exact⟨hd n (by simp[CT.give]),hl.symm.trans (hg n).symm⟩
  | int k=>have:=h.2;simp only[CT.Rep]at this;exact this.1
  | bool=>have:=h.2;simp only[CT.Rep]at this;exact this.1
  | str=>have:=h.2;simp only[CT.Rep]at this;exact this.1
  | err=>have:=h.2;simp only[CT.Rep]at this;exact this.2
 intro c
 induction c using Cs.rec (motive_1:=λ_=>True)with
 | one c _ =>
  intro n x us F R h hs hd;obtain⟨v,rfl,h⟩:=h;obtain⟨y,v',hy,hv,hs⟩:=hs;cases hv;cases hy;exact⟨one h hs hd,trivial⟩
 | cons c r _ ih =>
  intro n x us F R h hs hd;obtain⟨v,vs',F1,F2,R1,R2,rfl,rfl,rfl,h1,h2⟩:=h;obtain⟨y,v',ys,vs'',S1,S2,hy,hv,hS,hs1,hs2⟩:=hs;cases hv;have hlen:∀{c:CT} {y:c.den} {v:Value} {F:List Nat} {R S:List (List Value)} {x:Cell},CT.TRep w c y v F S->CT.Slot [] g c x v R->S.length=R.length:=by
   intro c y v F R S x h1 h2;cases c with
   | sl e=>obtain⟨_,_,_,_,_,rfl⟩:=h2;obtain⟨_,rfl,_⟩:=h1;rfl
   | _=>rw[show R=[]from h2,h1.1]
  obtain⟨rfl,rfl⟩:=List.append_inj hS (hlen h1 hs1);have hy':(c.give true n x.1).1::(Cs.give true (n+1) r x.2).1=y::ys:=hy
  simp only[List.cons.injEq]at hy';obtain⟨rfl,rfl⟩:=hy';refine⟨one h1 hs1 λm hm=>hd m ?_,ih h2 hs2 λm hm=>hd m ?_⟩
  · show m∈((c.give true n x.1).2++(Cs.give true (n+1) r x.2).2).map (·.1);rw[map_append];exact mem_append_left _ hm
  · show m∈((c.give true n x.1).2++(Cs.give true (n+1) r x.2).2).map (·.1);rw[map_append];exact mem_append_right _ hm
 | _=>trivial
theorem QM {S:St} {g gf:Gh} (hm:zv S.en gf w'):∀{c:Cs} {n:th} {x x':c.den} {us:List Value} {F:List Nat} {R:List (List Value)},Cs.TRep w c x us F R->Cs.Slot [] g c (Cs.give true n c x).1 us R ->
 (∀m∈(Cs.give true n c x).2.map (·.1),gf.loc m=g.loc m/\gf.rows m=g.rows m)->Cs.reap S n c x=some x'->Cs.TRep w' c x' us (((Cs.give true n c x).2.map (·.1)).flatMap gf.nest) R/\∀m∈(Cs.give true n c x).2.map (·.1),∃e xs,wW S.en m=some (.tree e xs):=by
 have one:∀{c:CT} {n:th} {x x':c.den} {v:Value} {F:List Nat} {R:List (List Value)},CT.TRep w c x v F R->CT.Slot [] g c (c.give true n x).1 v R ->
  (∀m∈(c.give true n x).2.map (·.1),gf.loc m=g.loc m/\gf.rows m=g.rows m)->CT.reap S n c x=some x'->CT.TRep w' c x' v (((c.give true n x).2.map (·.1)).flatMap gf.nest) R/\∀m∈(c.give true n x).2.map (·.1),∃e xs,wW S.en m=some (.tree e xs):=by
  intro c n x x' v F R h hs hg hr;cases c with
  | sl e =>
   obtain⟨r,hr',_,hl,_,hR⟩:=hs;cases hr';have hn:=Iq (show Fl S e n=some x' from hr)
   obtain⟨_,k2,_⟩:=hm.rep n _ hn;obtain⟨g1,g2⟩:=hg n (by simp[CT.give]);refine⟨⟨g.rows n,hR,?_⟩,λm hm'=>?_⟩
   · rw[g1,g2,hl]at k2;simpa[CT.give]using k2
   · obtain rfl:m=n:=by simpa[CT.give]using hm'
     exact⟨e,x',hn⟩
  | int k=>cases hr;obtain⟨rfl,hr⟩:=h;refine⟨⟨rfl,?_⟩,by simp[CT.give]⟩;simp only[CT.Rep]at hr ⊢;exact⟨hr.1,rfl⟩
  | bool=>cases hr;obtain⟨rfl,hr⟩:=h;refine⟨⟨rfl,?_⟩,by simp[CT.give]⟩;simp only[CT.Rep]at hr ⊢;exact⟨hr.1,rfl⟩
  | str=>cases hr;obtain⟨rfl,hr⟩:=h;refine⟨⟨rfl,?_⟩,by simp[CT.give]⟩;simp only[CT.Rep]at hr ⊢;exact⟨hr.1,rfl⟩
  | err=>cases hr;obtain⟨rfl,hr⟩:=h;refine⟨⟨rfl,?_⟩,by simp[CT.give]⟩;simp only[CT.Rep]at hr ⊢;exact⟨rfl,hr.2⟩
 intro c
 induction c using Cs.rec (motive_1:=λ_=>True)with
 | one c _ =>
  intro n x x' us F R h hs hg hr;obtain⟨v,rfl,h⟩:=h;obtain⟨y,v',hy,hv,hs⟩:=hs;cases hv;cases hy;obtain⟨k1,k2⟩:=one h hs hg hr;exact⟨⟨v,rfl,k1⟩,k2⟩
 | cons c r _ ih =>
  intro n x x' us F R h hs hg hr;obtain⟨v,vs',F1,F2,R1,R2,rfl,rfl,rfl,h1,h2⟩:=h;obtain⟨y,v',ys,vs'',S1,S2,hy,hv,hS,hs1,hs2⟩:=hs;cases hv;have hlen:∀{c:CT} {y:c.den} {v:Value} {F:List Nat} {R S:List (List Value)} {x:Cell},CT.TRep w c y v F S->CT.Slot [] g c x v R->S.length=R.length:=by
   intro c y v F R S x h1 h2;cases c with
   | sl e=>obtain⟨_,_,_,_,_,rfl⟩:=h2;obtain⟨_,rfl,_⟩:=h1;rfl
   | _=>rw[show R=[]from h2,h1.1]
  obtain⟨rfl,rfl⟩:=List.append_inj hS (hlen h1 hs1);have hy':(c.give true n x.1).1::(Cs.give true (n+1) r x.2).1=y::ys:=hy
  simp only[List.cons.injEq]at hy';obtain⟨rfl,rfl⟩:=hy';have hnm:(Cs.give true n (.cons c r) x).2.map (·.1)=(c.give true n x.1).2.map (·.1)++(Cs.give true (n+1) r x.2).2.map (·.1):=map_append
  rw[hnm]at hg ⊢;simp only[Cs.reap]at hr;split at hr
  · rename_i p q hp hq;cases hr;obtain⟨k1,k2⟩:=one h1 hs1 (λm hm'=>hg m (mem_append_left _ hm')) hp;obtain⟨k3,k4⟩:=ih h2 hs2 (λm hm'=>hg m (mem_append_right _ hm')) hq;exact⟨⟨v,vs',_,_,R1,R2,rfl,flatMap_append,rfl,k1,k3⟩,λm hm'=>(mem_append.1 hm').elim (k2 m) (k4 m)⟩
  · cases hr
 | _=>trivial
theorem UJ:∀{c:Cs} {n:th} {x:c.den} (m:th) (cs:List Cell),(m,Entry.box cs)∉ya (Cs.give true n c x).2:=by
 intro c n x m cs h;rw[←Gp]at h;exact Cs.held_nb m cs h
theorem AG (hG : zS P G) (hm : P.follows .mixedOrders=true) {f : FuncId} {fn : Func} {c : Code} {agg : Bool} {cs : Cs} (hf : P.funcs[f]?=some fn) (hn : (fn.name == "runtime.NumGoroutine")=false) (hb : fn.body=some c) :
 zb P f ⟨agg,cs,Aw G ann fn c agg cs⟩:=by
 refine⟨⟨fn,c,hf,hn,hb⟩,?_⟩;intro w v us x x' F R k k' hag htr hnd hsoft hden;have hden:Aw G ann fn c agg cs x k=some (x',k'):=hden
 unfold Aw at hden;cases hck:(Br fn.ntmps c&&(Nat.ble 2 fn.ntmps&&xm (ya (Cs.give true 1 cs x).2)))with
 | false=>rw[hck]at hden;cases hden
 | true =>
 rw[hck]at hden;simp only[aT,cT]at hck hden;obtain⟨hbel,hnt,hdis⟩:=hck;obtain⟨loc,esz,rows,hslots⟩:=MM (n:=1) htr
 let g0:Gh:=⟨λ_=>False,loc,esz,λ_=>none,λ_=>[],rows⟩
 have hslot:=hslots g0 λm _=>⟨rfl,rfl,rfl⟩;have hM0:=MS.begin (w:=w) g0 (· ∈ F) (λ_=>False) (λb h=>h.elim) (λb h=>h.elim) hsoft
 obtain⟨gc,hMc,_,_,hgc⟩:=Cs.held_put hM0 htr hnd (λb hb=>⟨λh=>h.elim,(λm f h=>by cases h),(λm f h=>by cases h),.inr hb⟩) hslot (by rw[Gp];exact hdis);rw[Gp,append_nil]at hMc;have hdomG:∀m∈(Cs.give true 1 cs x).2.map (·.1),dom (ya (Cs.give true 1 cs x).2) m:=λm hm=>by rw[BZ,Bk];exact hm
 have hcells:=RT (w':=w) (D:=dom (ya (Cs.give true 1 cs x).2)) (g:=g0) (g':=gc) (λn=>(hgc n).1) htr hslot hdomG
 let vals:List Value:=[v,.int .i64 k]
 have hInv:xR w (· ∈ F) (λ_=>False) (IV agg cs x k) gc w { tmps:=vals.toArray++Array.replicate (fn.ntmps-vals.toArray.size) undef,defers:=[] }:=by
  refine⟨hMc.mem,hMc.since,λt=>?_,rfl⟩;have hget:∀(t:Nat) (u:Value),vals[t]?=some u->(vals.toArray++Array.replicate (fn.ntmps-vals.toArray.size) undef).getD t undef=u:=by
   intro t u hu;have hlt:t<vals.length:=(List.getElem?_eq_some_iff.1 hu).1
   have hv:=(List.getElem?_eq_some_iff.1 hu).2;have hsz':t<(vals.toArray++Array.replicate (fn.ntmps-vals.toArray.size) undef).size:=by rw[Array.size_append,List.size_toArray];omega
   unfold Array.getD;rw[dif_pos hsz'];show (vals.toArray++Array.replicate (fn.ntmps-vals.toArray.size) undef)[t]'hsz'=u
   rw[Array.getElem_append_left (by simpa using hlt)];simpa using hv
  show xO _ _ _ (match wW [(0,Ah agg (Cs.give true 1 cs x).1),(1,AV.cell (.int .i64 k))] t with|some v=>v|none=>.undef) _
  match t with
  | 0=>rw[hget 0 v rfl];exact E7 hcells hag
  | 1=>rw[hget 1 (.int .i64 k) rfl];rfl
  | t+2=>trivial
 have hsz:fn.ntmps<=(vals.toArray++Array.replicate (fn.ntmps-vals.toArray.size) undef).size:=by simp;omega
 have hc0:yp (IV agg cs x k):=by
  refine⟨λt=>?_,λn ds hn=>absurd (yk hn) (UJ n ds)⟩;show A9 _ (match wW [(0,Ah agg (Cs.give true 1 cs x).1),(1,AV.cell (.int .i64 k))] t with|some v=>v|none=>.undef)
  match t with
  | 0 =>
   have h1:=Hl (D:=dom (ya (Cs.give true 1 cs x).2)) (agg:=agg) (cs:=(Cs.give true 1 cs x).1) (by
    obtain⟨_,k4⟩:=E5 (some true) 1 cs x;intro d hd;refine (k4 d hd).mono λn hn=>?_;rw[BZ,Bk];exact Av.2 hn)
   show A9 _ (Ah agg (Cs.give true 1 cs x).1);cases hx:Ah agg (Cs.give true 1 cs x).1 with
   | cell c=>rw[hx]at h1;exact h1
   | agg ds=>rw[hx]at h1;exact h1
   | tup l=>rw[hx]at h1;exact h1.elim
  | 1=>exact xA rfl
  | t+2=>exact xA rfl
 have key:∀(S':St) (a':Act) (w':World),At w (· ∈ F) (λ_=>False) fn.ntmps (dom (ya (Cs.give true 1 cs x).2)) gc w S' a' w'->Gn G fn.results.toList cs x S'=some (x',k') ->
  a'.defers=[]/\∃r,(results fn a'.tmps).run P w'=.ok r w'/\(r=.int .i64 k'/\(∃F',Cs.TRep w' cs x' us F' R/\F'.Nodup/\∀b∈F',b∈F\/w.heap.size<=b)/\(∀b,b∈F\/w.heap.size<=b->soft w' b) /\
   w'.os=w.os/\w'.output=w.output/\w'.tape=w.tape/\w.heap.size<=w'.heap.size/\∀b,b<w.heap.size->b∉F->w'.heap[b]?=w.heap[b]?):=by
  intro S' a' w' ⟨gf,hIf,_,hle⟩ hl;unfold Gn at hl;split at hl
  · rename_i k1 hres;split at hl
    · rename_i y hy;cases hl;obtain⟨rvals,h5,h6⟩:=Gk hIf hG.tis hres
      match rvals,h5 with
      | [rv],h5 =>
      have hrv:rv=.int .i64 k':=h5.1;obtain⟨t1,t2⟩:=QM (g:=g0) hIf.mem htr hslot (λm hm=>by
       have hdm:=hdomG m hm;exact⟨(hle.loc m hdm).trans (hgc m).1,(hle.rows m hdm).trans (hgc m).2.2⟩) hy
      have hnn:((Cs.give true 1 cs x).2.map (·.1)).Nodup:=by
       rw[←Bk];exact E6 hdis
      refine⟨hIf.plain,LY [rv],JP h6,hrv,⟨_,t1,HL hIf.mem hnn t2,λb hb=>?_⟩,λb hb=>hIf.since.soft b hb.symm,hIf.since.os,hIf.since.out,hIf.since.tape,hIf.since.size,λb hb hbF=>hIf.since.mem b hb hbF⟩;obtain⟨m,hm,hb⟩:=List.mem_flatMap.1 hb;obtain⟨e,ys,hfm⟩:=t2 m hm;exact (hIf.since.born m _ b hfm rfl hb).symm
    · cases hl
  · cases hl
 refine calls_of_wp hf hb (AX hG hm c hbel hInv hsz hc0 hden ⟨λS' a' w' _ _ hat hk=>?_,(λi S' a' w' _ _ hat hk=>by cases hk),λS' a' w' _ _ hat hk=>?_⟩)
 · obtain⟨k1,v,k2,k3⟩:=key S' a' w' hat hk;exact⟨k1,v,k2,k3⟩
 · obtain⟨k1,v,k2,k3⟩:=key S' a' w' hat hk;exact⟨k1,v,k2,k3⟩
theorem MN:∀f M,wW ([]:List (FuncId×AK)) f=some M->zb P f M:=λf M h=>by cases h
theorem zR {l:List (FuncId×AK)} {f:FuncId} {K:AK} (h:∀f M,wW l f=some M->zb P f M) (hk:zb P f K):∀g M,wW ((f,K)::l) g=some M->zb P g M:=λg M hg=>by
 rw[xr]at hg;split at hg
 · rename_i e;subst e;cases hg;exact hk
 · exact h g M hg
end Go.V
namespace Go.V
def E1 {α:Type} (a b:Option α):Prop:=∀r,a=some r->b=some r
theorem E1.refl {α:Type} (a:Option α):E1 a a:=λ_ h=>h
theorem E1.bind {α β:Type} {a b:Option α} {f g:α->Option β} (h:E1 a b) (k:∀x,E1 (f x) (g x)):E1 (a.bind f) (b.bind g):=by
 intro r hr;rw[Option.bind_eq_some_iff]at hr ⊢;obtain⟨x,h1,h2⟩:=hr;exact⟨x,h x h1,k x r h2⟩
theorem E1.cond {α:Type} {c:Bool} {a b a' b':Option α} (h:E1 a b) (k:E1 a' b'):E1 (cond c a a') (cond c b b'):=by
 cases c
 · exact k
 · exact h
def Xt {α β:Type} (step:α->Option (α⊕β)) (a:α):Option β:=zY step 2048 a
theorem PB {α β:Type} {f g:α->Option (α⊕β)} (h:∀x,E1 (f x) (g x)):∀(k:Nat) (a:α),E1 (zY f k a) (zY g k a)
 | 0,a=>E1.refl _
 | k+1,a=>by
  rw[yh,yh];refine E1.bind (h a) λx=>?_;cases x with
  | inl x=>exact PB h k x
  | inr b=>exact E1.refl _
theorem O5 {α β:Type} {f:α->Option (α⊕β)}:∀(k k':Nat) (a:α) {b b':β},zY f k a=some b->zY f k' a=some b'->b=b'
 | 0,_,a,b,b',h,_=>by cases h
 | k+1,0,a,b,b',_,h=>by cases h
 | k+1,k'+1,a,b,b',h,h'=>by
  rw[yh,Option.bind_eq_some_iff]at h h';obtain⟨x,h1,h2⟩:=h;obtain⟨x',h1',h2'⟩:=h';rw[h1]at h1';cases h1';cases x with
  | inl x=>exact O5 k k' x h2 h2'
  | inr c=>cases h2;cases h2';rfl
theorem AH {α β:Type} {f:α->Option (α⊕β)} {k:Nat} {a:α} {b:β} (h:zY f k a=some b):loop f a=some b:=by
 unfold loop;have hex:∃k,(zY f k a).isSome:=⟨k,by rw[h];rfl⟩
 rw[dif_pos hex];have:=Classical.choose_spec hex
 cases hc:zY f (Classical.choose hex) a with
 | none=>rw[hc]at this;cases this
 | some b'=>rw[O5 _ _ _ h hc]
theorem E1.loop {α β:Type} {f g:α->Option (α⊕β)} {a:α} (h:∀x,E1 (f x) (g x)):E1 (Xt f a) (loop g a):=λr hr=>AH (PB h _ _ r hr)
theorem xN {n:Int} (h1:-9223372036854775808<=n) (h2:n<=9223372036854775807):wZ n=n:=by
 show (let m:=n%18446744073709551616;if (true&&decide (m>=9223372036854775808))=true then m-18446744073709551616 else m)=n;simp only[Bool.true_and,decide_eq_true_eq];split<;>omega
end Go.V
namespace Go.V

theorem xG {α β:Type} {step:α->Option (α⊕β)} (xR:Nat->α->Prop) (m:Nat) (R:β->Prop)
 (h:∀k x,k<m->xR k x->(∃y,step x=some (.inl y)/\xR (k+1) y)\/∃b,step x=some (.inr b)/\R b)
 (he:∀x,xR m x->∃b,step x=some (.inr b)/\R b) {x:α} (h0:xR 0 x):∃b,loop step x=some b/\R b:=by
 have key:∀n k x,k+n=m->xR k x->∃b,zY step (n+1) x=some b/\R b:=by
  intro n
  induction n with
  | zero =>
   intro k x hk hx;obtain rfl:k=m:=by omega
   obtain⟨b,h1,h2⟩:=he x hx;exact⟨b,by rw[yh,h1];rfl,h2⟩
  | succ n ih =>
   intro k x hk hx;rcases h k x (by omega) hx with ⟨y,h1,h2⟩|⟨b,h1,h2⟩
   · obtain⟨b,h3,h4⟩:=ih (k+1) y (by omega) h2;exact⟨b,by rw[yh,h1];exact h3,h4⟩
   · exact⟨b,by rw[yh,h1];rfl,h2⟩
 obtain⟨b,h1,h2⟩:=key m 0 x (by omega) h0;exact⟨b,AH h1,h2⟩
theorem xo {α:Type} {xs:List α} {k:Nat} (h:k<xs.length):at? xs (k:Int)=some xs[k]:=by
 unfold at?;rw[if_pos (by omega),Int.toNat_natCast,List.getElem?_eq_getElem h]
theorem yE {n k:Nat} (h:k<n):ix n (k:Int)=some k:=by
 unfold ix;rw[if_pos (by omega),if_pos (by omega),Int.toNat_natCast]
theorem xj {k:Nat} (h:k<9223372036854775807):wZ ((k:Int)+1)=((k+1:Nat):Int):=by
 rw[xN (by omega) (by omega)];omega
theorem RU {n:Nat} (h:n<=4294967295):Cp (n:Int)=some n:=by
 unfold Cp;rw[if_pos (by omega),if_pos (by show (n:Int)<=((4294967296:Nat):Int);omega),Int.toNat_natCast]
theorem xI {a b:Int} (h:a<b):decide (a<b)=true:=dT h
theorem xu {a b:Int} (h:¬a<b):decide (a<b)=false:=dF h
theorem E9 {α:Type} {a:List α} {f:α->Option α} (hf:∀x∈a,f x=some x) (hn:a.length<=4294967295) (z:α) :
 loop (λs:Int×List α=>cond (decide (s.1<(a.length:Int))) ((at? a s.1).bind λx=>(f x).bind λt=>(ix s.2.length s.1).bind λj=>(s.2[j]?).bind λ_=>some (.inl (wZ (s.1+1),s.2.set j t))) (some (.inr s.2))) (0,List.replicate a.length z)=some a:=by
 obtain⟨b,h1,rfl⟩:=xG (step:=λs:Int×List α=>cond (decide (s.1<(a.length:Int))) ((at? a s.1).bind λx=>(f x).bind λt=>(ix s.2.length s.1).bind λj=>(s.2[j]?).bind λ_=>some (.inl (wZ (s.1+1),s.2.set j t))) (some (.inr s.2)))
  (λk s=>s.1=(k:Int)/\s.2=a.take k++List.replicate (a.length-k) z) a.length (λb=>b=a)
  (λk s hk ⟨h1,h2⟩=>by
   obtain⟨i,l⟩:=s;simp only at h1 h2;subst h1;have hl:l.length=a.length:=by rw[h2,List.length_append,length_take,List.length_replicate];omega
   refine .inl ⟨((k+1:Nat),l.set k a[k]),?_,rfl,?_⟩
   · simp only[xI (show (k:Int)<(a.length:Int) by omega),cT,xo hk,Option.bind_some,hf _ (List.getElem_mem hk),hl,yE hk];rw[List.getElem?_eq_getElem (by omega),Option.bind_some,xj (by omega)]
   · show l.set k a[k]=_;rw[h2,List.set_append_right _ _ (by rw[length_take];omega),length_take,Nat.min_eq_left (by omega),Nat.sub_self];have e:a.length-k=(a.length-(k+1))+1:=by omega
     rw[e,List.replicate_succ,List.set_cons_zero];have e2:a.take (k+1)=a.take k++[a[k]]:=by rw[List.take_add_one,List.getElem?_eq_getElem hk];rfl
     rw[e2,append_assoc];rfl)
  (λs ⟨h1,h2⟩=>by
   obtain⟨i,l⟩:=s;simp only at h1 h2;subst h1;refine⟨l,?_,?_⟩
   · simp only[xu (show ¬(a.length:Int)<(a.length:Int) by omega),cF]
   · rw[h2];simp)
  (x:=(0,List.replicate a.length z)) ⟨rfl,by simp⟩
 exact h1
theorem O6 {α:Type} {a:List α} (hn:a.length<=4294967295) (z:α) :
 loop (λs:Int×List α=>cond (decide (s.1<(a.length:Int))) ((at? a s.1).bind λx=>(ix s.2.length s.1).bind λj=>(s.2[j]?).bind λ_=>some (.inl (wZ (s.1+1),s.2.set j x))) (some (.inr s.2))) (0,List.replicate a.length z)=some a :=
 E9 (f:=some) (λ_ _=>rfl) hn z
theorem CS {α:Type} {a:List α} {g:α->α->Option Bool} (hg:∀x∈a,g x x=some true) (hn:a.length<=4294967295) :
 loop (λi:Int=>cond (decide (i<(a.length:Int))) ((at? a i).bind λx=>(at? a i).bind λy=>(g x y).bind λt=>cond (!t) (some (.inr (.inr false))) (some (.inl (wZ (i+1))))) (some (.inr (.inl ())))) 0=some (Sum.inl ():Unit⊕Bool):=by
 obtain⟨b,h1,rfl⟩:=xG (β:=Unit⊕Bool) (step:=λi:Int=>cond (decide (i<(a.length:Int))) ((at? a i).bind λx=>(at? a i).bind λy=>(g x y).bind λt=>cond (!t) (some (.inr (.inr false))) (some (.inl (wZ (i+1))))) (some (.inr (.inl ()))))
  (λk i=>i=(k:Int)) a.length (λb=>b=.inl ())
  (λk i hk h=>by
   subst h;refine .inl ⟨((k+1:Nat):Int),?_,rfl⟩;simp only[xI (show (k:Int)<(a.length:Int) by omega),cT,xo hk,Option.bind_some,hg _ (List.getElem_mem hk),Bool.not_true,cF];rw[xj (by omega)])
  (λi h=>by
   subst h;exact⟨.inl (),by simp only[xu (show ¬(a.length:Int)<(a.length:Int) by omega),cF],rfl⟩) (x:=0) rfl
 exact h1
theorem HU {a:List Int} (hn:a.length<=4294967295) :
 loop (λi:Int=>cond (decide (i<(a.length:Int))) ((at? a i).bind λx=>(at? a i).bind λy=>cond (x != y) (some (.inr (.inr false))) (some (.inl (wZ (i+1))))) (some (.inr (.inl ())))) 0=some (Sum.inl ():Unit⊕Bool):=by
 have:=CS (a:=a) (g:=λx y=>some (!(x != y))) (λx _=>by simp) hn;simpa using this
def zT (left:Int) (o:Option Int) (Q:Prop):Prop:=∃r,o=some r/\(r = -1\/(0<=r/\r<=left/\Q))
theorem DW {n:Nat} {left:Int} (hl:0<=left/\left<=1048576) (hn:n<=maxLen):zT left (let l1:=wZ (left-(n:Int));cond (decide (l1<0)) (some (-1)) (some l1)) (n<=1048576):=by
 have hn':n<=9223372036854775807:=hn;show zT left (cond (decide (wZ (left-(n:Int))<0)) (some (-1)) (some (wZ (left-(n:Int))))) _
 rw[xN (by omega) (by omega)];by_cases h:left-(n:Int)<0
 · rw[xI h];exact⟨-1,rfl,.inl rfl⟩
 · rw[xu h];exact⟨_,rfl,.inr ⟨by omega,by omega,by omega⟩⟩
theorem zq {left:Int} {o:Option Int} {Q R:Prop} {f:Int->Option Int} (h:zT left o Q) (k:∀r,0<=r->r<=left->zT r (f r) R):zT left (o.bind λt=>cond (decide (t<0)) (some (-1)) (f t)) (Q/\R):=by
 obtain⟨r,rfl,h⟩:=h;rw[Option.bind_some];rcases h with rfl|⟨h1,h2,h3⟩
 · rw[xI (by omega)];exact⟨-1,rfl,.inl rfl⟩
 · rw[xu (by omega),cF];obtain⟨s,e,k⟩:=k r h1 h2;rcases k with rfl|⟨k1,k2,k3⟩
   · exact⟨-1,e,.inl rfl⟩
   · exact⟨s,e,.inr ⟨k1,by omega,h3,k3⟩⟩
theorem Ea {n:Nat} {left:Int} {f:Int->Option Int} {R:Prop} (hl:0<=left/\left<=1048576) (hn:n<=maxLen) (k:∀r,0<=r->r<=left->zT r (f r) R):zT left (let l1:=wZ (left-(n:Int));cond (decide (l1<0)) (some (-1)) (f l1)) (n<=1048576/\R):=by
 have hn':n<=9223372036854775807:=hn;show zT left (cond (decide (wZ (left-(n:Int))<0)) (some (-1)) (f (wZ (left-(n:Int))))) _
 rw[xN (by omega) (by omega)];by_cases h:left-(n:Int)<0
 · rw[xI h];exact⟨-1,rfl,.inl rfl⟩
 · rw[xu h,cF];obtain⟨s,e,k⟩:=k (left-(n:Int)) (by omega) (by omega);rcases k with rfl|⟨k1,k2,k3⟩
   · exact⟨-1,e,.inl rfl⟩
   · exact⟨s,e,.inr ⟨k1,by omega,by omega,k3⟩⟩
theorem Ez {α:Type} {a:List α} {z:α} {step:Int×List α->Option ((Int×List α)⊕List α)} (hn:a.length<=4294967295) (h:loop step (0,List.replicate a.length z)=some a) :
 ((Cp (a.length:Int)).bind λn=>(loop step (0,List.replicate n z)).bind λd=>some d)=some a:=by
 rw[RU hn,Option.bind_some,h];rfl
theorem Ch {n:Nat} {step:Int->Option (Int⊕(Unit⊕Bool))} (h:loop step 0=some (Sum.inl ())):cond ((n:Int) != (n:Int)) (some false) ((loop step 0).bind (Sum.elim (λ_=>some true) (λr=>some r)))=some true:=by
 rw[h];simp
theorem BJ {left:Int} (h:0<=left):zT left (some left) True:=⟨left,rfl,.inr ⟨h,Int.le_refl _,trivial⟩⟩
theorem Bn {left:Int} {o:Option Int} {Q R:Prop} (h:zT left o Q) (k:Q->R):zT left o R:=by
 obtain⟨r,e,h⟩:=h;exact⟨r,e,h.imp id λ⟨a,b,c⟩=>⟨a,b,k c⟩⟩
theorem IW {α:Type} {a:List α} {f:α->Int->Option Int} {Q:α->Prop} (hf:∀x∈a,∀l,0<=l->l<=1048576->zT l (f x l) (Q x)) (hn:a.length<=4294967295) {left:Int} (hl:0<=left/\left<=1048576) :
 zT left ((loop (λs:Int×Int=>cond (decide (s.2<(a.length:Int))) ((at? a s.2).bind λx=>(f x s.1).bind λt=>cond (decide (t<0)) (some (.inr (.inr (-1)))) (some (.inl (t,wZ (s.2+1))))) (some (.inr (.inl s.1)))) (left,0)).bind (Sum.elim (λd=>some d) (λr=>some r))) (∀x∈a,Q x):=by
 obtain⟨b,h1,h2⟩:=xG (β:=Int⊕Int) (step:=λs:Int×Int=>cond (decide (s.2<(a.length:Int))) ((at? a s.2).bind λx=>(f x s.1).bind λt=>cond (decide (t<0)) (some (.inr (.inr (-1)))) (some (.inl (t,wZ (s.2+1))))) (some (.inr (.inl s.1))))
  (λk s=>s.2=(k:Int)/\0<=s.1/\s.1<=left/\∀x∈a.take k,Q x) a.length (λb=>b=.inr (-1)\/∃d,b=.inl d/\0<=d/\d<=left/\∀x∈a,Q x)
  (λk s hk ⟨e1,e2,e3,e4⟩=>by
   obtain⟨l,i⟩:=s;simp only at e1 e2 e3;subst e1;obtain⟨r,hr,h⟩:=hf a[k] (List.getElem_mem hk) l e2 (by omega);rcases h with rfl|⟨h1,h2,h3⟩
   · refine .inr ⟨.inr (-1),?_,.inl rfl⟩;simp only[xI (show (k:Int)<(a.length:Int) by omega),cT,xo hk,Option.bind_some,hr];rw[xI (by omega),cT]
   · refine .inl ⟨(r,((k+1:Nat):Int)),?_,rfl,h1,by show r<=left;omega,λx hx=>?_⟩
     · simp only[xI (show (k:Int)<(a.length:Int) by omega),cT,xo hk,Option.bind_some,hr];rw[xu (by omega),cF,xj (by omega)]
     · rw[List.take_add_one,List.getElem?_eq_getElem hk,mem_append]at hx;rcases hx with hx|hx
       · exact e4 x hx
       · simp at hx;subst hx;exact h3)
  (λs ⟨e1,e2,e3,e4⟩=>by
   obtain⟨l,i⟩:=s;simp only at e1 e2 e3;subst e1;refine⟨.inl l,?_,.inr ⟨l,rfl,e2,e3,by simpa using e4⟩⟩;simp only[xu (show ¬(a.length:Int)<(a.length:Int) by omega),cF])
  (x:=(left,0)) ⟨rfl,hl.1,Int.le_refl _,by simp⟩
 rw[h1,Option.bind_some];rcases h2 with rfl|⟨d,rfl,h3,h4,h5⟩
 · exact⟨-1,rfl,.inl rfl⟩
 · exact⟨d,rfl,.inr ⟨h3,h4,h5⟩⟩
end Go.V
namespace Go.V

theorem BK {α:Type} {l:List α} {M:Int->Int->List α->Option ((Int×Int×List α)⊕(Int×List α))} {H:List α->Int->Int->Option ((Int×Int)⊕(Int⊕Int))} {B c:Int} (hc:0<=c)
 (hM:∀x∈l,∀k:Int,0<=k->k<=B->∃(x':α) (k':Int),k<=k'/\k'<=k+c/\(∀(n:Nat) (ls:List α) (hn:n<ls.length),ls.length<=l.length->ls[n]=x->M k (n:Int) ls=some (.inl (k',((n+1:Nat):Int),ls.set n x'))) /\
  ∀(n:Nat) (a:List α) (hn:n<a.length),a.length<=l.length->a[n]=x'->H a k (n:Int)=some (.inl (k',((n+1:Nat):Int))))
 (hM0:∀k ls,M k (ls.length:Int) ls=some (.inr (k,ls))) (hH0:∀k (a:List α),H a k (a.length:Int)=some (.inr (.inl k))) {k:Int} (h0:0<=k) (hB:k+c*(l.length:Int)<=B) :
 ∃l' k',loop (λz:Int×Int×List α=>M z.1 z.2.1 z.2.2) (k,0,l)=some (k',l')/\l'.length=l.length/\k<=k'/\k'<=k+c*(l.length:Int)/\loop (λz:Int×Int=>H l' z.1 z.2) (k,0)=some (.inl k'):=by
 have key:∀(rest pre:List α) (k:Int),(∀x∈rest,x∈l)->pre.length+rest.length=l.length->0<=k->k+c*(rest.length:Int)<=B->∃(rest':List α) (k':Int),rest'.length=rest.length/\k<=k'/\k'<=k+c*(rest.length:Int) /\
  zY (λz:Int×Int×List α=>M z.1 z.2.1 z.2.2) (rest.length+1) (k,(pre.length:Int),pre++rest)=some (k',pre++rest') /\
  zY (λz:Int×Int=>H (pre++rest') z.1 z.2) (rest.length+1) (k,(pre.length:Int))=some (.inl k'):=by
  intro rest
  induction rest with
  | nil =>
   intro pre k _ _ h0 hB;refine⟨[],k,rfl,Int.le_refl _,by simp,?_,?_⟩
   · rw[yh];have:=hM0 k (pre++[])
     simp only[append_nil]at this ⊢;rw[this];rfl
   · rw[yh];have:=hH0 k (pre++[])
     simp only[append_nil]at this ⊢;rw[this];rfl
  | cons x rest ih =>
   intro pre k hin hlen h0 hB;have hcl:c*((x::rest).length:Int)=c*(rest.length:Int)+c:=by rw[length_cons,Int.natCast_succ,Int.mul_add,Int.mul_one]
   have hcr:0<=c*(rest.length:Int):=Int.mul_nonneg hc (Int.natCast_nonneg _);rw[hcl]at hB;obtain⟨x',k1,a1,a2,a3,a4⟩:=hM x (hin x (by simp)) k h0 (by omega);obtain⟨rest',k',b1,b2,b3,b4,b5⟩:=ih (pre++[x']) k1 (λy hy=>hin y (by simp[hy])) (by simp at hlen ⊢;omega) (by omega) (by omega);have hp:((pre++[x']).length:Int)=((pre.length+1:Nat):Int):=by simp
   have e1:pre++[x']++rest=pre++x'::rest:=by simp
   have e2:pre++[x']++rest'=pre++x'::rest':=by simp
   rw[hp,e1,e2]at b4;rw[hp,e2]at b5;refine⟨x'::rest',k',by simp[b1],by omega,by rw[hcl];omega,?_,?_⟩
   · rw[length_cons,yh];have:=a3 pre.length (pre++x::rest) (by simp) (by simp at hlen ⊢;omega) (by simp)
     simp only[this,Option.bind_some,Sum.elim_inl];have es:(pre++x::rest).set pre.length x'=pre++x'::rest:=by simp
     rw[es];exact b4
   · rw[length_cons,yh];have:=a4 pre.length (pre++x'::rest') (by simp) (by simp[b1]at hlen ⊢;omega) (by simp)
     simp only[this,Option.bind_some,Sum.elim_inl];exact b5
 obtain⟨l',k',b1,b2,b3,b4,b5⟩:=key l [] k (λ_ h=>h) (by simp) h0 hB;exact⟨l',k',AH b4,b1,b2,b3,AH b5⟩
theorem RV {α:Type} {l:List α} {M:Int->Int->List α->Option ((Int×Int×List α)⊕(Int×List α))} {B c:Int} (hc:0<=c)
 (hM:∀x∈l,∀k:Int,0<=k->k<=B->∃(x':α) (k':Int),k<=k'/\k'<=k+c/\(∀(n:Nat) (ls:List α) (hn:n<ls.length),ls.length<=l.length->ls[n]=x->M k (n:Int) ls=some (.inl (k',((n+1:Nat):Int),ls.set n x'))))
 (hM0:∀k ls,M k (ls.length:Int) ls=some (.inr (k,ls))) {k:Int} (h0:0<=k) (hB:k+c*(l.length:Int)<=B) :
 ∃l' k',loop (λz:Int×Int×List α=>M z.1 z.2.1 z.2.2) (k,0,l)=some (k',l')/\l'.length=l.length/\k<=k'/\k'<=k+c*(l.length:Int):=by
 have key:∀(rest pre:List α) (k:Int),(∀x∈rest,x∈l)->pre.length+rest.length=l.length->0<=k->k+c*(rest.length:Int)<=B->∃(rest':List α) (k':Int),rest'.length=rest.length/\k<=k'/\k'<=k+c*(rest.length:Int) /\
  zY (λz:Int×Int×List α=>M z.1 z.2.1 z.2.2) (rest.length+1) (k,(pre.length:Int),pre++rest)=some (k',pre++rest'):=by
  intro rest
  induction rest with
  | nil =>
   intro pre k _ _ h0 hB;refine⟨[],k,rfl,Int.le_refl _,by simp,?_⟩;rw[yh];have:=hM0 k (pre++[])
   simp only[append_nil]at this ⊢;rw[this];rfl
  | cons x rest ih =>
   intro pre k hin hlen h0 hB;have hcl:c*((x::rest).length:Int)=c*(rest.length:Int)+c:=by rw[length_cons,Int.natCast_succ,Int.mul_add,Int.mul_one]
   have hcr:0<=c*(rest.length:Int):=Int.mul_nonneg hc (Int.natCast_nonneg _);rw[hcl]at hB;obtain⟨x',k1,a1,a2,a3⟩:=hM x (hin x (by simp)) k h0 (by omega);obtain⟨rest',k',b1,b2,b3,b4⟩:=ih (pre++[x']) k1 (λy hy=>hin y (by simp[hy])) (by simp at hlen ⊢;omega) (by omega) (by omega);have hp:((pre++[x']).length:Int)=((pre.length+1:Nat):Int):=by simp
   have e1:pre++[x']++rest=pre++x'::rest:=by simp
   have e2:pre++[x']++rest'=pre++x'::rest':=by simp
   rw[hp,e1,e2]at b4;refine⟨x'::rest',k',by simp[b1],by omega,by rw[hcl];omega,?_⟩;rw[length_cons,yh];have:=a3 pre.length (pre++x::rest) (by simp) (by simp at hlen ⊢;omega) (by simp)
   simp only[this,Option.bind_some,Sum.elim_inl];have es:(pre++x::rest).set pre.length x'=pre++x'::rest:=by simp
   rw[es];exact b4
 obtain⟨l',k',b1,b2,b3,b4⟩:=key l [] k (λ_ h=>h) (by simp) h0 hB;exact⟨l',k',AH b4,b1,b2,b3⟩
theorem Ac {n:Int} (h1:0<=n) (h2:n<9223372036854775808):wZ n=n:=xN (by omega) (by omega)
theorem A1 {α:Type} {l:List α} {n:Nat} {x:α} (h:n<l.length):(l.set n x)[n]?=some x:=List.getElem?_set_self h
end Go.V

