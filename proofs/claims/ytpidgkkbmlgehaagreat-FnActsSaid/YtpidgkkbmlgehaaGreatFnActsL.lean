/- The law FnActs: part of the proof that for every input it returns true. No condition. -/
import Derived.Test.YtpidgkkbmlgehaaGreatFnActsB
set_option linter.unusedVariables false
set_option linter.unusedSimpArgs false
namespace Go.V.W
abbrev S0:=Int×Int×List UInt8×List Pt×List uF×List uQ×List Int×Int×Int×Int×Int×Int×List UInt8×List vF×Int×Int×List vZ×List wa
def G5 (i:Int) (a:uN) (o:List vZ) (d:List wa):S0:=(i,a.1,a.2.1,a.2.2.1,a.2.2.2.1,a.2.2.2.2.1,a.2.2.2.2.2.1,a.2.2.2.2.2.2.1,a.2.2.2.2.2.2.2.1,a.2.2.2.2.2.2.2.2.1,a.2.2.2.2.2.2.2.2.2.1,a.2.2.2.2.2.2.2.2.2.2.1,a.2.2.2.2.2.2.2.2.2.2.2.1,a.2.2.2.2.2.2.2.2.2.2.2.2.1,a.2.2.2.2.2.2.2.2.2.2.2.2.2.1,a.2.2.2.2.2.2.2.2.2.2.2.2.2.2,o,d)
noncomputable def EL (t:uN×List Act) (z:S0):=ib t z.1 z.2.1 z.2.2.1 z.2.2.2.1 z.2.2.2.2.1 z.2.2.2.2.2.1 z.2.2.2.2.2.2.1 z.2.2.2.2.2.2.2.1 z.2.2.2.2.2.2.2.2.1 z.2.2.2.2.2.2.2.2.2.1 z.2.2.2.2.2.2.2.2.2.2.1 z.2.2.2.2.2.2.2.2.2.2.2.1 z.2.2.2.2.2.2.2.2.2.2.2.2.1 z.2.2.2.2.2.2.2.2.2.2.2.2.2.1 z.2.2.2.2.2.2.2.2.2.2.2.2.2.2.1 z.2.2.2.2.2.2.2.2.2.2.2.2.2.2.2.1 z.2.2.2.2.2.2.2.2.2.2.2.2.2.2.2.2.1 z.2.2.2.2.2.2.2.2.2.2.2.2.2.2.2.2.2
theorem OV {a:uN} (h:AK a) {l:List Act} (hl:l.length<=60) (hx:∀x∈l,C9 x):loop (EL (a,l)) (G5 0 a [] [])=some (G5 0 (AT l a [] []).1 (AT l a [] []).2.1 (AT l a [] []).2.2).2:=by
 have hp:=GC hl hx (λk a o d=>G5 (k:Int) a o d) (λa o d=>(G5 0 a o d).2) (EL (a,l))
  (λk hk a' o d ha e1 e2 e3=>by
   dsimp only[EL,G5];unfold ib;have e0:at? (a,l).2 (k:Int)=some l[k]:=uO hk
   rw[dT (show (k:Int)<((a,l).2.length:Int) by show (k:Int)<(l.length:Int);omega),cT,e0,Option.bind_some,uL (by omega)];exact vh e1 (vh e2 (vh e3 rfl)))
  (λa' o d=>by
   dsimp only[EL,G5];unfold ib;rw[dF (show ¬(l.length:Int)<((a,l).2.length:Int) by show ¬(l.length:Int)<(l.length:Int);omega),cF]) l.length 0 a [] [] (by omega) (P8 h)
 rw[List.drop_zero]at hp;exact hp.1
theorem OW {b:uz} {l:List Act} (hl:l.length<=1000):loop (λz=>cX (b,l) z.1 z.2) (0,([]:List Act))=some (l.filter λx=>decide (x.1>=3)):=by
 obtain⟨v,e1,rfl⟩:=uS (step:=λz:Int×List Act=>cX (b,l) z.1 z.2) (λk z=>z=((k:Int),(l.take k).filter λx=>decide (x.1>=3))) l.length (λv=>v=l.filter λx=>decide (x.1>=3))
  (λk z hk e=>by
   subst e;left;have t1:l.take (k+1)=l.take k++[l[k]]:=by rw[List.take_add_one,List.getElem?_eq_getElem hk];rfl
   have hfl:((l.take k).filter λx=>decide (x.1>=3)).length<=k:=Nat.le_trans (List.length_filter_le _ _) (by rw[List.length_take];omega);have e0:at? (b,l).2 (k:Int)=some l[k]:=uO hk
   refine⟨_,?_,rfl⟩;show cX (b,l) (k:Int) _=_
   unfold cX;rw[dT (show (k:Int)<((b,l).2.length:Int) by show (k:Int)<(l.length:Int);omega),cT,e0,Option.bind_some,Option.bind_some,uG (by show ((l.take k).filter λx=>decide (x.1>=3)).length+1<=_;omega),Option.bind_some,uL (by omega),t1,List.filter_append];cases hq:decide (l[k].1>=3)with
   | true=>rw[List.filter_cons_of_pos (by rw[hq])];rfl
   | false=>rw[List.filter_cons_of_neg (by rw[hq];simp),List.filter_nil,List.append_nil];rfl)
  (λz e=>by
   subst e;refine⟨_,?_,rfl⟩;show cX (b,l) (l.length:Int) _=_
   unfold cX;rw[dF (show ¬(l.length:Int)<((b,l).2.length:Int) by show ¬(l.length:Int)<(l.length:Int);omega),cF,List.take_length]) (x:=(0,[])) rfl
 exact e1
theorem fnActs_pure (code:List Int) (hw:Cs.wf (.one (.sl (.one (.int .u8)))) code):DG code=some true:=by
 unfold DG jh;by_cases hbig:(code.length:Int)>1048576
 · simp only[dT hbig,Option.bind_some,cT]
 simp only[dF hbig,Option.bind_some,cF];obtain⟨a,l,d1,h1,n1,x1⟩:=Np (code:=code) (by omega);obtain⟨b,m,d2,h2,g2,n2,x2⟩:=Kk (code:=code) (by omega);obtain⟨p1,p2⟩:=P9 h1 (by omega) x1;obtain⟨s1,s2,s3⟩:=p2.same;have hL:=OV h1 (by omega) x1
 rw[d1];simp only[Option.bind_some,p1];refine vh hL ?_;refine vh (a:=true) s1 ?_;rw[Bool.not_true,cF];refine vh (a:=false) (vh (a:=true) s2 rfl) ?_;rw[cF];refine vh (a:=false) (vh (a:=true) s3 rfl) ?_;rw[cF,d2];have hf:=OW (b:=b) (l:=m) (by omega)
 have hfn:(m.filter λx=>decide (x.1>=3)).length<=m.length:=List.length_filter_le _ _;have ho1:=P7 h2 g2 (l:=m) (by show _<=1048576;omega)
 have ho2:=P7 h2 g2 (l:=m.filter λx=>decide (x.1>=3)) (by show _<=1048576;omega);have hov:EC (m.filter λx=>decide (x.1>=3)) b=EC m b:=by
  unfold EC;rw[List.take_of_length_le (by omega),List.take_of_length_le (by omega),BR]
 have hom:EC m b=m.foldl Aj b:=by unfold EC;rw[List.take_of_length_le (by omega)]
 obtain⟨f1,f2⟩:=HW m b h2 g2;obtain⟨c,c1,_,c3⟩:=R5 h2 g2 (w:=[121,97,114,100]) (by decide);have hfx:∀x∈m.filter (λx=>decide (x.1>=3)),C9 x/\3<=x.1:=λx hx=>by
  obtain⟨y1,y2⟩:=List.mem_filter.1 hx;exact⟨x2 x y1,by simpa using y2⟩
 have hc:AK c/\(vk b=true->xj c=true/\aB c=b):=by
  unfold cg at c1;rw[yQ h2,Option.bind_some]at c1;cases hp:vk b with
  | false =>
   rw[hp]at c1;have e:(0,[],[],[],[],[],0,0,0,0,0,[],[],0,0)=c:=Option.some.inj c1
   subst e;have hz:xt (0,[],[],[],[],[],0,0,0,0,0):=by
    constructor<;>first | (show (0:Nat)<_;decide) | (intro x hx;cases hx)|decide
   exact⟨⟨⟨hz,Nat.zero_le _,λx hx=>by cases hx⟩,c3,λx hx=>by cases hx⟩,λh=>by cases h⟩
  | true =>
   have hB:=By h2 hp;have e:=N6 hB (w:=[121,97,114,100]) (by decide)
   unfold cg at e;rw[yQ h2,Option.bind_some,c1]at e;have e:=Option.some.inj e
   subst e;have hI:=KD hB (w:=[121,97,114,100]) (by decide)
   exact⟨hI.any,λ_=>⟨hI.ok,rfl⟩⟩
 obtain⟨q1,q2⟩:=P9 hc.1 (l:=m.filter λx=>decide (x.1>=3)) (by omega) (λx hx=>(hfx x hx).1);simp only[Option.bind_some];refine vh hf ?_;simp only[ho1,ho2,c1,q1,Option.bind_some,hov];rw[Cn (by rw[hom];exact f2),Option.bind_some,cT,AD h2,Option.bind_some];cases hp:vk b with
 | false=>rfl
 | true =>
  obtain⟨k1,k2⟩:=hc.2 hp;have hb:=Iy (m.filter λx=>decide (x.1>=3)) c [] [] hc.1 k1 hfx
  rw[k2,BR]at hb;rw[Bool.not_true,cF];have hs:=Cn f2
  rw[hom];refine vh (a:=true) ?_ rfl;refine vh (a:=true) ?_ rfl;refine vh (a:=true) ?_ rfl;rw[←hb]at hs ⊢;exact hs
end Go.V.W

