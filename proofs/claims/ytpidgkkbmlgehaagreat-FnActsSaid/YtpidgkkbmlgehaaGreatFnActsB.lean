/- The law FnActs: part of the proof that for every input it returns true. No condition. -/
import Derived.Test.YtpidgkkbmlgehaaGreatFnActsBP2
open List (append_nil drop_zero foldl_cons getElem_mem getElem_set_self length_append length_drop length_map length_set length_singleton length_take map_map mem_append mem_cons mem_map mem_of_mem_take mem_or_eq_of_mem_set mem_singleton nil_append not_mem_nil pairwise_append pairwise_iff_getElem set_set take_add_one take_length take_of_length_le)
set_option linter.unusedVariables false
set_option linter.unusedSimpArgs false
namespace Go.V.W
def shr (f:List uC->Bool):Nat->List uC->Option (List uC)
 | 0,_=>none
 | n+1,l=>if f (l.take n)=true then some (l.take n)else shr f n (l.take n)
theorem JD {f:List uC->Bool}:∀{n:Nat} {l t:List uC},shr f n l=some t->f t=true/\∃m,m<n/\t=l.take m
 | 0,l,t,h=>by cases h
 | n+1,l,t,h=>by
  unfold shr at h;split at h
  · rename_i hf;cases h;exact⟨hf,n,by omega,rfl⟩
  · obtain⟨h1,m,h2,h3⟩:=JD h;refine⟨h1,m,by omega,?_⟩;rw[h3,List.take_take,Nat.min_eq_left (by omega)]
theorem Gy {α β γ δ:Type} {step:α->Option (α⊕(β⊕δ))} {x:α} {F:β->Option γ} {G:δ->Option γ} {R:Option γ} (h:∃d,step x=some (.inr (.inl d))) (k:∀d,F d=R):(loop step x).bind (Sum.elim F G)=R:=by
 obtain⟨d,h⟩:=h;rw[ve h,an,Sum.elim_inl,k]
abbrev TW:=Int×List UInt8×Int×Int×Int×Int×Int×Int×Int×Int×Int×Int×List UInt8×Int×Int×Int×Int×Int×Int×Int×Int×Int×List uC×List Pt×List uF×List uQ×List Int×List uC×List Pt×List uF×List uQ×List Int
theorem QI {p:v9} (h165:(p.1==165)=true) (b:uz) (j0:Int) (j1:List UInt8) (j2 j3 j4 j5 j6 j7 j8 j9 j10:Int) (k i a c:Int) (j11:List Pt) (j12:List uF) (j13:List uQ) (j14:List Int) (j15:List uC):∀(n:Nat) (l:List uC),l.length=n->n<=10->(∀x∈l,FC M x) ->
 ∃w,loop (λz:TW=>gj p z.1 z.2.1 z.2.2.1 z.2.2.2.1 z.2.2.2.2.1 z.2.2.2.2.2.1 z.2.2.2.2.2.2.1 z.2.2.2.2.2.2.2.1 z.2.2.2.2.2.2.2.2.1 z.2.2.2.2.2.2.2.2.2.1 z.2.2.2.2.2.2.2.2.2.2.1 z.2.2.2.2.2.2.2.2.2.2.2.1 z.2.2.2.2.2.2.2.2.2.2.2.2.1 z.2.2.2.2.2.2.2.2.2.2.2.2.2.1 z.2.2.2.2.2.2.2.2.2.2.2.2.2.2.1 z.2.2.2.2.2.2.2.2.2.2.2.2.2.2.2.1 z.2.2.2.2.2.2.2.2.2.2.2.2.2.2.2.2.1 z.2.2.2.2.2.2.2.2.2.2.2.2.2.2.2.2.2.1 z.2.2.2.2.2.2.2.2.2.2.2.2.2.2.2.2.2.2.1 z.2.2.2.2.2.2.2.2.2.2.2.2.2.2.2.2.2.2.2.1 z.2.2.2.2.2.2.2.2.2.2.2.2.2.2.2.2.2.2.2.2.1 z.2.2.2.2.2.2.2.2.2.2.2.2.2.2.2.2.2.2.2.2.2.1 z.2.2.2.2.2.2.2.2.2.2.2.2.2.2.2.2.2.2.2.2.2.2.1 z.2.2.2.2.2.2.2.2.2.2.2.2.2.2.2.2.2.2.2.2.2.2.2.1 z.2.2.2.2.2.2.2.2.2.2.2.2.2.2.2.2.2.2.2.2.2.2.2.2.1 z.2.2.2.2.2.2.2.2.2.2.2.2.2.2.2.2.2.2.2.2.2.2.2.2.2.1 z.2.2.2.2.2.2.2.2.2.2.2.2.2.2.2.2.2.2.2.2.2.2.2.2.2.2.1 z.2.2.2.2.2.2.2.2.2.2.2.2.2.2.2.2.2.2.2.2.2.2.2.2.2.2.2.1 z.2.2.2.2.2.2.2.2.2.2.2.2.2.2.2.2.2.2.2.2.2.2.2.2.2.2.2.2.1 z.2.2.2.2.2.2.2.2.2.2.2.2.2.2.2.2.2.2.2.2.2.2.2.2.2.2.2.2.2.1 z.2.2.2.2.2.2.2.2.2.2.2.2.2.2.2.2.2.2.2.2.2.2.2.2.2.2.2.2.2.2.1 z.2.2.2.2.2.2.2.2.2.2.2.2.2.2.2.2.2.2.2.2.2.2.2.2.2.2.2.2.2.2.2) (j0,j1,j2,j3,j4,j5,j6,j7,j8,j9,j10,b.1,b.2.1,b.2.2.2.2.2.2.1,b.2.2.2.2.2.2.2.1,b.2.2.2.2.2.2.2.2.1,b.2.2.2.2.2.2.2.2.2.1,b.2.2.2.2.2.2.2.2.2.2,k,i,a,c,l,j11,j12,j13,j14,j15,b.2.2.1,b.2.2.2.1,b.2.2.2.2.1,b.2.2.2.2.2.1)=some w/\(match shr (λt=>wg (k,i,a,c,t)) n l with|some t=>w=.inr (true,b.1,b.2.1,b.2.2.2.2.2.2.1,b.2.2.2.2.2.2.2.1,b.2.2.2.2.2.2.2.2.1,b.2.2.2.2.2.2.2.2.2.1,b.2.2.2.2.2.2.2.2.2.2,k,i,a,c,t,b.2.2.1,b.2.2.2.1,b.2.2.2.2.1,b.2.2.2.2.2.1)|none=>∃d,w=.inl d)
 | 0,l,hl,hn,hx=>by
  refine⟨_,ve (b:=Sum.inl (j0,j1,j2,j3,j4,j5,j6,j7,j8,j9,j10,b.1,b.2.1,b.2.2.2.2.2.2.1,b.2.2.2.2.2.2.2.1,b.2.2.2.2.2.2.2.2.1,b.2.2.2.2.2.2.2.2.2.1,b.2.2.2.2.2.2.2.2.2.2,k,i,a,c,l,j11,j12,j13,j14,j15,b.2.2.1,b.2.2.2.1,b.2.2.2.2.1,b.2.2.2.2.2.1)) ?_,⟨_,rfl⟩⟩;dsimp only;unfold gj;rw[h165,cT,dF (by omega),an,cF]
 | n+1,l,hl,hn,hx=>by
  have hlt:(l.take n).length=n:=by rw[length_take];omega
  have hcut:cut l 0 (uB ((l.length:Int)-1))=some (l.take n):=by
   rw[uX (by omega) (by omega),show (l.length:Int)-1=(n:Int) by omega];have:=xR (l:=l) (a:=0) (b:=n) (by omega) (by omega)
   simpa using this
  have hp:xi M (k,i,a,c,l.take n):=⟨by show (l.take n).length<=1048576;omega,λx h=>hx x (mem_of_mem_take h)⟩;have hstep:∀q:Bool,wg (k,i,a,c,l.take n)=q->gj p j0 j1 j2 j3 j4 j5 j6 j7 j8 j9 j10 b.1 b.2.1 b.2.2.2.2.2.2.1 b.2.2.2.2.2.2.2.1 b.2.2.2.2.2.2.2.2.1 b.2.2.2.2.2.2.2.2.2.1 b.2.2.2.2.2.2.2.2.2.2 k i a c l j11 j12 j13 j14 j15 b.2.2.1 b.2.2.2.1 b.2.2.2.2.1 b.2.2.2.2.2.1=cond q (some (.inr (.inr (true,b.1,b.2.1,b.2.2.2.2.2.2.1,b.2.2.2.2.2.2.2.1,b.2.2.2.2.2.2.2.2.1,b.2.2.2.2.2.2.2.2.2.1,b.2.2.2.2.2.2.2.2.2.2,k,i,a,c,l.take n,b.2.2.1,b.2.2.2.1,b.2.2.2.2.1,b.2.2.2.2.2.1)))) (some (.inl (j0,j1,j2,j3,j4,j5,j6,j7,j8,j9,j10,b.1,b.2.1,b.2.2.2.2.2.2.1,b.2.2.2.2.2.2.2.1,b.2.2.2.2.2.2.2.2.1,b.2.2.2.2.2.2.2.2.2.1,b.2.2.2.2.2.2.2.2.2.2,k,i,a,c,l.take n,j11,j12,j13,j14,j15,b.2.2.1,b.2.2.2.1,b.2.2.2.2.1,b.2.2.2.2.2.1))):=by
   intro q hq;unfold gj;rw[h165,cT,dT (by omega),an,cT,hcut,an,G3 hp,an,hq]
  by_cases hf:wg (k,i,a,c,l.take n)=true
  · have e:shr (λt=>wg (k,i,a,c,t)) (n+1) l=some (l.take n):=if_pos hf;rw[e];exact⟨_,ve (hstep true hf),rfl⟩
  · have e:shr (λt=>wg (k,i,a,c,t)) (n+1) l=shr (λt=>wg (k,i,a,c,t)) n (l.take n):=if_neg hf;rw[e];obtain⟨w,h1,h2⟩:=QI h165 b j0 j1 j2 j3 j4 j5 j6 j7 j8 j9 j10 k i a c j11 j12 j13 j14 j15 n (l.take n) hlt (by omega) (λx h=>hx x (mem_of_mem_take h));exact⟨w,v7 (hstep false (by simpa using hf)) h1,h2⟩
noncomputable def DH (b:uz) (l:List uC):uz×Int×Int:=(eI b l).getD (b,0,0)
noncomputable def zY (b:uz) (p:v9):uz×v9 :=
 cond (p.1==160) (b,162,p.2.1,0,0,p.2.2.2.2.map λx=>(x.1,D5 b x.1))
  (cond (p.1==161) (b,162,p.2.1,0,0,p.2.2.2.2.map λx=>wm b x.1)
   (cond (p.1==165) (b,162,p.2.1,0,0,yA b p) ((DH b p.2.2.2.2).1,162,p.2.1,(DH b p.2.2.2.2).2.1,(DH b p.2.2.2.2).2.2,p.2.2.2.2)))
noncomputable def Br (b:uz) (p:v9):uz×v9 :=
 match cond (p.1==165) (shr (λt=>wg (162,p.2.1,0,0,t)) (yA b p).length (yA b p)) none with
 | some t=>(b,162,p.2.1,0,0,t)
 | none=>(b,162,p.2.1,7,0,[])
noncomputable def yH (b:uz) (p:v9):uz×v9:=cond (wg (zY b p).2) (zY b p) (Br b p)
noncomputable def CU (b:uz) (p:v9):Bool:=vk b&&(wG p&&(p.1 != 162))
noncomputable def wF (b:uz) (p:v9):uz×v9×Bool:=cond (CU b p) ((yH b p).1,(yH b p).2,true) (b,(0,0,0,0,[]),false)
theorem Fy {p:v9} (hp:wG p=true):Ca M p.2.2.2.2:=by
 obtain⟨h1,h2,_⟩:=xK hp;exact⟨by show _<=1048576;omega,λx hx=>xL (h1 x hx)⟩
theorem N1 {b:uz} (h:xt b) (hb:yz M b) {p:v9} (hp:xi M p):dv b p=some (wF b p):=by
 unfold dv wF CU;rw[wl hb,an,yQ h,an];cases hbr:vk b with
 | false=>rw[Bool.not_false,cT,an,cT,an,cT];rfl
 | true =>
 rw[Bool.not_true,cF,OJ hp,an,an];cases hpp:wG p with
 | false=>rw[Bool.not_false,cT,an,cT];rfl
 | true =>
 rw[Bool.not_true,cF,an];cases h162:(p.1==162)with
 | true =>
  have:(p.1 != 162)=false:=by rw[bne,h162];rfl
  rw[cT,this];rfl
 | false =>
 have hne:(p.1 != 162)=true:=by rw[bne,h162];rfl
 have hBO:=By h hbr;obtain⟨x1,x2,x3,x4,x5,x6⟩:=xK hpp;have hxs:=Fy hpp
 rw[cF,hne,Bool.true_and,Bool.true_and,cT];unfold yH zY Br;cases h160:(p.1==160)with
 | true =>
  have h165:(p.1==165)=false:=by simp only[beq_iff_eq]at h160;rw[h160];rfl
  have e:loop (λz:Int×Int×Int×Int×Int×List uC=>gh b p z.1 z.2.1 z.2.2.1 z.2.2.2.1 z.2.2.2.2.1 z.2.2.2.2.2) (0,162,p.2.1,0,0,[])=some (162,p.2.1,0,0,p.2.2.2.2.map λx=>(x.1,D5 b x.1)):=by
   obtain⟨v,e1,rfl⟩:=uS (step:=λz:Int×Int×Int×Int×Int×List uC=>gh b p z.1 z.2.1 z.2.2.1 z.2.2.2.1 z.2.2.2.2.1 z.2.2.2.2.2) (λk z=>z=((k:Int),162,p.2.1,0,0,(p.2.2.2.2.take k).map λx=>(x.1,D5 b x.1))) p.2.2.2.2.length (λv=>v=(162,p.2.1,0,0,p.2.2.2.2.map λx=>(x.1,D5 b x.1)))
    (λk z hk e=>by
     subst e;refine .inl ⟨_,?_,rfl⟩;have hx:=zk (yd (x1 _ (getElem_mem hk)))
     dsimp only;unfold gh;rw[vj (by omega),cT,uO hk,an,EH (by show _<=1048576;omega),an,(OU hBO (by omega)).1,an,uG (by rw[length_map,length_take];show min k _+1<=_;omega),an,uL (by omega),
      take_add_one,List.getElem?_eq_getElem hk,List.map_append];rfl)
    (λz e=>by
     subst e;refine⟨_,?_,rfl⟩;dsimp only;unfold gh;rw[vd (by omega),cF,take_length]) (x:=(0,162,p.2.1,0,0,[])) rfl
   exact e1
  simp only[cT,cF];rw[e,an,G3 ⟨by show (p.2.2.2.2.map _).length<=1048576;rw[length_map];omega,λx hx=>by
   obtain⟨y,hy,rfl⟩:=mem_map.1 hx;exact xL (by unfold yD;rw[yd (x1 y hy),Ps hBO (by have:=zk (yd (x1 y hy));omega)];rfl)⟩,an]
  cases wg (162,p.2.1,0,0,p.2.2.2.2.map λx=>(x.1,D5 b x.1))with
  | true=>rfl
  | false =>
   simp only[cF];refine Gy ?_ λd=>?_
   · dsimp only;unfold o5;rw[h165,cF,an,cF];exact⟨_,rfl⟩
   · rw[an];simp only[h165,cF]
 | false =>
 cases h161:(p.1==161)with
 | true =>
  have h165:(p.1==165)=false:=by simp only[beq_iff_eq]at h161;rw[h161];rfl
  have e:loop (λz:Int×Int×Int×Int×Int×List uC=>gi b p z.1 z.2.1 z.2.2.1 z.2.2.2.1 z.2.2.2.2.1 z.2.2.2.2.2) (0,162,p.2.1,0,0,[])=some (162,p.2.1,0,0,p.2.2.2.2.map λx=>wm b x.1):=by
   obtain⟨v,e1,rfl⟩:=uS (step:=λz:Int×Int×Int×Int×Int×List uC=>gi b p z.1 z.2.1 z.2.2.1 z.2.2.2.1 z.2.2.2.2.1 z.2.2.2.2.2) (λk z=>z=((k:Int),162,p.2.1,0,0,(p.2.2.2.2.take k).map λx=>wm b x.1)) p.2.2.2.2.length (λv=>v=(162,p.2.1,0,0,p.2.2.2.2.map λx=>wm b x.1))
    (λk z hk e=>by
     subst e;refine .inl ⟨_,?_,rfl⟩;have hx:=zk (yd (x1 _ (getElem_mem hk)))
     dsimp only;unfold gi;rw[vj (by omega),cT,uO hk,an,(G4 hBO (by omega)).1,an,uG (by rw[length_map,length_take];show min k _+1<=_;omega),an,uL (by omega),
      take_add_one,List.getElem?_eq_getElem hk,List.map_append];rfl)
    (λz e=>by
     subst e;refine⟨_,?_,rfl⟩;dsimp only;unfold gi;rw[vd (by omega),cF,take_length]) (x:=(0,162,p.2.1,0,0,[])) rfl
   exact e1
  simp only[cT,cF];rw[e,an,G3 ⟨by show (p.2.2.2.2.map _).length<=1048576;rw[length_map];omega,λx hx=>by
   obtain⟨y,hy,rfl⟩:=mem_map.1 hx;exact xL (Eb hBO (yd (x1 y hy)))⟩,an]
  cases wg (162,p.2.1,0,0,p.2.2.2.2.map λx=>wm b x.1)with
  | true=>rfl
  | false =>
   simp only[cF];refine Gy ?_ λd=>?_
   · dsimp only;unfold o7;rw[h165,cF,an,cF];exact⟨_,rfl⟩
   · rw[an];simp only[h165,cF]
 | false =>
 cases h165:(p.1==165)with
 | true =>
  have hbk:=Lc hBO hpp;have hbx:∀x∈yA b p,FC M x:=λx hx=>xL (hbk.oOk x hx)
  have hbn:(yA b p).length<=10:=hbk.o10;simp only[cT,cF];rw[SX hBO hpp,an,G3 ⟨by show (yA b p).length<=1048576;omega,hbx⟩,an];cases wg (162,p.2.1,0,0,yA b p)with
  | true=>rfl
  | false =>
   simp only[cF];obtain⟨w,e1,e2⟩:=QI h165 b 0 [] 0 0 0 0 0 0 0 0 0 162 p.2.1 0 0 [] [] [] [] [] _ (yA b p) rfl hbn hbx;rw[e1,an];cases hs:shr (λt=>wg (162,p.2.1,0,0,t)) (yA b p).length (yA b p)with
   | some t=>rw[hs]at e2;rw[e2];rfl
   | none =>
    rw[hs]at e2;obtain⟨d,rfl⟩:=e2;rw[Sum.elim_inl,an];try rfl
 | false =>
  obtain⟨r,r1,_,_,_⟩:=I1 h hb hxs;have hr:DH b p.2.2.2.2=r:=by unfold DH;rw[r1];rfl
  simp only[cF];rw[r1,an,FI hxs,an,hr,G3 (p:=(162,p.2.1,r.2.1,r.2.2,p.2.2.2.2)) ⟨hxs.1,hxs.2⟩,an];cases wg (162,p.2.1,r.2.1,r.2.2,p.2.2.2.2)with
  | true=>rfl
  | false =>
   simp only[cF];refine Gy ?_ λd=>?_
   · dsimp only;unfold o8;rw[h165,cF,an,cF];exact⟨_,rfl⟩
   · rw[an]

def aW (a:uN):List UInt8:=a.2.2.2.2.2.2.2.2.2.2.2.1
def vU (b:uz) (w:List UInt8) (l:List vF) (lo la:Int):uN:=(b.1,b.2.1,b.2.2.1,b.2.2.2.1,b.2.2.2.2.1,b.2.2.2.2.2.1,b.2.2.2.2.2.2.1,b.2.2.2.2.2.2.2.1,b.2.2.2.2.2.2.2.2.1,b.2.2.2.2.2.2.2.2.2.1,b.2.2.2.2.2.2.2.2.2.2,w,l,lo,la)
def yv (id:Int) (m:List Int) (ph:Int) (p:v9) (s:uz) (at' tr:Int):vF:=(id,m,ph,p.1,p.2.1,p.2.2.1,p.2.2.2.1,p.2.2.2.2,s.1,s.2.1,s.2.2.1,s.2.2.2.1,s.2.2.2.2.1,s.2.2.2.2.2.1,s.2.2.2.2.2.2.1,s.2.2.2.2.2.2.2.1,s.2.2.2.2.2.2.2.2.1,s.2.2.2.2.2.2.2.2.2.1,s.2.2.2.2.2.2.2.2.2.2,at',tr)
theorem IQ {b:uz} {w:List UInt8} {l:List vF} {lo la:Int} {k:Nat} (hk:k<l.length) (hl:l.length<=M):cm (vU b w l lo la) (k:Int)=some (vU b w (l.eraseIdx k) lo la):=by
 have hM:M=1048576:=rfl;have c1:wO l.length 0 (k:Int)=some (0,k):=by
  unfold wO;rw[if_pos (by omega),if_pos (by omega),if_pos (by omega)];simp
 have c2:wO l.length (uB ((k:Int)+1)) (l.length:Int)=some (k+1,l.length):=by
  rw[uL (by omega)];unfold wO;rw[if_pos (by omega),if_pos (by omega),if_pos (by omega)];simp
 have c3:EZ l 0 k (k+1) l.length=some (l.eraseIdx k):=by
  unfold EZ;rw[if_pos (by omega),take_length,drop_zero,uG (by rw[length_take,length_drop];omega),←List.eraseIdx_eq_take_drop_succ]
 unfold cm vU;simp only[c1,an,c2,c3]
def HT (b:uz) (j:vF):vF:=yv j.1 j.2.1 1 (jP j) b 0 (vl j)
theorem N2 {b:uz} (hb:yz M b) {w:List UInt8} {l:List vF} {lo la:Int} {k:Nat} (hk:k<l.length):fV (vU b w l lo la) (k:Int)=some (vU b w (l.set k (HT b l[k])) lo la):=by
 have cb:=wl hb;unfold fV vU;simp only[xh hk,an];have cb':ak (b.1,b.2.1,b.2.2.1,b.2.2.2.1,b.2.2.2.2.1,b.2.2.2.2.2.1,b.2.2.2.2.2.2.1,b.2.2.2.2.2.2.2.1,b.2.2.2.2.2.2.2.2.1,b.2.2.2.2.2.2.2.2.2.1,b.2.2.2.2.2.2.2.2.2.2)=some b:=cb
 simp only[cb',an,List.getElem?_eq_getElem hk,List.getElem?_set_self hk,set_set];rfl
def zo (n:Int):Int:=min2 (uB (n+1)) 1000000
theorem Dp (n:Int):aD n=some (zo n):=rfl
def Dq (b:uz):uz:=(b.1,b.2.1,b.2.2.1,b.2.2.2.1,b.2.2.2.2.1,b.2.2.2.2.2.1,b.2.2.2.2.2.2.1,b.2.2.2.2.2.2.2.1,zo b.2.2.2.2.2.2.2.2.1,b.2.2.2.2.2.2.2.2.2.1,b.2.2.2.2.2.2.2.2.2.2)
def BZ (b:uz):uz:=(b.1,b.2.1,b.2.2.1,b.2.2.2.1,b.2.2.2.2.1,b.2.2.2.2.2.1,b.2.2.2.2.2.2.1,zo b.2.2.2.2.2.2.2.1,b.2.2.2.2.2.2.2.2.1,b.2.2.2.2.2.2.2.2.2.1,b.2.2.2.2.2.2.2.2.2.2)
noncomputable def vK (w:List UInt8) (m:List Int):v9×Int:=(eB w m).getD ((0,0,0,0,[]),0)
theorem Oc (w:List UInt8) {m:List Int} (hb:wJ m) (hn:m.length<=M):eB w m=some (vK w m)/\fB w m=some (vK w m)/\xi M (vK w m).1/\((vK w m).2=0->wG (vK w m).1=true):=by
 obtain⟨r,h1,h2,h3,h4⟩:=RZ w hb hn;unfold vK;rw[h1];exact⟨rfl,h2,h3,h4⟩
noncomputable def zN (p:v9):v9:=cond (wg (162,p.2.1,6,1,p.2.2.2.2)) (162,p.2.1,6,1,p.2.2.2.2) (162,p.2.1,7,0,[])
theorem S7 {p:v9} (hp:xi M p):gk p=some (zN p):=by
 unfold gk zN;rw[FI hp,an,G3 (p:=(162,p.2.1,6,1,p.2.2.2.2)) hp,an];cases wg (162,p.2.1,6,1,p.2.2.2.2)<;>rfl
inductive QJ where
 | stay (j:vF)|gone (d:List wa)
noncomputable def yw (w:List UInt8) (b:uz) (j:vF):uz×QJ :=
 cond (j.2.2.1==0)
  (cond ((vK w j.2.1).2==3) (Dq b,.gone [])
   (cond ((vK w j.2.1).2 != 0||((vK w j.2.1).1.1==162)) (BZ b,.gone [])
    (b,.stay (yv j.1 j.2.1 1 (vK w j.2.1).1 b 0 (vl j)))))
  (cond (j.2.2.1==2)
   (cond (j.2.2.2.1 != 163) (b,.gone [(j.1,(wF (jB j) (jP j)).2.1)])
    (cond (b.2.2.2.2.2.2.2.2.2.2==(jB j).2.2.2.2.2.2.2.2.2.2) ((wF b (jP j)).1,.gone [(j.1,(wF b (jP j)).2.1)])
     (cond (decide (vl j>=3)) (b,.gone [(j.1,zN (jP j))])
      (b,.stay (yv j.1 j.2.1 1 (jP j) b 0 (uB (vl j+1)))))))
   (cond (decide (yp j<((jP j).2.2.2.2.length:Int))) (b,.stay (yv j.1 j.2.1 j.2.2.1 (jP j) (jB j) (uB (yp j+1)) (vl j)))
    (b,.stay (yv j.1 j.2.1 2 (jP j) (jB j) (yp j) (vl j)))))
noncomputable def yX (a:uN) (k:Nat) (j:vF):uN×List wa :=
 match (yw (aW a) (aB a) j).2 with
 | .stay j'=>(vU (yw (aW a) (aB a) j).1 (aW a) ((uD a).set k j') (vM a) (va a),[])
 | .gone d=>(vU (yw (aW a) (aB a) j).1 (aW a) ((uD a).eraseIdx k) (vM a) (va a),d)
theorem S8 {b:uz} (hb:yz M b) {w:List UInt8} {l:List vF} {lo la:Int} {k:Nat} (hk:k<l.length) (hl:l.length<=M) (h1:wJ l[k].2.1) (h2:l[k].2.1.length<=M) :
 fW (vU b w l lo la) (k:Int)=some (cond ((vK w l[k].2.1).2==3) (vU (Dq b) w (l.eraseIdx k) lo la)
  (cond ((vK w l[k].2.1).2 != 0||((vK w l[k].2.1).1.1==162)) (vU (BZ b) w (l.eraseIdx k) lo la) (vU b w (l.set k (yv l[k].1 l[k].2.1 1 (vK w l[k].2.1).1 b 0 (vl l[k]))) lo la))):=by
 obtain⟨m1,_,m3,_⟩:=Oc w h1 h2;unfold fW;have d1:=IQ (b:=Dq b) (w:=w) (lo:=lo) (la:=la) hk hl
 have d2:=IQ (b:=BZ b) (w:=w) (lo:=lo) (la:=la) hk hl;unfold Dq vU at d1;unfold BZ vU at d2;dsimp only[vU];simp only[xh hk,an,List.getElem?_eq_getElem hk,m1,Dp];rw[d1,d2];cases ((vK w l[k].2.1).2==3)with
 | true=>rfl
 | false =>
  simp only[cF,an];cases ((vK w l[k].2.1).2 != 0)with
  | true=>rfl
  | false =>
   simp only[cF,an,Bool.false_or];cases ((vK w l[k].2.1).1.1==162)with
   | true=>rfl
   | false =>
    simp only[cF,an];have hs:k<(l.set k (yv l[k].1 l[k].2.1 l[k].2.2.1 (vK w l[k].2.1).1 (jB l[k]) (yp l[k]) (vl l[k]))).length:=by rw[length_set];exact hk
    have e:=N2 hb (w:=w) (lo:=lo) (la:=la) hs;unfold vU at e;have e2:HT b (l.set k (yv l[k].1 l[k].2.1 l[k].2.2.1 (vK w l[k].2.1).1 (jB l[k]) (yp l[k]) (vl l[k])))[k]=yv l[k].1 l[k].2.1 1 (vK w l[k].2.1).1 b 0 (vl l[k]):=by
     rw[getElem_set_self];rfl
    rw[e2,set_set]at e;refine (congrArg (λo=>Option.bind o λt=>some t) e).trans ?_;rfl
theorem PL {b:uz} (hw:xt b) (hb:yz M b) {w:List UInt8} {l:List vF} {lo la:Int} {k:Nat} (hk:k<l.length) (hl:l.length<=M) (h1:KV l[k]) (h2:Pa M l[k]) :
 gl (vU b w l lo la) (k:Int)=some (cond (l[k].2.2.2.1 != 163) (vU b w (l.eraseIdx k) lo la,[(l[k].1,(wF (jB l[k]) (jP l[k])).2.1)])
  (cond (b.2.2.2.2.2.2.2.2.2.2==(jB l[k]).2.2.2.2.2.2.2.2.2.2) (vU (wF b (jP l[k])).1 w (l.eraseIdx k) lo la,[(l[k].1,(wF b (jP l[k])).2.1)])
   (cond (decide (vl l[k]>=3)) (vU b w (l.eraseIdx k) lo la,[(l[k].1,zN (jP l[k]))])
    (vU b w (l.set k (yv l[k].1 l[k].2.1 1 (jP l[k]) b 0 (uB (vl l[k]+1)))) lo la,[])))):=by
 have r1:=N1 h1.b h2.2.2 h1.p;have r2:=N1 hw hb h1.p
 have r3:=S7 h1.p;have d1:=IQ (b:=b) (w:=w) (lo:=lo) (la:=la) hk hl
 have d2:=IQ (b:=(wF b (jP l[k])).1) (w:=w) (lo:=lo) (la:=la) hk hl;unfold gl;dsimp only[vU];simp only[xh hk,an,List.getElem?_eq_getElem hk];unfold vU at d1;cases hkind:(l[k].2.2.2.1 != 163)with
 | true =>
  simp only[cT];rw[show dv (l[k].2.2.2.2.2.2.2.2.1,l[k].2.2.2.2.2.2.2.2.2.1,l[k].2.2.2.2.2.2.2.2.2.2.1,l[k].2.2.2.2.2.2.2.2.2.2.2.1,l[k].2.2.2.2.2.2.2.2.2.2.2.2.1,l[k].2.2.2.2.2.2.2.2.2.2.2.2.2.1,l[k].2.2.2.2.2.2.2.2.2.2.2.2.2.2.1,l[k].2.2.2.2.2.2.2.2.2.2.2.2.2.2.2.1,l[k].2.2.2.2.2.2.2.2.2.2.2.2.2.2.2.2.1,l[k].2.2.2.2.2.2.2.2.2.2.2.2.2.2.2.2.2.1,l[k].2.2.2.2.2.2.2.2.2.2.2.2.2.2.2.2.2.2.1) (l[k].2.2.2.1,l[k].2.2.2.2.1,l[k].2.2.2.2.2.1,l[k].2.2.2.2.2.2.1,l[k].2.2.2.2.2.2.2.1)=some (wF (jB l[k]) (jP l[k]))from r1,an,d1,an]
 | false =>
  simp only[cF];show cond (b.2.2.2.2.2.2.2.2.2.2==(jB l[k]).2.2.2.2.2.2.2.2.2.2) _ _=_
  cases hv:(b.2.2.2.2.2.2.2.2.2.2==(jB l[k]).2.2.2.2.2.2.2.2.2.2)with
  | true =>
   simp only[cT];rw[show dv (b.1,b.2.1,b.2.2.1,b.2.2.2.1,b.2.2.2.2.1,b.2.2.2.2.2.1,b.2.2.2.2.2.2.1,b.2.2.2.2.2.2.2.1,b.2.2.2.2.2.2.2.2.1,b.2.2.2.2.2.2.2.2.2.1,b.2.2.2.2.2.2.2.2.2.2) (l[k].2.2.2.1,l[k].2.2.2.2.1,l[k].2.2.2.2.2.1,l[k].2.2.2.2.2.2.1,l[k].2.2.2.2.2.2.2.1)=some (wF b (jP l[k]))from r2,an];unfold vU at d2;rw[d2,an]
  | false =>
   simp only[cF];show cond (decide (vl l[k]>=3)) _ _=_
   cases hq:decide (vl l[k]>=3)with
   | true =>
    simp only[cT];rw[show gk (l[k].2.2.2.1,l[k].2.2.2.2.1,l[k].2.2.2.2.2.1,l[k].2.2.2.2.2.2.1,l[k].2.2.2.2.2.2.2.1)=some (zN (jP l[k]))from r3,an,d1,an]
   | false =>
    simp only[cF];have hs:k<(l.set k (yv l[k].1 l[k].2.1 l[k].2.2.1 (jP l[k]) (jB l[k]) (yp l[k]) (uB (vl l[k]+1)))).length:=by rw[length_set];exact hk
    have e:=N2 hb (w:=w) (lo:=lo) (la:=la) hs;unfold vU at e;have e2:HT b (l.set k (yv l[k].1 l[k].2.1 l[k].2.2.1 (jP l[k]) (jB l[k]) (yp l[k]) (uB (vl l[k]+1))))[k]=yv l[k].1 l[k].2.1 1 (jP l[k]) b 0 (uB (vl l[k]+1)):=by
     rw[getElem_set_self];rfl
    rw[e2,set_set]at e;refine (congrArg (λo=>Option.bind o λt=>some (t,([]:List wa))) e).trans ?_;rfl
theorem S9 {a:uN} (hw:xt (aB a)) (hl:EW M a) {k:Nat} (hk:k<(uD a).length) (h1:KV (uD a)[k]) (h2:wJ (uD a)[k].2.1):eg a (k:Int)=some (yX a k (uD a)[k]):=by
 obtain⟨hb,_,hn,hj⟩:=hl;have hJ:=hj _ (getElem_mem hk)
 have hn:(uD a).length<=M:=hn;have e1:=S8 hb (w:=aW a) (l:=uD a) (lo:=vM a) (la:=va a) hk hn h2 hJ.1
 have e2:=PL hw hb (w:=aW a) (l:=uD a) (lo:=vM a) (la:=va a) hk hn h1 hJ;have c0:ix a.2.2.2.2.2.2.2.2.2.2.2.2.1.length (k:Int)=some k:=xh hk
 have c1:a.2.2.2.2.2.2.2.2.2.2.2.2.1[k]?=some (uD a)[k]:=List.getElem?_eq_getElem hk;have e1:fW a (k:Int)=_:=e1
 have e2:gl a (k:Int)=_:=e2;unfold eg yX yw;rw[c0,an];simp only[c1,an];cases hp0:((uD a)[k].2.2.1==0)with
 | true =>
  rw[cT,e1,an];cases ((vK (aW a) (uD a)[k].2.1).2==3)with
  | true=>rfl
  | false =>
   cases ((vK (aW a) (uD a)[k].2.1).2 != 0||((vK (aW a) (uD a)[k].2.1).1.1==162))<;>rfl
 | false =>
  rw[cF];cases hp2:((uD a)[k].2.2.1==2)with
  | true =>
   rw[cT,e2,an];cases ((uD a)[k].2.2.2.1 != 163)with
   | true=>rfl
   | false =>
    cases ((aB a).2.2.2.2.2.2.2.2.2.2==(jB (uD a)[k]).2.2.2.2.2.2.2.2.2.2)with
    | true=>rfl
    | false=>cases decide (vl (uD a)[k]>=3)<;>rfl
  | false =>
   simp only[cF];show cond (decide (yp (uD a)[k]<((jP (uD a)[k]).2.2.2.2.length:Int))) _ _=_
   cases decide (yp (uD a)[k]<((jP (uD a)[k]).2.2.2.2.length:Int))<;>rfl

theorem Cy {n:Int} (h:uE n 0 1000000=true):uE (zo n) 0 1000000=true:=by
 obtain⟨r,h1,_,h3⟩:=IW h;rw[Dp]at h1;cases h1;exact h3
theorem Ai {b:uz} (h:vk b=true):xa b=true/\∀c,xa (b.1,b.2.1,b.2.2.1,b.2.2.2.1,b.2.2.2.2.1,b.2.2.2.2.2.1,c)=true->vk (b.1,b.2.1,b.2.2.1,b.2.2.2.1,b.2.2.2.2.1,b.2.2.2.2.2.1,c)=true:=by
 unfold vk at h ⊢;simp only[aT]at h ⊢;obtain⟨h1,h2,h3,h4,h5,h6,h7⟩:=h;exact⟨h7,λc hc=>⟨h1,h2,h3,h4,h5,h6,hc⟩⟩
theorem Hh {b:uz} (h:vB b) {c:Int×Int×Int×Int×Int} (hc:xa (b.1,b.2.1,b.2.2.1,b.2.2.2.1,b.2.2.2.2.1,b.2.2.2.2.2.1,c)=true):vB (b.1,b.2.1,b.2.2.1,b.2.2.2.1,b.2.2.2.2.1,b.2.2.2.2.2.1,c) :=
 By ⟨h.w.p,h.w.f,h.w.v,h.w.q,h.w.r⟩ ((Ai h.ok).2 c hc)
theorem yS {b:uz} (h:xa b=true):uE b.2.2.2.2.2.2.1 0 1000000=true/\uE b.2.2.2.2.2.2.2.1 0 1000000=true/\uE b.2.2.2.2.2.2.2.2.1 0 1000000=true/\uE b.2.2.2.2.2.2.2.2.2.1 0 1000000=true/\uE b.2.2.2.2.2.2.2.2.2.2 0 1000000=true:=by
 unfold xa at h;simpa only[aT]using h
theorem Od {b:uz} (h:vB b):vB (Dq b):=by
 refine Hh h ?_;obtain⟨h1,h2,h3,h4,h5⟩:=yS (Ai h.ok).1;unfold xa;simp only[aT];exact⟨h1,h2,Cy h3,h4,h5⟩
theorem N3 {b:uz} (h:vB b):vB (BZ b):=by
 refine Hh h ?_;obtain⟨h1,h2,h3,h4,h5⟩:=yS (Ai h.ok).1;unfold xa;simp only[aT];exact⟨h1,Cy h2,h3,h4,h5⟩
theorem Hi {b:uz} (h:yE b) (hl:yz M b):xt b:=by
 obtain⟨_,l2,l3,l4,l5⟩:=hl;have hM:M<9223372036854775807:=by decide
 exact⟨by omega,by omega,by omega,by omega,h.h⟩
theorem Th {b:uz} (h:vB b) {l:List uC} (hl:Ca M l):eI b l=some (DH b l)/\vB (DH b l).1:=by
 obtain⟨r,r1,_,r3,r4,_⟩:=I1 h.w h.le hl;unfold DH;rw[r1];obtain⟨k1,k2⟩:=r4 h.ok;exact⟨rfl,By (Hi k1 r3) k2⟩
theorem Oe {b:uz} (h:vB b) {p:v9} (hp:wG p=true):vB (zY b p).1:=by
 unfold zY;cases (p.1==160)<;>cases (p.1==161)<;>cases (p.1==165)<;>first|exact h|exact (Th h (Fy hp)).2
theorem PM (b:uz) (p:v9):(Br b p).1=b:=by
 unfold Br;split<;>rfl
theorem Hj {b:uz} (h:vB b) (p:v9):vB (wF b p).1:=by
 unfold wF;cases hq:CU b p with
 | false=>exact h
 | true =>
  unfold CU at hq;simp only[aT]at hq;rw[cT];unfold yH;cases wg (zY b p).2 with
  | true=>exact Oe h hq.2.1
  | false=>rw[cF,PM];exact h
theorem Of {p:v9} (hp:wG p=true):p.1=160\/p.1=161\/p.1=162\/p.1=163\/p.1=165:=by
 unfold wG at hp;by_cases h0:p.1=160;· exact .inl h0
 by_cases h1:p.1=161;· exact .inr (.inl h1)
 by_cases h2:p.1=162;· exact .inr (.inr (.inl h2))
 by_cases h3:p.1=163;· exact .inr (.inr (.inr (.inl h3)))
 by_cases h5:p.1=165;· exact .inr (.inr (.inr (.inr h5)))
 simp[h0,h1,h2,h3,h5]at hp
structure C8 (j:vF):Prop where
 byt:wJ j.2.1
 len:j.2.1.length<=M
 ph:uE j.2.2.1 0 2=true
 at':uE (yp j) 0 ((jP j).2.2.2.2.length:Int)=true
 tr:uE (vl j) 0 3=true
 ok:(j.2.2.1==0)=true\/(wG (jP j)=true/\((jP j).1 != 162)=true/\vB (jB j))
 pl:xi M (jP j)
 bw:xt (jB j)
 bl:yz M (jB j)
theorem C8.jwf {j:vF} (h:C8 j):KV j:=⟨h.pl,h.bw⟩
theorem C8.jle {j:vF} (h:C8 j):Pa M j:=⟨h.len,h.pl,h.bl⟩
structure we (a:uN):Prop where
 b:vB (aB a)
 w:(aW a).length<=20
 n:(uD a).length<=6
 lo:uE (vM a) 0 1000000=true
 la:uE (va a) 0 1000000=true
 ids:∀j∈uD a,uE j.1 1 (va a)=true
 up:(uD a).Pairwise λi j=>i.1<j.1
 j:∀j∈uD a,C8 j
theorem we.ale {a:uN} (h:we a):EW M a:=⟨h.b.le,by have:=h.w;show (aW a).length<=1048576;omega,by have:=h.n;show (uD a).length<=1048576;omega,λx hx=>(h.j x hx).jle⟩
theorem we.awf {a:uN} (h:we a):Hx a:=⟨h.b.w,by have:=h.n;omega,λx hx=>(h.j x hx).jwf⟩
theorem we.ok {a:uN} (h:we a):xj a=true:=by
 have hn:=h.n;have hw:=h.w
 unfold xj;have h1:(List.range (uD a).length).any (DM (uD a) (va a))=false:=by
  rw[List.any_eq_false];intro k hk;have hk:=List.mem_range.1 hk
  unfold DM;have hj:=h.j _ (getElem_mem hk)
  have hp:B2 (uD a)[k]=true:=by
   unfold B2;simp only[aT,Bool.or_eq_true];refine⟨hj.ph,hj.at',hj.tr,hj.ok.imp (λe=>e) λ⟨k1,k2,k3⟩=>⟨k1,k2,k3.ok⟩⟩
  simp only[List.getElem?_eq_getElem hk,h.ids _ (getElem_mem hk),hp,Bool.and_self,Bool.not_true,Bool.false_or];by_cases h0:0<k
  · have:=pairwise_iff_getElem.1 h.up (k-1) k (by omega) hk (by omega);simp only[List.getElem?_eq_getElem (show k-1<(uD a).length by omega),aT,decide_eq_true_eq];omega
  · rw[dF h0];simp
 rw[h1];simp only[Bool.not_false,Bool.true_and,aT,decide_eq_true_eq];exact⟨h.b.ok,by show ((aW a).length:Int)<=20;omega,by omega,h.lo,h.la⟩
theorem KA {a:uN} (h:Hx a) (hl:EW M a) (hb:∀j∈uD a,wJ j.2.1) (hp:xj a=true):we a:=by
 unfold xj at hp;simp only[aT,Bool.not_eq_true',decide_eq_true_eq]at hp;obtain⟨h1,h2,h3,h4,h5,h6⟩:=hp;have key:∀k (hk:k<(uD a).length),uE (uD a)[k].1 1 (va a)=true/\B2 (uD a)[k]=true/\(∀h0:0<k,(uD a)[k-1].1<(uD a)[k].1):=by
  intro k hk;have:=List.any_eq_false.1 h1 k (List.mem_range.2 hk)
  unfold DM at this;simp only[List.getElem?_eq_getElem hk,Bool.or_eq_true,Bool.not_eq_true',Bool.and_eq_false_iff,not_or]at this;obtain⟨t1,t2⟩:=this;have e1:uE (uD a)[k].1 1 (va a)=true:=by
   cases e:uE (uD a)[k].1 1 (va a)with
   | true=>rfl
   | false=>exact absurd e t1.1
  have e2:B2 (uD a)[k]=true:=by
   cases e:B2 (uD a)[k]with
   | true=>rfl
   | false=>exact absurd e t1.2
  refine⟨e1,e2,λh0=>?_⟩;rw[dT h0]at t2;simp only[List.getElem?_eq_getElem (show k-1<(uD a).length by omega),Bool.true_and,decide_eq_true_eq]at t2;omega
 refine⟨By h.b h2,by have:((aW a).length:Int)<=20:=h3;omega,by omega,h5,h6,λj hj=>?_,?_,λj hj=>?_⟩
 · obtain⟨k,hk,rfl⟩:=List.getElem_of_mem hj;exact (key k hk).1
 · exact EG (λa b c h k=>by omega) λk hk=>by
    have:=(key (k+1) hk).2.2 (by omega);simpa using this
 · have hjw:=h.j j hj;have hjl:=hl.2.2.2 j hj
   have hjb:=hb j hj;obtain⟨k,hk,rfl⟩:=List.getElem_of_mem hj;have hp:=(key k hk).2.1
   unfold B2 at hp;simp only[aT,Bool.or_eq_true]at hp;obtain⟨p1,p2,p3,p4⟩:=hp;exact⟨hjb,hjl.1,p1,p2,p3,p4.imp (λe=>e) λ⟨q1,q2,q3⟩=>⟨q1,q2,By hjw.b q3⟩,hjw.p,hjw.b,hjl.2.2⟩
noncomputable def yy (b:uz) (j:vF):Nat:=if (jP j).1=163/\b.2.2.2.2.2.2.2.2.2.2≠(jB j).2.2.2.2.2.2.2.2.2.2/\vl j<3 then (jP j).2.2.2.2.length+3 else 1
noncomputable def BP (w:List UInt8) (m:List Int):Bool:=(vK w m).2==0&&((vK w m).1.1 != 162)
noncomputable def yI (w:List UInt8) (j:vF):Bool:=BP w j.2.1||decide (j.2.2.1>0)
noncomputable def y7 (w:List UInt8) (b:uz) (j:vF):Nat :=
 if j.2.2.1=2 then yy b j else if j.2.2.1=1 then (jP j).2.2.2.2.length-(yp j).toNat+1+yy b j
 else if BP w j.2.1=true then (vK w j.2.1).1.2.2.2.2.length+3 else 1
theorem Fz {b:uz} (h:vB b) {p:v9} (hp:wG p=true) (hk:(p.1 != 162)=true):CU b p=true/\(wF b p).2.1=(yH b p).2/\(wF b p).1=(yH b p).1/\(yH b p).2.1=162/\(yH b p).2.2.1=p.2.1:=by
 have e:CU b p=true:=by unfold CU;rw[h.ok,hp,hk];rfl
 have e1:(zY b p).2.1=162/\(zY b p).2.2.1=p.2.1:=by
  unfold zY;cases (p.1==160)<;>cases (p.1==161)<;>cases (p.1==165)<;>exact⟨rfl,rfl⟩
 have e2:(Br b p).2.1=162/\(Br b p).2.2.1=p.2.1:=by
  unfold Br;split<;>exact⟨rfl,rfl⟩
 refine⟨e,?_,?_,?_⟩
 · unfold wF;rw[e,cT]
 · unfold wF;rw[e,cT]
 · unfold yH;cases wg (zY b p).2 with
   | true=>exact e1
   | false=>exact e2
theorem N4 (p:v9):(zN p).1=162/\(zN p).2.1=p.2.1:=by
 unfold zN;cases wg (162,p.2.1,6,1,p.2.2.2.2)<;>exact⟨rfl,rfl⟩
theorem JE {j:vF} (h:C8 j):j.2.2.1=0\/j.2.2.1=1\/j.2.2.1=2:=by
 obtain⟨h1,h2⟩:=vz h.ph;omega
theorem P0 {w:List UInt8} {b:uz} {j:vF} (h:j.2.2.1=1):y7 w b j=(jP j).2.2.2.2.length-(yp j).toNat+1+yy b j:=by unfold y7;rw[if_neg (by omega),if_pos h]
theorem Sa {w:List UInt8} {b:uz} {j:vF} (h:j.2.2.1=2):y7 w b j=yy b j:=by unfold y7;rw[if_pos h]
def QK (w:List UInt8) (b b':uz) (j:vF):QJ->Prop
 | .stay j'=>b'=b/\C8 j'/\j'.1=j.1/\y7 w b j'+1=y7 w b j/\yI w j'=yI w j
 | .gone d=>vB b'/\y7 w b j=1/\(yI w j=false->d=[])/\(yI w j=true->∃p,d=[(j.1,p)]/\p.1=162)
theorem PN (w:List UInt8) {b:uz} (hb:vB b) {j:vF} (h:C8 j):QK w b (yw w b j).1 j (yw w b j).2:=by
 obtain⟨m1,_,m3,m4⟩:=Oc w h.byt h.len;obtain⟨t1,t2⟩:=vz h.tr;obtain⟨a1,a2⟩:=vz h.at';rcases JE h with hp|hp|hp
 ·
   have hne2:¬j.2.2.1=2:=by omega
   have hne1:¬j.2.2.1=1:=by omega
   unfold yw;rw[show (j.2.2.1==0)=true by rw[hp];rfl,cT];have hgood:∀q,BP w j.2.1=q->yI w j=q:=by
    intro q hq;unfold yI;rw[hq,dF (by omega),Bool.or_false]
   have hneed:BP w j.2.1=false->y7 w b j=1:=by
    intro hq;unfold y7;rw[if_neg hne2,if_neg hne1,if_neg (by rw[hq];simp)]
   cases h3:((vK w j.2.1).2==3)with
   | true =>
    have hg:BP w j.2.1=false:=by
     unfold BP;simp only[beq_iff_eq]at h3;rw[h3];rfl
    exact⟨Od hb,hneed hg,λ_=>rfl,λha=>by rw[hgood _ hg]at ha;cases ha⟩
   | false =>
    cases h4:((vK w j.2.1).2 != 0||((vK w j.2.1).1.1==162))with
    | true =>
     have hg:BP w j.2.1=false:=by
      unfold BP;rw[bne]at h4 ⊢;cases e1:((vK w j.2.1).2==0)<;>cases e2:((vK w j.2.1).1.1==162)<;>simp[e1,e2]at h4 ⊢
     exact⟨N3 hb,hneed hg,λ_=>rfl,λha=>by rw[hgood _ hg]at ha;cases ha⟩
    | false =>
     simp only[Bool.or_eq_false_iff]at h4;have h0:(vK w j.2.1).2=0:=by simpa using h4.1
     have hk:((vK w j.2.1).1.1 != 162)=true:=by rw[bne,h4.2];rfl
     have hg:BP w j.2.1=true:=by unfold BP;rw[h0,hk];rfl
     refine⟨rfl,⟨h.byt,h.len,rfl,?_,h.tr,.inr ⟨m4 h0,hk,hb⟩,m3,hb.w,hb.le⟩,rfl,?_,?_⟩
     · unfold uE;rw[dT (by show (0:Int)<=0;omega),dT (by show (0:Int)<=_;omega)];rfl
     · have e1:y7 w b j=(vK w j.2.1).1.2.2.2.2.length+3:=by unfold y7;rw[if_neg hne2,if_neg hne1,if_pos hg]
       rw[e1];show y7 w b (yv j.1 j.2.1 1 (vK w j.2.1).1 b 0 (vl j))+1=_
       rw[P0 rfl];have e2:yy b (yv j.1 j.2.1 1 (vK w j.2.1).1 b 0 (vl j))=1:=by
        unfold yy;rw[if_neg (λhh=>hh.2.1 rfl)]
       rw[e2];show (vK w j.2.1).1.2.2.2.2.length-(0:Int).toNat+1+1+1=_
       simp
     · rw[hgood _ hg];unfold yI;rw[show decide ((yv j.1 j.2.1 1 (vK w j.2.1).1 b 0 (vl j)).2.2.1>0)=true from rfl,Bool.or_true]
 ·
   have hok:=h.ok.resolve_left (by rw[hp];simp);unfold yw;rw[show (j.2.2.1==0)=false by rw[hp];rfl,show (j.2.2.1==2)=false by rw[hp];rfl,cF,cF];have hn:y7 w b j=(jP j).2.2.2.2.length-(yp j).toNat+1+yy b j:=by unfold y7;rw[if_neg (by omega),if_pos hp]
   have ha:yI w j=true:=by unfold yI;rw[dT (show j.2.2.1>0 by omega),Bool.or_true]
   by_cases hlt:yp j<((jP j).2.2.2.2.length:Int)
   · have hw1:uB (yp j+1)=yp j+1:=uX (by omega) (by
      have:=h.pl.1;have:(jP j).2.2.2.2.length<=1048576:=this
      omega)
     rw[dT hlt,cT,hw1];refine⟨rfl,⟨h.byt,h.len,h.ph,?_,h.tr,.inr hok,h.pl,h.bw,h.bl⟩,rfl,?_,?_⟩
     · show uE (yp j+1) 0 ((jP j).2.2.2.2.length:Int)=true;unfold uE;rw[dT (by omega),dT (by omega)];rfl
     · rw[hn];show y7 w b (yv j.1 j.2.1 j.2.2.1 (jP j) (jB j) (yp j+1) (vl j))+1=_
       unfold y7;rw[show (yv j.1 j.2.1 j.2.2.1 (jP j) (jB j) (yp j+1) (vl j)).2.2.1=1 from hp,if_neg (by omega),if_pos rfl];have e2:yy b (yv j.1 j.2.1 j.2.2.1 (jP j) (jB j) (yp j+1) (vl j))=yy b j:=rfl
       rw[e2];show (jP j).2.2.2.2.length-(yp j+1).toNat+1+yy b j+1=_
       omega
     · rw[ha];unfold yI;rw[show decide ((yv j.1 j.2.1 j.2.2.1 (jP j) (jB j) (yp j+1) (vl j)).2.2.1>0)=true from dT (by show j.2.2.1>0;omega),Bool.or_true]
   · rw[dF hlt,cF];refine⟨rfl,⟨h.byt,h.len,rfl,h.at',h.tr,.inr hok,h.pl,h.bw,h.bl⟩,rfl,?_,?_⟩
     · rw[hn];show y7 w b (yv j.1 j.2.1 2 (jP j) (jB j) (yp j) (vl j))+1=_
       rw[Sa rfl];have e2:yy b (yv j.1 j.2.1 2 (jP j) (jB j) (yp j) (vl j))=yy b j:=rfl
       rw[e2];omega
     · rw[ha];unfold yI;rw[show decide ((yv j.1 j.2.1 2 (jP j) (jB j) (yp j) (vl j)).2.2.1>0)=true from rfl,Bool.or_true]
 ·
   obtain⟨hpp,hk,hB⟩:=h.ok.resolve_left (by rw[hp];simp);unfold yw;rw[show (j.2.2.1==0)=false by rw[hp];rfl,show (j.2.2.1==2)=true by rw[hp];rfl,cF,cT];have hn:y7 w b j=yy b j:=by unfold y7;rw[if_pos hp]
   have ha:yI w j=true:=by unfold yI;rw[dT (show j.2.2.1>0 by omega),Bool.or_true]
   cases h163:(j.2.2.2.1 != 163)with
   | true =>
    obtain⟨_,d2,_,d4,_⟩:=Fz hB hpp hk;refine⟨hb,?_,(λhf=>by rw[ha]at hf;cases hf),λ_=>⟨_,rfl,by rw[d2];exact d4⟩⟩;rw[hn];unfold yy;rw[if_neg (λhh=>by have e:j.2.2.2.1=163:=hh.1;rw[e]at h163;cases h163)]
   | false =>
    have e163:(jP j).1=163:=by
     have:¬j.2.2.2.1≠163:=by simpa using h163
     exact Classical.not_not.1 this
    cases hv:(b.2.2.2.2.2.2.2.2.2.2==(jB j).2.2.2.2.2.2.2.2.2.2)with
    | true =>
     obtain⟨_,d2,_,d4,_⟩:=Fz hb hpp hk;refine⟨Hj hb _,?_,(λhf=>by rw[ha]at hf;cases hf),λ_=>⟨_,rfl,by rw[d2];exact d4⟩⟩;rw[hn];unfold yy;rw[if_neg (λhh=>hh.2.1 (by simpa using hv))]
    | false =>
     by_cases ht:vl j>=3
     · rw[dT ht];refine⟨hb,?_,(λhf=>by rw[ha]at hf;cases hf),λ_=>⟨_,rfl,(N4 _).1⟩⟩;rw[hn];unfold yy;rw[if_neg (λhh=>by have:=hh.2.2;omega)]
     · rw[dF ht,uX (by omega) (by omega)];refine⟨rfl,⟨h.byt,h.len,rfl,?_,?_,.inr ⟨hpp,hk,hb⟩,h.pl,hb.w,hb.le⟩,rfl,?_,?_⟩
       · show uE 0 0 ((jP j).2.2.2.2.length:Int)=true;unfold uE;rw[dT (by omega),dT (by omega)];rfl
       · show uE (vl j+1) 0 3=true;unfold uE;rw[dT (by omega),dT (by omega)];rfl
       · rw[hn];have e1:yy b j=(jP j).2.2.2.2.length+3:=by
          unfold yy;rw[if_pos ⟨e163,by simpa using hv,by omega⟩]
         rw[e1];show y7 w b (yv j.1 j.2.1 1 (jP j) b 0 (vl j+1))+1=_
         rw[P0 rfl];have e2:yy b (yv j.1 j.2.1 1 (jP j) b 0 (vl j+1))=1:=by
          unfold yy;rw[if_neg (λhh=>hh.2.1 rfl)]
         rw[e2];show (jP j).2.2.2.2.length-(0:Int).toNat+1+1+1=_
         simp
       · rw[ha];unfold yI;rw[show decide ((yv j.1 j.2.1 1 (jP j) b 0 (vl j+1)).2.2.1>0)=true from rfl,Bool.or_true]

theorem Hk {a:uN} (h:we a) {k:Nat} (hk:k<(uD a).length) :
 (∃j',yX a k (uD a)[k]=(vU (aB a) (aW a) ((uD a).set k j') (vM a) (va a),[])/\C8 j'/\j'.1=(uD a)[k].1/\y7 (aW a) (aB a) j'+1=y7 (aW a) (aB a) (uD a)[k]/\yI (aW a) j'=yI (aW a) (uD a)[k]) \/
 (∃b' d,yX a k (uD a)[k]=(vU b' (aW a) ((uD a).eraseIdx k) (vM a) (va a),d)/\vB b'/\y7 (aW a) (aB a) (uD a)[k]=1/\(yI (aW a) (uD a)[k]=false->d=[])/\(yI (aW a) (uD a)[k]=true->∃p,d=[((uD a)[k].1,p)]/\p.1=162)):=by
 have hs:=PN (aW a) h.b (h.j _ (getElem_mem hk));unfold yX;cases hf:(yw (aW a) (aB a) (uD a)[k]).2 with
 | stay j' =>
  rw[hf]at hs;obtain⟨k1,k2,k3,k4,k5⟩:=hs;exact .inl ⟨j',by simp only[k1],k2,k3,k4,k5⟩
 | gone d =>
  rw[hf]at hs;obtain⟨k1,k2,k3,k4⟩:=hs;exact .inr ⟨_,d,rfl,k1,k2,k3,k4⟩
theorem PP {a:uN} (h:we a) {k:Nat} (hk:k<(uD a).length) {j':vF} (hj:C8 j') (hi:j'.1=(uD a)[k].1):we (vU (aB a) (aW a) ((uD a).set k j') (vM a) (va a)):=by
 have hm:∀x∈(uD a).set k j',x∈uD a\/x=j':=λx hx=>mem_or_eq_of_mem_set hx;have hmap:((uD a).set k j').map (λj=>j.1)=(uD a).map (λj=>j.1):=by
  rw[List.map_set,hi];apply List.ext_getElem
  · simp
  · intro i h1 h2;rw[List.getElem_set];split
    · rename_i e;subst e;simp
    · rfl
 refine⟨h.b,h.w,?_,h.lo,h.la,λj hj'=>?_,?_,λj hj'=>?_⟩
 · show ((uD a).set k j').length<=6;rw[length_set];exact h.n
 · rcases hm j hj' with hj'|rfl
   · exact h.ids j hj'
   · show uE j.1 1 (va a)=true;rw[hi];exact h.ids _ (getElem_mem hk)
 · have:=h.up;show ((uD a).set k j').Pairwise λi j=>i.1<j.1
   rw[←List.pairwise_map (f:=λj:vF=>j.1) (R:=λx y=>x<y)]at this ⊢;rw[hmap];exact this
 · rcases hm j hj' with hj'|rfl
   · exact h.j j hj'
   · exact hj
theorem Og {a:uN} (h:we a) (k:Nat) {b':uz} (hb:vB b'):we (vU b' (aW a) ((uD a).eraseIdx k) (vM a) (va a)):=by
 have hs:((uD a).eraseIdx k).Sublist (uD a):=List.eraseIdx_sublist _ _;refine⟨hb,h.w,Nat.le_trans hs.length_le h.n,h.lo,h.la,λj hj=>h.ids j (hs.subset hj),h.up.sublist hs,λj hj=>h.j j (hs.subset hj)⟩
theorem JF {a:uN} (h:we a) {k:Nat} (hk:k<(uD a).length):we (yX a k (uD a)[k]).1/\(yX a k (uD a)[k]).2.length<=1:=by
 rcases Hk h hk with ⟨j',e,k1,k2,_⟩|⟨b',d,e,k1,_,k3,k4⟩
 · rw[e];exact⟨PP h hk k1 k2,by simp⟩
 · rw[e];refine⟨Og h k k1,?_⟩;cases ha:yI (aW a) (uD a)[k]with
   | false=>rw[k3 ha];simp
   | true=>obtain⟨p,rfl,_⟩:=k4 ha;simp
theorem P1 {a:uN} (h:we a) {k:Nat} (hk:k<(uD a).length):eg a (k:Int)=some (yX a k (uD a)[k]) :=
 S9 h.b.w h.ale hk (h.j _ (getElem_mem hk)).jwf (h.j _ (getElem_mem hk)).byt
theorem Sb {a:uN} (h:we a) {k:Nat} (hk:k<(uD a).length):ef a (k:Int)=some (yX a k (uD a)[k]):=by
 have hn:=h.n;unfold ef;rw[zH h.ale,an,D1 h.awf,an,h.ok,Bool.not_true,cF];have hw:uB ((a.2.2.2.2.2.2.2.2.2.2.2.2.1.length:Int)-1)=((uD a).length:Int)-1:=uX (by show -9223372036854775808<=((uD a).length:Int)-1;omega) (by show ((uD a).length:Int)-1<=_;omega)
 rw[hw,xU,an,AH (by omega) (by omega),an,Bool.not_true,cF,P1 h hk,an]
theorem QL {a:uN} (h:we a) {k:Int} (hk:k<0\/((uD a).length:Int)<=k):ef a k=some (a,[]):=by
 have hn:=h.n;unfold ef;rw[zH h.ale,an,D1 h.awf,an,h.ok,Bool.not_true,cF];have hw:uB ((a.2.2.2.2.2.2.2.2.2.2.2.2.1.length:Int)-1)=((uD a).length:Int)-1:=uX (by show -9223372036854775808<=((uD a).length:Int)-1;omega) (by show ((uD a).length:Int)-1<=_;omega)
 have hp:uE k 0 (((uD a).length:Int)-1)=false:=by
  unfold uE;rcases hk with hk|hk
  · rw[dF (by omega)];rfl
  · rw[dF (show ¬k<=((uD a).length:Int)-1 by omega),Bool.and_false]
 rw[hw,xU,an,hp,an,Bool.not_false,cT]
theorem Sc {n:Int} (hn:-2147483648<=n/\n<=2147483647):∃x0 l,vY n=x0::l/\wJ (x0::l)/\l.length<=3/\wx (xN x0) l=n:=by
 unfold vY;by_cases h1:uE n (-128) 127=true
 · rw[if_pos h1];obtain⟨a,b⟩:=vz h1;refine⟨n%256,[],rfl,λx hx=>?_,by simp,?_⟩
   · simp only[mem_singleton]at hx;subst hx;omega
   · show xN (n%256)=n;unfold xN;split<;>omega
 rw[if_neg h1];have h1':=Dv (Bool.eq_false_iff.2 h1)
 by_cases h2:uE n (-32768) 32767=true
 · rw[if_pos h2];obtain⟨a,b⟩:=vz h2;refine⟨n/256%256,[n%256],rfl,λx hx=>?_,by simp,?_⟩
   · simp only[mem_cons,not_mem_nil,or_false]at hx;rcases hx with rfl|rfl<;>omega
   · show xN (n/256%256)*256+n%256=n;unfold xN;split<;>omega
 rw[if_neg h2];by_cases h3:uE n (-8388608) 8388607=true
 · rw[if_pos h3];obtain⟨a,b⟩:=vz h3;refine⟨n/65536%256,[n/256%256,n%256],rfl,λx hx=>?_,by simp,?_⟩
   · simp only[mem_cons,not_mem_nil,or_false]at hx;rcases hx with rfl|rfl|rfl<;>omega
   · show (xN (n/65536%256)*256+n/256%256)*256+n%256=n;unfold xN;split<;>omega
 rw[if_neg h3];refine⟨n/16777216%256,[n/65536%256,n/256%256,n%256],rfl,λx hx=>?_,by simp,?_⟩
 · simp only[mem_cons,not_mem_nil,or_false]at hx;rcases hx with rfl|rfl|rfl|rfl<;>omega
 · show ((xN (n/16777216%256)*256+n/65536%256)*256+n/256%256)*256+n%256=n;unfold xN;split<;>omega
def CV (w:List UInt8):List Int:=vE 2 (vY 1)++vE 4 (xr w)
def FA (w:List UInt8) (p:v9):List Int:=if (zD p).length=0\/20<w.length then []else if (CV w++zD p).length<=250 then vE 48 (CV w++zD p)else []
theorem PQ (p:v9):(zD p).length<=260:=by
 unfold zD;split
 · rename_i h;have:=wA p.1 (body:=y9 p)
   omega
 · simp
theorem KB {p:v9} (hx:∀x∈p.2.2.2.2,yD x=true) (hn:p.2.2.2.2.length<=10) (hi:uE p.2.1 (-2147483648) 2147483647=true)
 (hk:(cond (p.1==162||p.1==165) (uE p.2.2.1 0 1000&&uE p.2.2.2.1 0 1000) (cond (p.1==160||(p.1==161||p.1==163)) (p.2.2.1==0&&p.2.2.2.1==0) false))=true):wG p=true:=by
 unfold wG;have h1:(List.range p.2.2.2.2.length).any (bX p.2.2.2.2)=false:=by
  rw[List.any_eq_false];intro k hk';have hk':=List.mem_range.1 hk'
  unfold bX;simp only[List.getElem?_eq_getElem hk',hx _ (getElem_mem hk')];simp
 rw[h1,dT (by omega),hk,hi];rfl

theorem B9 {a b:List Int} (h:wJ a) (k:wJ b):wJ (a++b):=λx hx=>(mem_append.1 hx).elim (h x) (k x)
theorem zA {t:Int} {body:List Int} (ht:uE t 0 255=true) (hb:wJ body) (hn:body.length<=250):wJ (vE t body):=by
 obtain⟨t0,t1⟩:=vz ht;intro x hx;unfold vE at hx;rcases mem_cons.1 hx with rfl|hx
 · omega
 · rcases mem_append.1 hx with hx|hx
   · split at hx
     · simp only[mem_cons,not_mem_nil,or_false]at hx;rcases hx with rfl|rfl<;>omega
     · simp only[mem_singleton]at hx;subst hx;omega
   · exact hb x hx
theorem E6 {n:Int} (hn:-2147483648<=n/\n<=2147483647):wJ (vY n):=by
 obtain⟨x0,l,e,h,_⟩:=Sc hn;rw[e];exact h
theorem JG (s:List UInt8):wJ (xr s):=by
 intro x hx;unfold xr at hx;obtain⟨b,_,rfl⟩:=mem_map.1 hx;have:=b.toNat_lt
 omega
theorem PR {v:yj} (hv:yo v=true):wJ (xf v):=by
 unfold yo at hv;unfold xf;by_cases h1:(v.1==5||(v.1==128||v.1==130))=true
 · simp only[Bool.or_eq_true,beq_iff_eq]at h1;rcases h1 with h|h|h<;>rw[h]<;>exact AF
 · rw[Bool.eq_false_iff.2 h1,cF]at hv;cases h2:(v.1==2)with
   | true =>
    rw[h2,cT,aT]at hv;rw[cT];exact E6 (vz hv.1)
   | false =>
    rw[h2,cF]at hv;rw[cF];cases h4:(v.1==4)with
    | true=>rw[cT];exact JG _
    | false =>
     rw[h4,cF]at hv;rw[cF];cases h6:(v.1==6)with
     | true =>
      rw[h6,cT,aT]at hv;rw[cT];exact GO (zC hv.1).2.2
     | false=>rw[cF];exact AF
theorem PS {x:uC} (hx:yD x=true):wJ (Cb x):=by
 have hx':=hx;unfold yD at hx';rw[aT]at hx';obtain⟨o1,o2,o3⟩:=zC hx'.1;have hob:=Aq (o:=x.1) λy hy=>(o3 y hy).2
 obtain⟨l1,l2,_,_⟩:=D3 hx'.2;exact B9 (zA (by decide) (GO o3) (by omega)) (zA l2 (PR hx'.2) (by omega))
theorem KC:∀{l:List uC},(∀x∈l,yD x=true)->wJ (vC l)
 | [],_=>AF
 | x::l,h=>by
  have hx:=h x (by simp);have hb:=(C3 hx).1
  show wJ (A5 x++vC l);exact B9 (zA (by decide) (PS hx) (by omega)) (KC λy hy=>h y (List.mem_cons_of_mem _ hy))
theorem PT (p:v9):wJ (zD p):=by
 unfold zD;split
 · rename_i h;obtain⟨h1,h2,h3⟩:=h;obtain⟨k1,k2,k3,k4,k5,k6⟩:=xK h1;have i1:=xv p.2.1
   have i2:=xv p.2.2.1;have i3:=xv p.2.2.2.1
   refine zA k3 ?_ h3;unfold y9;exact B9 (B9 (B9 (zA (by decide) (E6 k4) (by omega)) (zA (by decide) (E6 ⟨by omega,by omega⟩) (by omega))) (zA (by decide) (E6 ⟨by omega,by omega⟩) (by omega))) (zA (by decide) (KC k1) h2)
 · exact AF
theorem PU (w:List UInt8) (p:v9):wJ (FA w p):=by
 unfold FA;split
 · exact AF
 · rename_i h;simp only[not_or,Nat.not_lt]at h;split
   · rename_i hb;have hwl:(xr w).length=w.length:=by unfold xr;rw[length_map]
     have i1:=xv 1;refine zA (by decide) (B9 ?_ (PT p)) hb;unfold CV;exact B9 (zA (by decide) (E6 ⟨by omega,by omega⟩) (by omega)) (zA (by decide) (JG w) (by omega))
   · exact AF
theorem PV {i:Int} (hi:-2147483648<=i/\i<=2147483647):wg (162,i,7,0,[])=true:=by
 have hp:wG (162,i,7,0,[])=true:=KB (by intro x hx;cases hx) (Nat.zero_le _) (AH hi.1 hi.2) rfl;have t1:=wA 2 (body:=vY i)
 have t2:=wA 2 (body:=vY 7);have t3:=wA 2 (body:=vY 0)
 have t4:=wA 48 (body:=[]);have i1:=xv i
 have i2:=xv 7;have i3:=xv 0
 have hb:(y9 (162,i,7,0,[])).length<=30:=by
  unfold y9;show (vE 2 (vY i)++vE 2 (vY 7)++vE 2 (vY 0)++vE 48 []).length<=30
  simp only[length_append];simp only[List.length_nil]at t4;omega
 have ht:=wA 162 (body:=y9 (162,i,7,0,[]));have hpos:=GP 162 (y9 (162,i,7,0,[]))
 unfold wg zD;rw[if_pos ⟨hp,by show (0:Nat)<=250;omega,by omega⟩];exact AH (by show (1:Int)<=((vE 162 (y9 (162,i,7,0,[]))).length:Int);omega) (by show ((vE 162 (y9 (162,i,7,0,[]))).length:Int)<=120;omega)
theorem N5 {b:uz} {p:v9} (hp:wG p=true):wg (yH b p).2=true:=by
 have hi:=(xK hp).2.2.2.1;unfold yH;cases hf:wg (zY b p).2 with
 | true=>exact hf
 | false =>
  rw[cF];unfold Br;split
  · rename_i t ht;cases h5:(p.1==165)with
    | false=>rw[h5]at ht;cases ht
    | true =>
     rw[h5]at ht;exact (JD ht).1
  · exact PV hi
theorem LO {l:List uC} (h:Ca M l):iK l l=some true:=by
 have hM:M<9223372036854775807:=by decide
 have hn:l.length<=1048576:=h.1;unfold iK;rw[bne_self_eq_false,cF];have:loop (λz=>eT l l z) 0=some (.inl ()):=An (n:=l.length) (λk hk=>by
  obtain⟨h1,_,h3⟩:=h.2 _ (getElem_mem hk);show eT l l (k:Int)=_
  unfold eT;simp only[vj (show (k:Int)<(l.length:Int) by omega),cT,uO hk,an];rw[Bu (by omega),Rv (by omega)];simp only[an,beq_self_eq_true,Bool.not_true,cF];rw[uL (by omega)]) (by
  show eT l l (l.length:Int)=_;unfold eT;rw[vd (by omega),cF])
 rw[this];rfl
theorem JH {p:v9} (h:xi M p):eU p p=some true:=by
 unfold eU;simp only[beq_self_eq_true,cT,an,LO h]
theorem N6 {b:uz} (h:vB b) {w:List UInt8} (hw:w.length<=20):cg b w=some (vU b w [] 0 0):=by
 unfold cg;rw[yQ h.w,an,h.ok,Bool.not_true,cF,an,dF (by omega),cF,wl h.le,an];rfl
def Oh (id:Int) (m:List Int):vF:=(id,m,0,0,0,0,0,[],0,[],[],[],[],[],0,0,0,0,0,0,0)
theorem Oi (id:Int) {m:List Int} (hb:wJ m) (hn:m.length<=M):C8 (Oh id m):=by
 have h0:(0:Nat)<=M:=by decide
 refine⟨hb,hn,rfl,rfl,rfl,.inl rfl,⟨h0,λx hx=>by cases hx⟩,⟨by show 0<9223372036854775807;decide,by show 0<9223372036854775807;decide,by show 0<9223372036854775807;decide,by show 0<9223372036854775807;decide,λr hr=>by cases hr⟩,⟨h0,h0,h0,h0,h0⟩⟩
theorem KD {b:uz} (h:vB b) {w:List UInt8} (hw:w.length<=20):we (vU b w [] 0 0) :=
 ⟨h,hw,(by show 0<=6;omega),rfl,rfl,(λj hj=>by cases hj),List.Pairwise.nil,(λj hj=>by cases hj)⟩
theorem PW {a:uN} (h:we a) {m:List Int} (hn:m.length<=M) (h6:(uD a).length<6) (hl:va a<1000000):bv a m=some (vU (aB a) (aW a) (uD a++[Oh (va a+1) m]) (vM a) (va a+1)):=by
 have hla:=vz h.la;have e1:decide ((a.2.2.2.2.2.2.2.2.2.2.2.2.1.length:Int)>=6)=false:=dF (by show ¬((uD a).length:Int)>=6;omega)
 have e2:decide (a.2.2.2.2.2.2.2.2.2.2.2.2.2.2>=1000000)=false:=dF (by show ¬va a>=1000000;omega);have e3:uB (a.2.2.2.2.2.2.2.2.2.2.2.2.2.2+1)=va a+1:=uX (by show -9223372036854775808<=va a+1;omega) (by show va a+1<=_;omega)
 unfold bv;rw[zH h.ale,an,D1 h.awf,an,h.ok,Bool.not_true,cF,e1,cF,e2,an,cF,Am hn,an,e3];rw[uG (by show (uD a).length+1<=_;omega),an];rfl
theorem PX {a:uN} (h:we a) {m:List Int} (hf:¬((uD a).length<6/\va a<1000000)):bv a m=some (vU (aB a) (aW a) (uD a) (zo (vM a)) (va a)):=by
 unfold bv;rw[zH h.ale,an,D1 h.awf,an,h.ok,Bool.not_true,cF];have key:(cond (decide ((a.2.2.2.2.2.2.2.2.2.2.2.2.1.length:Int)>=6)) (some true) (some (decide (a.2.2.2.2.2.2.2.2.2.2.2.2.2.2>=1000000))))=some true:=by
  by_cases h6:(uD a).length<6
  · have h7:¬va a<1000000:=λh7=>hf ⟨h6,h7⟩;rw[dF (by show ¬((uD a).length:Int)>=6;omega),cF,dT (by show va a>=1000000;omega)]
  · rw[dT (by show ((uD a).length:Int)>=6;omega),cT]
 rw[key,an,cT,Dp,an];rfl
theorem LP {a:uN} (h:we a) {m:List Int} (hb:wJ m) (hn:m.length<=M) (h6:(uD a).length<6) (hl:va a<1000000):we (vU (aB a) (aW a) (uD a++[Oh (va a+1) m]) (vM a) (va a+1)):=by
 have hla:=vz h.la;refine⟨h.b,h.w,?_,h.lo,?_,λj hj=>?_,?_,λj hj=>?_⟩
 · show (uD a++[_]).length<=6;rw[length_append];show (uD a).length+1<=6;omega
 · exact AH (by show 0<=va a+1;omega) (by show va a+1<=1000000;omega)
 · rcases mem_append.1 hj with hj|hj
   · obtain⟨k1,k2⟩:=vz (h.ids j hj);exact AH k1 (by show j.1<=va a+1;omega)
   · rw[mem_singleton]at hj;subst hj;exact AH (by show 1<=va a+1;omega) (by show va a+1<=va a+1;omega)
 · show (uD a++[_]).Pairwise λi j:vF=>i.1<j.1;refine pairwise_append.2 ⟨h.up,List.pairwise_singleton _ _,λx hx y hy=>?_⟩;rw[mem_singleton]at hy;subst hy;have:=(vz (h.ids x hx)).2
   show x.1<va a+1;omega
 · rcases mem_append.1 hj with hj|hj
   · exact h.j j hj
   · rw[mem_singleton]at hj;subst hj;exact Oi _ hb hn
theorem Oj {a:uN} (h:we a):we (vU (aB a) (aW a) (uD a) (zo (vM a)) (va a)):=⟨h.b,h.w,h.n,Cy h.lo,h.la,h.ids,h.up,h.j⟩
structure CX (p:v9):Prop where
 k:p.1=160\/p.1=161\/p.1=163\/p.1=165
 i:0<=p.2.1/\p.2.1<100
 ab:(p.1=165/\(0<=p.2.2.1/\p.2.2.1<=1000)/\(0<=p.2.2.2.1/\p.2.2.2.1<=1000))\/(p.1≠165/\p.2.2.1=0/\p.2.2.2.1=0)
 n:p.2.2.2.2.length<=3
 s:∀x∈p.2.2.2.2,Ao x
 o:p.1≠163->∀x∈p.2.2.2.2,yD x=true
theorem CX.le {p:v9} (h:CX p):xi M p:=⟨by have:=h.n;show _<=1048576;omega,λx hx=>(h.s x hx).le⟩
theorem CX.ok {p:v9} (h:CX p) (hk:p.1≠163):wG p=true:=by
 have hi:=h.i;refine KB (h.o hk) (by have:=h.n;omega) (AH (by omega) (by omega)) ?_;rcases h.ab with ⟨e,⟨a1,a2⟩,b1,b2⟩|⟨e,a1,b1⟩
 · rw[e,AH a1 a2,AH b1 b2];rfl
 · rw[a1,b1];rcases h.k with k|k|k|k
   · rw[k];rfl
   · rw[k];rfl
   · exact absurd k hk
   · exact absurd k e
theorem LQ {c:uM} (h:CW c) {b:uz} (hb:xt b) (hn:∀c,CW c->Dr Nm (aq c b)):Dr CX (bG c b):=by
 unfold bG;refine Dr.bind (AE h (by decide)) λc x hc hx=>?_;refine Dr.bind (wq hc 100) λc i hc hi=>?_;have hi2:=hi.2 (by omega)
 have hx:x=160\/x=161\/x=163\/x=165:=by
  simp only[mem_cons,not_mem_nil,or_false]at hx;rcases hx with h|h|h|h|h
  · exact .inl h
  · exact .inr (.inl h)
  · exact .inr (.inr (.inl h))
  · exact .inr (.inr (.inl h))
  · exact .inr (.inr (.inr h))
 cases h3:(x==163)with
 | true =>
  have h3:x=163:=by simpa using h3
  subst h3;show Dr CX ((fm c b).bind λt18=>some (t18.1,((163:Int),i,0,0,t18.2)))
  refine Dr.bind (Qr hc hb hn) λc l hc hl=>?_;exact Dr.some hc ⟨.inr (.inr (.inl rfl)),⟨hi.1,hi2⟩,.inr ⟨by show (163:Int)≠165;omega,rfl,rfl⟩,hl.1,hl.2,λhk=>absurd rfl hk⟩
 | false =>
  have h3:x≠163:=by simpa using h3
  obtain⟨c1,k,e1,w1,hk⟩:=wI hc (n:=4) (by decide);have e1':aa c 4=some (c1,(k:Int)):=e1
  rw[cF];show Dr CX ((aa c 4).bind _)
  rw[e1',an];obtain⟨d,d1,d2,d3,d4,d5⟩:=uS (step:=λz:Int×List Int×Int×Int×Int×Int×Int×Int×List uC=>cI b z.1 z.2.1 z.2.2.1 z.2.2.2.1 z.2.2.2.2.1 z.2.2.2.2.2.1 z.2.2.2.2.2.2.1 z.2.2.2.2.2.2.2.1 z.2.2.2.2.2.2.2.2)
   (λj z=>z.1=((k-j:Nat):Int)/\CW (z.2.1,z.2.2.1,z.2.2.2.1)/\(z.2.2.2.2.1=x/\z.2.2.2.2.2.1=i/\z.2.2.2.2.2.2.1=0/\z.2.2.2.2.2.2.2.1=0)/\z.2.2.2.2.2.2.2.2.length=j/\∀y∈z.2.2.2.2.2.2.2.2,Ao y/\yD y=true) k
   (λd=>CW (d.1,d.2.1,d.2.2.1)/\(d.2.2.2.1=x/\d.2.2.2.2.1=i/\d.2.2.2.2.2.1=0/\d.2.2.2.2.2.2.1=0)/\d.2.2.2.2.2.2.2.length=k/\∀y∈d.2.2.2.2.2.2.2,Ao y/\yD y=true)
   (λj z hj ⟨z1,z2,z3,z4,z5⟩=>by
    obtain⟨q,c0,c1,c2,r0,r1,r2,r3,out⟩:=z;simp only at z1 z2 z3 z4 z5;subst z1 z4;left;obtain⟨c',o,x1,x2,x3⟩:=hn _ z2;refine⟨_,by
     show cI b _ _ _ _ _ _ _ _ _=_;unfold cI;rw[dT (show ((k-out.length:Nat):Int)>0 by omega),cT,x1,an,uG (by show _+1<=_;omega),an],?_,x2,z3,by simp,?_⟩
    · show uB (((k-out.length:Nat):Int)-1)=_;rw[uX (by omega) (by omega)];omega
    · intro y hy;rcases mem_append.1 hy with hy|hy
      · exact z5 y hy
      · rw[mem_singleton]at hy;subst hy;have:=x3.n10
        refine⟨⟨by show o.length<=1000;omega,by show (0:Nat)<=100;omega,by show (0:Nat)<=1000;omega,OP 5⟩,?_⟩;unfold yD;rw[L9 x3];rfl)
   (λz ⟨z1,z2,z3,z4,z5⟩=>by
    obtain⟨q,c0,c1,c2,r0,r1,r2,r3,out⟩:=z;simp only at z1 z2 z3 z4 z5;rw[Nat.sub_self]at z1;subst z1;refine⟨(c0,c1,c2,r0,r1,r2,r3,out),?_,z2,z3,z4,z5⟩;show cI b _ _ _ _ _ _ _ _ _=_
    unfold cI;rw[dF (show ¬((0:Nat):Int)>0 by decide),cF]) (x:=((k:Int),c1.1,c1.2.1,c1.2.2,x,i,0,0,[])) ⟨rfl,w1,⟨rfl,rfl,rfl,rfl⟩,rfl,by simp⟩
  show Dr CX ((loop (λz:Int×List Int×Int×Int×Int×Int×Int×Int×List uC=>cI b z.1 z.2.1 z.2.2.1 z.2.2.2.1 z.2.2.2.2.1 z.2.2.2.2.2.1 z.2.2.2.2.2.2.1 z.2.2.2.2.2.2.2.1 z.2.2.2.2.2.2.2.2) ((k:Int),c1.1,c1.2.1,c1.2.2,x,i,0,0,[])).bind _);rw[d1,an];obtain⟨q0,q1,q2,r0,r1,r2,r3,l⟩:=d;simp only at d2 d3 d4 d5 ⊢;obtain⟨rfl,rfl,rfl,rfl⟩:=d3;cases h5:(r0==165)with
  | true =>
   have h5:r0=165:=by simpa using h5
   rw[cT];refine Dr.bind (wq d2 3) λc s hc hs=>?_;refine Dr.bind (wq hc 5) λc t hc ht=>?_;have hs2:=hs.2 (by omega)
   have ht2:=ht.2 (by omega);exact Dr.some hc ⟨hx,⟨hi.1,hi2⟩,.inl ⟨h5,⟨hs.1,by show s<=1000;omega⟩,ht.1,by show t<=1000;omega⟩,by show l.length<=3;omega,λy hy=>(d5 y hy).1,λ_ y hy=>(d5 y hy).2⟩
  | false =>
   have h5:r0≠165:=by simpa using h5
   rw[cF];exact Dr.some d2 ⟨hx,⟨hi.1,hi2⟩,.inr ⟨h5,rfl,rfl⟩,by show l.length<=3;omega,λy hy=>(d5 y hy).1,λ_ y hy=>(d5 y hy).2⟩
def wR (e:uF):Option uF:=cond e.2.2.2.2 (some e) (cond (decide (e.2.2.2.1>=4)) none (some (e.1,e.2.1,e.2.2.1,uB (e.2.2.2.1+1),e.2.2.2.2)))
theorem Ti {l:List uF} (hn:l.length<=1000):iI l=some (l.filterMap wR):=by
 unfold iI;obtain⟨v,e1,rfl⟩:=uS (step:=λz:Int×List uF=>dw l z.1 z.2) (λk z=>z=((k:Int),(l.take k).filterMap wR)) l.length (λv=>v=l.filterMap wR)
  (λk z hk e=>by
   subst e;refine .inl ⟨_,?_,rfl⟩;have hfl:((l.take k).filterMap wR).length<=k:=Nat.le_trans (List.length_filterMap_le _ _) (by rw[length_take];omega)
   have t1:l.take (k+1)=l.take k++[l[k]]:=by rw[take_add_one,List.getElem?_eq_getElem hk];rfl
   have t2:(l.take (k+1)).filterMap wR=(l.take k).filterMap wR++(match wR l[k]with|some y=>[y]|none=>[]):=by
    rw[t1,List.filterMap_append]
    congr 1
    cases hq:wR l[k]with
    | none=>rw[List.filterMap_cons_none hq];rfl
    | some y=>rw[List.filterMap_cons_some hq];rfl
   have ha:∀y:uF,uV ((l.take k).filterMap wR) [y]=some ((l.take k).filterMap wR++[y]):=λy=>uG (by show _+1<=_;omega);show dw l (k:Int) _=_
   unfold dw;rw[vj (by omega),cT,uO hk,an,uL (by omega),t2];cases hs:l[k].2.2.2.2 with
   | true =>
    have hq:wR l[k]=some l[k]:=by unfold wR;rw[hs];rfl
    rw[hq];simp only[Bool.not_true,cF,cT,ha,an]
   | false =>
    simp only[Bool.not_false,cT,cF];cases h4:decide (l[k].2.2.2.1>=4)with
    | true =>
     have hq:wR l[k]=none:=by unfold wR;rw[hs,h4];rfl
     rw[hq];simp only[cT,append_nil]
    | false =>
     have hq:wR l[k]=some (l[k].1,l[k].2.1,l[k].2.2.1,uB (l[k].2.2.2.1+1),false):=by unfold wR;rw[hs,h4];rfl
     rw[hq];simp only[cF,ha,an])
  (λz e=>by
   subst e;refine⟨_,?_,rfl⟩;show dw l (l.length:Int) _=_
   unfold dw;rw[vd (by omega),cF,take_length]) (x:=(0,[])) rfl
 have e1:loop (λz=>dw l z.1 z.2) (0,[])=some (l.filterMap wR):=e1;rw[e1,an]
theorem Gz {e y:uF} (h:xx e=true) (hy:wR e=some y):xx y=true/\y.1=e.1/\y.2.1=e.2.1:=by
 unfold wR at hy;cases hs:e.2.2.2.2 with
 | true=>rw[hs,cT]at hy;cases hy;exact⟨h,rfl,rfl⟩
 | false =>
  rw[hs,cF]at hy;by_cases h4:e.2.2.2.1>=4
  · rw[dT h4,cT]at hy;cases hy
  · rw[dF h4,cF]at hy;cases hy;unfold xx at h ⊢;simp only[aT]at h;obtain⟨f1,f2,f3,f4,f5⟩:=h;obtain⟨g1,g2⟩:=vz f4;refine⟨?_,rfl,rfl⟩;show (uE e.1 1 99&&(uE e.2.1 1 9999&&(uE e.2.2.1 0 7&&(uE (uB (e.2.2.2.1+1)) 0 4&&(!false||_)))))=true
    rw[f1,f2,f3,uX (by omega) (by omega),AH (by omega) (by omega)];rfl
theorem QM {l:List uF} (h:FB l):FB (l.filterMap wR):=by
 refine⟨λx hx=>?_,?_,Nat.le_trans (List.length_filterMap_le _ _) h.n⟩
 · obtain⟨e,he,hy⟩:=List.mem_filterMap.1 hx;exact (Gz (h.e e he) hy).1
 · refine List.pairwise_filterMap.2 ?_;refine List.Pairwise.imp_of_mem ?_ h.o;intro a b ha hb hab x hx y hy;obtain⟨_,a1,a2⟩:=Gz (h.e a ha) hx;obtain⟨_,b1,b2⟩:=Gz (h.e b hb) hy;unfold lt at hab ⊢;rw[a1,a2,b1,b2];exact hab
def IR (b:uz):uz:=(b.1,b.2.1,b.2.2.1,b.2.2.2.1.filterMap wR,b.2.2.2.2.1,b.2.2.2.2.2.1,zo b.2.2.2.2.2.2.1,b.2.2.2.2.2.2.2.1,b.2.2.2.2.2.2.2.2.1,b.2.2.2.2.2.2.2.2.2.1,b.2.2.2.2.2.2.2.2.2.2)
noncomputable def zp (b:uz):uz:=(aM b).getD b
noncomputable def BQ (b:uz):uz:=zp (IR b)
theorem LR {b:uz} (h:yE b) (hv:xI (b.2.2.2.2.1,b.2.2.2.2.2.1) (b.2.2.1.length:Int)=true):aM b=some (zp b)/\vB (zp b)/\(zp b).1=b.1/\(zp b).2.1=b.2.1/\(zp b).2.2.1=b.2.2.1/\(zp b).2.2.2.2.2.2.1=b.2.2.2.2.2.2.1/\(zp b).2.2.2.2.2.2.2.1=b.2.2.2.2.2.2.2.1/\(zp b).2.2.2.2.2.2.2.2.1=b.2.2.2.2.2.2.2.2.1/\(zp b).2.2.2.2.2.2.2.2.2.1=b.2.2.2.2.2.2.2.2.2.1/\(zp b).2.2.2.2.2.2.2.2.2.2=zo b.2.2.2.2.2.2.2.2.2.2:=by
 obtain⟨r,r1,r2,r3,r4,r5,r6,q1,q2,q3,q4,q5,q6,q7⟩:=Pk h;have e:zp b=r:=by unfold zp;rw[r1];rfl
 rw[e];have hok:vk r=true:=r3.ok (by rw[r4,r5,r6];exact hv)
 refine⟨r1,By (Hi r3 r3.le) hok,q1,q2,r4,q3,q4,q5,q6,?_⟩;rw[Dp]at q7;exact (Option.some.inj q7).symm
theorem JI {b:uz} (h:vB b):yE (IR b):=by
 have s:=h.sok;refine⟨s.id,s.name,s.n1,s.n6,s.p,(QM (HC s.f)).ok,?_,s.q,s.v,s.s,s.i,s.h⟩;obtain⟨h1,h2,h3,h4,h5⟩:=yS (Ai h.ok).1;unfold xa;simp only[aT];exact⟨Cy h1,h2,h3,h4,h5⟩
theorem P2 {b:uz} (h:vB b):eS b=some (BQ b)/\vB (BQ b)/\(BQ b).2.1=b.2.1/\(BQ b).2.2.2.2.2.2.2.1=b.2.2.2.2.2.2.2.1/\(BQ b).2.2.2.2.2.2.2.2.1=b.2.2.2.2.2.2.2.2.1/\(BQ b).2.2.2.2.2.2.2.2.2.2=zo b.2.2.2.2.2.2.2.2.2.2:=by
 obtain⟨t1,t2,t3,t4,t5,t6,t7,t8,t9,t10⟩:=LR (JI h) h.v;have hf:=HC h.f
 unfold eS;rw[wl h.le,an,yQ h.w,an,h.ok,cT,Dp,an,Ti (by have:=hf.n;omega),an];have t1':aM (b.1,b.2.1,b.2.2.1,b.2.2.2.1.filterMap wR,b.2.2.2.2.1,b.2.2.2.2.2.1,zo b.2.2.2.2.2.2.1,b.2.2.2.2.2.2.2.1,b.2.2.2.2.2.2.2.2.1,b.2.2.2.2.2.2.2.2.2.1,b.2.2.2.2.2.2.2.2.2.2)=some (zp (IR b)):=t1
 rw[t1',an];exact⟨rfl,t2,t4,t7,t8,t10⟩

theorem vh {α β:Type} {o:Option α} {a:α} {k:α->Option β} {r:Option β} (h:o=some a) (hk:k a=r):o.bind k=r:=by rw[h];exact hk
theorem HU {b:uz} (h:vB b) (p:Int):ct b p=some (uE p 0 ((b.2.2.1.length:Int)-1)):=by
 have hn:=h.n6;unfold ct;rw[yQ h.w,an,h.ok,cT,uX (by omega) (by omega),xU];rfl
theorem JJ {b:uz} (s:yE b) {P:List Pt} (hl:P.length=b.2.2.1.length) (hp:∀x∈P,zl x=true):yE (b.1,b.2.1,P,b.2.2.2.1,b.2.2.2.2.1,b.2.2.2.2.2.1,b.2.2.2.2.2.2.1,b.2.2.2.2.2.2.2.1,b.2.2.2.2.2.2.2.2.1,b.2.2.2.2.2.2.2.2.2.1,b.2.2.2.2.2.2.2.2.2.2) :=
 ⟨s.id,s.name,by show 1<=P.length;rw[hl];exact s.n1,by show P.length<=6;rw[hl];exact s.n6,hp,s.f,s.c,by show b.2.2.2.2.2.1.length=P.length;rw[hl];exact s.q,s.v,s.s,s.i,s.h⟩
theorem Hl {P:List Pt} {k:Nat} {q:Pt} (h:∀x∈P,zl x=true) (hq:zl q=true):∀x∈P.set k q,zl x=true:=λx hx=>by
 rcases mem_or_eq_of_mem_set hx with hx|rfl
 · exact h x hx
 · exact hq
theorem Sd {b:uz} (h:vB b) (p:Int) (up:Bool):∃r,eR b p up=some r/\vB r:=by
 have hn:=h.n6;have s:=h.sok
 unfold eR;rw[wl h.le,an,HU h,an];cases hp:uE p 0 ((b.2.2.1.length:Int)-1)with
 | false=>exact⟨b,rfl,h⟩
 | true =>
  obtain⟨p0,p1⟩:=vz hp;obtain⟨k,rfl⟩:∃k:Nat,p=(k:Int):=⟨p.toNat,by omega⟩;have hk:k<b.2.2.1.length:=by omega
  have hq:zl (up,b.2.2.1[k].2.1,false,0,0,0,0,0)=true:=by
   have:=h.p _ (getElem_mem hk);unfold zl at this ⊢;simp only[aT]at this;rw[this.1];rfl
  have s':=JJ s (P:=b.2.2.1.set k (up,b.2.2.1[k].2.1,false,0,0,0,0,0)) (by rw[length_set]) (Hl h.p hq);obtain⟨t1,t2,_⟩:=LR s' (by show xI (b.2.2.2.2.1,b.2.2.2.2.2.1) ((b.2.2.1.set k _).length:Int)=true;rw[length_set];exact h.v);rw[cT,uO hk,an,xh hk,an,List.getElem?_eq_getElem hk,an];exact⟨_,vh t1 rfl,t2⟩
theorem Se {b:uz} (h:vB b) (p:Int) (v:Ah):∃r,eQ b p v=some r/\vB r:=by
 have hn:=h.n6;have s:=h.sok
 unfold eQ;rw[wl h.le,an,HU h,an];cases hp:uE p 0 ((b.2.2.1.length:Int)-1)with
 | false=>exact⟨b,rfl,h⟩
 | true =>
  obtain⟨p0,p1⟩:=vz hp;obtain⟨k,rfl⟩:∃k:Nat,p=(k:Int):=⟨p.toNat,by omega⟩;have hk:k<b.2.2.1.length:=by omega
  rw[cT,uO hk,an,an];cases hu:b.2.2.1[k].1 with
  | false=>exact⟨b,rfl,h⟩
  | true =>
   rw[cT,M2,an,an];cases hv:DK v with
   | false=>exact⟨b,rfl,h⟩
   | true =>
    have hq:zl (b.2.2.1[k].1,b.2.2.1[k].2.1,true,v.1,v.2.1,v.2.2.1,v.2.2.2.1,v.2.2.2.2)=true:=by
     have:=h.p _ (getElem_mem hk);unfold zl at this ⊢;simp only[aT]at this;rw[this.1,hu];have hv':DK (v.1,v.2.1,v.2.2.1,v.2.2.2.1,v.2.2.2.2)=true:=hv
     simp[hv']
    have s':=JJ s (P:=b.2.2.1.set k (b.2.2.1[k].1,b.2.2.1[k].2.1,true,v.1,v.2.1,v.2.2.1,v.2.2.2.1,v.2.2.2.2)) (by rw[length_set]) (Hl h.p hq);obtain⟨t1,t2,_⟩:=LR s' (by show xI (b.2.2.2.2.1,b.2.2.2.2.2.1) ((b.2.2.1.set k _).length:Int)=true;rw[length_set];exact h.v);rw[cT,xh hk,an,List.getElem?_eq_getElem hk,an,length_set,xh hk,an,List.getElem?_set_self hk,an,set_set];exact⟨_,vh t1 rfl,t2⟩

theorem JK {x:uF} {t m:Int} (h:xB x t m=true):t<x.1\/(t=x.1/\m<x.2.1):=by
 unfold xB at h;simp only[Bool.or_eq_true,aT,decide_eq_true_eq,beq_iff_eq]at h;rcases h with h|⟨h1,h2⟩
 · exact .inl h
 · exact .inr ⟨h1.symm,h2⟩
theorem LS {x:uF} {t m:Int} (h:xB x t m=false) (hs:¬(x.1=t/\x.2.1=m)):x.1<t\/(x.1=t/\x.2.1<m):=by
 have h':¬(x.1>t\/(x.1=t/\x.2.1>m)):=by
  intro hc;have:xB x t m=true:=by
   unfold xB;simp only[Bool.or_eq_true,aT,decide_eq_true_eq,beq_iff_eq];exact hc
  rw[this]at h;cases h
 by_cases h1:x.1<t
 · exact .inl h1
 · have e:x.1=t:=by
    have:¬x.1>t:=λhc=>h' (.inl hc);omega
   refine .inr ⟨e,?_⟩;have:¬x.2.1>m:=λhc=>h' (.inr ⟨e,hc⟩)
   have:x.2.1≠m:=λhc=>hs ⟨e,hc⟩;omega
theorem PY {a b c:uF} (h:lt a b) (k:lt b c):lt a c:=by
 unfold lt at *;omega
theorem DI (l:List uF) (t m:Int):(Ct l t m = -1/\∀x∈l,¬(x.1=t/\x.2.1=m))\/∃k,∃hk:k<l.length,Ct l t m=(k:Int)/\l[k].1=t/\l[k].2.1=m:=by
 unfold Ct;cases h:l.findIdx? (λe=>e.1==t&&e.2.1==m)with
 | none =>
  refine .inl ⟨rfl,λx hx hc=>?_⟩;have:=List.findIdx?_eq_none_iff.1 h x hx
  rw[hc.1,hc.2]at this;simp at this
 | some k =>
  obtain⟨hk,h1,_⟩:=List.findIdx?_eq_some_iff_getElem.1 h;simp only[aT,beq_iff_eq]at h1;exact .inr ⟨k,hk,rfl,h1.1,h1.2⟩
theorem Tj {l:List uF} (h:FB l) {e:uF} (he:xx e=true):∃y,gm l e=some y/\FB y.1:=by
 have hn:=h.n;have hM:M=1048576:=rfl
 unfold gm;rw[FY (by omega),an,Hz (by omega),an];rcases DI l e.1 e.2.1 with ⟨h1,h2⟩|⟨k,hk,h1,h2,h3⟩
 · rw[h1,dF (by decide),cF];by_cases h12:(l.length:Int)>=12
   · rw[dT h12,cT];exact⟨_,rfl,h⟩
   · rw[dF h12,cF];obtain⟨d,d1,k,d2,d3,d4,d5⟩:=uS (step:=λz:Int=>eJ l e z) (λk z=>z=(k:Int)/\∀x∈l.take k,xB x e.1 e.2.1=false) l.length (λd=>∃k:Nat,d=(k:Int)/\k<=l.length/\(∀x∈l.take k,xB x e.1 e.2.1=false)/\∀hk:k<l.length,xB l[k] e.1 e.2.1=true)
      (λk z hk ⟨e1,e2⟩=>by
       subst e1;have hst:∀q,xB l[k] e.1 e.2.1=q->eJ l e (k:Int)=cond (!q) (some (.inl ((k+1:Nat):Int))) (some (.inr (k:Int))):=λq hq=>by
        unfold eJ;rw[vj (by omega),cT,uO hk,an,KK,an,an,hq,uL (by omega)]
       cases hq:xB l[k] e.1 e.2.1 with
       | true=>exact .inr ⟨_,hst true hq,k,rfl,by omega,e2,λ_=>hq⟩
       | false =>
        refine .inl ⟨_,hst false hq,rfl,λx hx=>?_⟩;rw[take_add_one,List.getElem?_eq_getElem hk]at hx;rcases mem_append.1 hx with hx|hx
        · exact e2 x hx
        · simp at hx;rw[hx];exact hq)
      (λz ⟨e1,e2⟩=>by
       subst e1;refine⟨_,?_,l.length,rfl,Nat.le_refl _,e2,λhk=>absurd hk (by omega)⟩;show eJ l e (l.length:Int)=_
       unfold eJ;rw[vd (by omega),cF,an,cF]) (x:=0) ⟨rfl,by simp⟩
     subst d2;have c1:cut l 0 (k:Int)=some (l.take k):=by
      have:=xR (l:=l) (a:=0) (b:=k) (by omega) d3;simpa using this
     have c2:cut l (k:Int) (l.length:Int)=some (l.drop k):=by
      have:=xR (l:=l) (a:=k) (b:=l.length) d3 (Nat.le_refl _);rw[take_length]at this;exact this
     have hl1:(l.take k).length<=12:=by rw[length_take];omega
     have hl2:(l.drop k).length<=12:=by rw[length_drop];omega
     refine⟨_,vh d1 (by rw[c1,an,FY (by omega),an,uG (by show (l.take k).length+1<=_;omega),an,c2,an,uG (by rw[length_append];show (l.take k).length+1+(l.drop k).length<=_;omega),an]),?_⟩;refine⟨λx hx=>?_,?_,?_⟩
     · rcases mem_append.1 hx with hx|hx
       · rcases mem_append.1 hx with hx|hx
         · exact h.e x (mem_of_mem_take hx)
         · rw[mem_singleton.1 hx];exact he
       · exact h.e x (List.mem_of_mem_drop hx)
     · have ho:=h.o;rw[←List.take_append_drop k l]at ho;obtain⟨o1,o2,o3⟩:=pairwise_append.1 ho;have a1:∀x∈l.take k,lt x e:=λx hx=>LS (d4 x hx) (h2 x (mem_of_mem_take hx))
       have a2:∀y∈l.drop k,lt e y:=λy hy=>by
        obtain⟨j,hj,rfl⟩:=List.getElem_of_mem hy;rw[length_drop]at hj;have hk:k<l.length:=by omega
        have hb:lt e l[k]:=JK (d5 hk);rw[List.getElem_drop];rcases Nat.eq_zero_or_pos j with rfl|hj0
        · simpa using hb
        · exact PY hb (pairwise_iff_getElem.1 h.o k (k+j) hk (by omega) (by omega))
       refine pairwise_append.2 ⟨pairwise_append.2 ⟨o1,List.pairwise_singleton _ _,λx hx y hy=>by rw[mem_singleton.1 hy];exact a1 x hx⟩,o2,λx hx y hy=>?_⟩;rcases mem_append.1 hx with hx|hx
       · exact o3 x hx y hy
       · rw[mem_singleton.1 hx];exact a2 y hy
     · simp only[length_append,length_take,length_drop,length_singleton];omega
 · rw[h1,dT (by omega),cT,xh hk,an,List.getElem?_eq_getElem hk,an];refine⟨_,rfl,λx hx=>?_,?_,by show (l.set k e).length<=12;rw[length_set];exact hn⟩
   · rcases mem_or_eq_of_mem_set hx with hx|rfl
     · exact h.e x hx
     · exact he
   · have ho:=pairwise_iff_getElem.1 h.o;refine pairwise_iff_getElem.2 λi j hi hj hij=>?_;rw[length_set]at hi hj;have:=ho i j hi hj hij
     simp only[List.getElem_set];unfold lt at this ⊢;split<;>split<;>rename_i q1 q2<;>(try subst q1)<;>(try subst q2)<;>omega
theorem QN {l:List uF} (h:FB l) (tag mac port:Int):∃y,iG l tag mac port=some y/\FB y:=by
 have hn:=h.n;have hM:M=1048576:=rfl
 unfold iG;rw[Hz (by omega),an,Rb (by omega),an,h.ok,Bool.not_true,cF,IS,an,an];have hc:∃y,((ch l).bind λt41=>some t41)=some y/\FB y:=⟨l,by rw[FY (by omega)];rfl,h⟩
 cases he:xx (tag,mac,port,0,false)with
 | false=>exact hc
 | true =>
  have hp:∃y,((gm l (tag,mac,port,0,false)).bind λt45=>some t45.1)=some y/\FB y:=by
   obtain⟨y,y1,y2⟩:=Tj h he;exact⟨y.1,by rw[y1];rfl,y2⟩
  rw[Bool.not_true,cF];rcases DI l tag mac with ⟨h1,_⟩|⟨k,hk,h1,_⟩
  · rw[h1,dF (by decide),cF,an,an,cF];exact hp
  · rw[h1,dT (by omega),cT,uO hk,an,an,an];cases l[k].2.2.2.2 with
    | true=>exact hc
    | false=>exact hp

def Hm (f:zi):Bool:=uE f.1 0 9999&&(uE f.2.1 1 9999&&(uE f.2.2.1 0 99&&decide ((f.2.2.2.length:Int)<=20)))
theorem QO (f:zi):iE f=some (Hm f):=by
 unfold iE Hm;simp only[xU,an];cases uE f.1 0 9999<;>cases uE f.2.1 1 9999<;>cases uE f.2.2.1 0 99<;>rfl
theorem GA (l:List uQ) (id:Int):(wP l id<0)\/∃k,∃hk:k<l.length,wP l id=(k:Int):=by
 by_cases h:wP l id<0
 · exact .inl h
 · obtain⟨k,hk,e,_⟩:=Bw (l:=l) (id:=id) (by omega);exact .inr ⟨k,hk,e⟩
theorem N7 {v:vv} (h1:v.1.length<=6) (h2:v.2.length<=6) {k:Nat} (hk:k<6) (id:Int):∃t,((aj v id).bind λt27=>(cond (decide (t27<0)) (some true) ((at? v.1 t27).bind λx34=>(ba x34.2.1 (k:Int)).bind λt38=>some (!t38))).bind λt40=>cond t40 (some ((0:Int),false)) (some (id,true)))=some t:=by
 rw[C2 (by omega),an];rcases GA v.1 id with h|⟨j,hj,e⟩
 · rw[dT h,cT,an,cT];exact⟨_,rfl⟩
 · obtain⟨t,ht,_⟩:=JX v.1[j].2.1 hk;rw[e,dF (by omega),cF,uO hj,an,ht,an,an];cases t<;>exact⟨_,rfl⟩
theorem QP {v:vv} (h1:v.1.length<=6) (h2:v.2.length<=6) {k:Nat} (hk:k<v.2.length) (tag:Int):∃t,iF v (k:Int) tag=some t:=by
 unfold iF;rw[uX (by omega) (by omega),xU,an,AH (by omega) (by omega),Bool.not_true,cF];cases tag==0 with
 | true=>rw[cT,uO hk,an];exact N7 h1 h2 (by omega) _
 | false=>rw[cF];exact N7 h1 h2 (by omega) _
theorem PZ {v:vv} (h1:v.1.length<=6) (id:Int):∃t,eK v id=some t:=by
 unfold eK;rw[C2 (by omega),an];rcases GA v.1 id with h|⟨j,hj,e⟩
 · rw[dT h,cT];exact⟨_,rfl⟩
 · rw[e,dF (by omega),cF,uO hj,an];exact⟨_,rfl⟩
theorem QQ {v:vv} (h1:v.1.length<=6) (id:Int) {k:Nat} (hk:k<6):∃t,eM v id (k:Int)=some t:=by
 unfold eM;rw[C2 (by omega),an];rcases GA v.1 id with h|⟨j,hj,e⟩
 · rw[dT h,cT,an,cT];exact⟨_,rfl⟩
 · obtain⟨t,ht,_⟩:=JX v.1[j].2.2 hk;rw[e,dF (by omega),cF,uO hj,an,ht,an,an];cases t<;>exact⟨_,rfl⟩
theorem Sg {l:List uF} (h:l.length<=12) (tag mac:Int):∃t,iH l tag mac=some t:=by
 unfold iH;rw[Hz (by omega),an];rcases DI l tag mac with ⟨h1,_⟩|⟨k,hk,h1,_⟩
 · rw[h1];exact⟨_,rfl⟩
 · rw[h1,dF (by omega),cF,uO hk,an];exact⟨_,rfl⟩
theorem Tk {f:zi} (h:f.2.2.2.length<=20) (t:Int):eL f t=some (f.1,f.2.1,t,f.2.2.2):=by
 unfold eL;rw[Am (by show _<=1048576;omega)];rfl
theorem QR {b:uz} (h:vB b) (i:Int) {f:zi} (hf:f.2.2.2.length<=20) (c:Int) (cl:Int×Bool) (q:Int->Option Bool) (hq:∀k,∃t,q k=some t) {k:Nat} (hk:k<b.2.2.1.length) {out:List vZ} (ho:out.length<=10) :
 ∃o:List vZ,o.length<=out.length+1/\(((cond ((k:Int) != i) ((eK (b.2.2.2.2.1,b.2.2.2.2.2.1) cl.1).bind λt89=>(ba (xO .i64 c t89) (k:Int)).bind λt92=>some t92) (some false)).bind λt93 =>
  (cond t93 ((q (k:Int)).bind λt101=>some t101) (some false)).bind λt102 =>
  cond t102 ((eM (b.2.2.2.2.1,b.2.2.2.2.2.1) cl.1 (k:Int)).bind λt110=>(eL f t110).bind λt111=>(uV out [((k:Int),t111.1,t111.2.1,t111.2.2.1,t111.2.2.2)]).bind λzs114=>some (.inl (uB ((k:Int)+1),zs114)))
   (some (.inl (uB ((k:Int)+1),out)))):Option ((Int×List vZ)⊕List vZ))=some (.inl (((k+1:Nat):Int),o)):=by
 have s:=h.sok;have hv:=s.v
 have hn:=h.n6;obtain⟨e,he⟩:=PZ (v:=(b.2.2.2.2.1,b.2.2.2.2.2.1)) hv cl.1;obtain⟨t,ht,_⟩:=JX (xO .i64 c e) (k:=k) (by omega);obtain⟨u,hu⟩:=hq (k:Int);obtain⟨g,hg⟩:=QQ (v:=(b.2.2.2.2.1,b.2.2.2.2.2.1)) hv cl.1 (k:=k) (by omega);have no:∃o:List vZ,o.length<=out.length+1/\(some (.inl (uB ((k:Int)+1),out)):Option ((Int×List vZ)⊕List vZ))=some (.inl (((k+1:Nat):Int),o)):=⟨out,by omega,by rw[uL (by omega)]⟩
 rw[uL (by omega)]at no ⊢;rw[he,an,ht,an,hu,an,hg,an,Tk hf,an,uG (by show out.length+1<=_;omega),an];cases (k:Int) != i<;>cases t<;>cases u<;>first|exact no|exact⟨_,by rw[length_append];exact Nat.le_refl _,rfl⟩
theorem KE {b:uz} (hn:b.2.2.1.length<=6) (step:Int×List vZ->Option ((Int×List vZ)⊕List vZ))
 (hs:∀(k:Nat) (out:List vZ),k<b.2.2.1.length->out.length<=10->∃o:List vZ,o.length<=out.length+1/\step ((k:Int),out)=some (.inl (((k+1:Nat):Int),o)))
 (he:∀out:List vZ,step ((b.2.2.1.length:Int),out)=some (.inr out)):∃o:List vZ,loop step (0,[])=some o/\o.length<=6:=by
 obtain⟨v,h1,h2⟩:=uS (step:=step) (λk z=>z.1=(k:Int)/\z.2.length<=k) b.2.2.1.length (λv=>v.length<=6)
  (λk z hk ⟨e1,e2⟩=>by
   obtain⟨i,out⟩:=z;simp only at e1 e2;subst e1;obtain⟨o,o1,o2⟩:=hs k out hk (by omega);exact .inl ⟨_,o2,rfl,by show o.length<=k+1;omega⟩)
  (λz ⟨e1,e2⟩=>by
   obtain⟨i,out⟩:=z;simp only at e1 e2;subst e1;exact⟨out,he out,by omega⟩) (x:=(0,[])) ⟨rfl,Nat.le_refl _⟩
 exact⟨v,h1,h2⟩
theorem N8 {b:uz} (s:yE b) {F:List uF} (hF:FB F) {d v:Int} (hd:uE d 0 1000000=true) (hv:uE v 0 1000000=true):yE (b.1,b.2.1,b.2.2.1,F,b.2.2.2.2.1,b.2.2.2.2.2.1,b.2.2.2.2.2.2.1,b.2.2.2.2.2.2.2.1,b.2.2.2.2.2.2.2.2.1,d,v):=by
 refine⟨s.id,s.name,s.n1,s.n6,s.p,hF.ok,?_,s.q,s.v,s.s,s.i,s.h⟩;obtain⟨q1,q2,q3,q4,q5⟩:=yS s.c;unfold xa;simp only[aT];exact⟨q1,q2,q3,hd,hv⟩
theorem P3 {a:uN} (h:we a) {b:uz} (hb:vB b):we (vU b (aW a) (uD a) (vM a) (va a)):=⟨hb,h.w,h.n,h.lo,h.la,h.ids,h.up,h.j⟩
theorem zB {b:List Int} (t:Int) {body:List Int} (hb:b.length<=1200) (hn:body.length<=M):ar b t body=some (b++if uE t 0 255=true/\body.length<=250 then vE t body else []):=by
 have hM:M=1048576:=rfl;unfold ar;rw[yb (by omega),an,Al,an];cases hp:uE t 0 255 with
 | false=>rw[Bool.not_false,cT,an,cT,if_neg (λh=>by cases h.1),append_nil]
 | true =>
  rw[Bool.not_true,cF,an];by_cases h250:body.length<=250
  · have hw:IntKind.u8.wrap t=t:=by obtain⟨a,c⟩:=vz hp;rw[w8];omega
    have hl:IntKind.u8.wrap ((body.length:Int))=(body.length:Int):=by rw[w8];omega
    rw[dF (by omega),cF,hw,hl,if_pos ⟨rfl,h250⟩,uG (by show b.length+1<=_;omega),an];by_cases h127:(body.length:Int)>127
    · rw[dT h127,cT,uG (by rw[length_append];show b.length+1+1<=_;omega),an,uG (by simp only[length_append,length_singleton];omega),an,uG (by simp only[length_append,length_singleton];omega),an];unfold vE;rw[if_pos (by omega)];simp
    · rw[dF h127,cF,uG (by simp only[length_append,length_singleton];omega),an,uG (by simp only[length_append,length_singleton];omega),an];unfold vE;rw[if_neg (by omega)];simp
  · rw[dT (by omega),cT,if_neg (λh=>h250 h.2),append_nil]
theorem KF {o:List Int} (h:y8 o=true):fp o=some (vp o):=by
 obtain⟨o1,o2,o3⟩:=zC h;have hM:M=1048576:=rfl
 unfold fp;rw[JV,EI (by omega),an,h,Bool.not_true,cF];obtain⟨v,e1,rfl⟩:=uS (step:=λz:Int×List Int=>cK o z.1 z.2) (λk z=>z=((k:Int),vp (o.take k))) o.length (λv=>v=vp o)
  (λk z hk e=>by
   subst e;have hx:=o3 _ (getElem_mem hk)
   have hl:(vp (o.take k)).length<=3*(o.take k).length:=Aq λx hx=>(o3 x (mem_of_mem_take hx)).2;rw[length_take]at hl;have hg:=I2 o[k]
   refine .inl ⟨_,?_,rfl⟩;show cK o (k:Int) _=_
   unfold cK;rw[vj (by omega),cT,uO hk,an,OR ⟨hx.1,by omega⟩,an,uG (by show (vp (o.take k)).length+(grp o[k]).length<=_;omega),an,uL (by omega),take_add_one,List.getElem?_eq_getElem hk];unfold vp;rw[List.flatMap_append];simp)
  (λz e=>by
   subst e;refine⟨_,?_,rfl⟩;show cK o (o.length:Int) _=_
   unfold cK;rw[vd (by omega),cF,take_length]) (x:=(0,[])) rfl
 have e1:loop (λz=>cK o z.1 z.2) (0,([]:List Int))=some (vp o):=e1;rw[e1];rfl
theorem Q0 {b:List Int} (hb:b.length<=1000) {v:yj} (h:yo v=true):gC b v=some (b++vE v.1 (xf v)):=by
 have hM:M=1048576:=rfl;obtain⟨l1,l2⟩:=D3 h;have hk:uE v.1 0 255=true:=by
  unfold yo at h;by_cases c1:(v.1==5||(v.1==128||v.1==130))=true
  · simp only[Bool.or_eq_true,beq_iff_eq]at c1;rcases c1 with c|c|c<;>rw[c]<;>rfl
  · rw[show (v.1==5||(v.1==128||v.1==130))=false by simpa using c1,cF]at h;by_cases c2:v.1=2
    · rw[c2];rfl
    · rw[beq_eq_false_iff_ne.2 c2,cF]at h;by_cases c4:v.1=4
      · rw[c4];rfl
      · rw[beq_eq_false_iff_ne.2 c4,cF]at h;by_cases c6:v.1=6
        · rw[c6];rfl
        · rw[beq_eq_false_iff_ne.2 c6,cF]at h;cases h
 have fin:∀body,xf v=body->ar b v.1 body=some (b++vE v.1 (xf v)):=λbody e=>by
  subst e;rw[zB _ (by omega) (by omega),if_pos ⟨hk,by omega⟩]
 have ho6:v.2.2.2.length<=M:=by
  unfold yo at h;by_cases c6:v.1=6
  · rw[c6]at h;simp only[show ((6:Int)==5)=false from rfl,show ((6:Int)==128)=false from rfl,show ((6:Int)==130)=false from rfl,Bool.or_self,cF,show ((6:Int)==2)=false from rfl,show ((6:Int)==4)=false from rfl,show ((6:Int)==6)=true from rfl,cT,aT]at h;have:=I5 h.1
    omega
  · have:v.2.2.2.length=0:=by
     revert h
     cases (v.1==5||(v.1==128||v.1==130))with
     | true=>intro h;simp only[cT,aT,beq_iff_eq]at h;omega
     | false =>
      rw[cF];cases (v.1==2)with
      | true=>intro h;simp only[cT,aT,beq_iff_eq]at h;omega
      | false =>
       rw[cF];cases (v.1==4)with
       | true=>intro h;simp only[cT,aT,beq_iff_eq]at h;omega
       | false=>intro h;rw[cF,beq_eq_false_iff_ne.2 c6]at h;cases h
    omega
 unfold gC;rw[HZ ho6,an,h,Bool.not_true,cF];by_cases h2:v.1=2
 · have e:xf v=vY v.2.1:=by unfold xf;rw[beq_iff_eq.2 h2];rfl
   have hr:-2147483648<=v.2.1/\v.2.1<=2147483647:=by
    unfold yo at h;rw[h2]at h;simp only[show ((2:Int)==5)=false from rfl,show ((2:Int)==128)=false from rfl,show ((2:Int)==130)=false from rfl,Bool.or_self,cF,show ((2:Int)==2)=true from rfl,cT,aT]at h;exact vz h.1
   rw[beq_iff_eq.2 h2,cT,CA,an,Bb hr,fin _ e];rfl
 rw[beq_eq_false_iff_ne.2 h2,cF];by_cases h4:v.1=4
 · have e:xf v=xr v.2.2.1:=by unfold xf;rw[beq_eq_false_iff_ne.2 h2,beq_iff_eq.2 h4];rfl
   rw[beq_iff_eq.2 h4,cT,fin _ e];rfl
 rw[beq_eq_false_iff_ne.2 h4,cF];by_cases h6:v.1=6
 · have e:xf v=vp v.2.2.2:=by unfold xf;rw[beq_eq_false_iff_ne.2 h2,beq_eq_false_iff_ne.2 h4,beq_iff_eq.2 h6];rfl
   have ho:y8 v.2.2.2=true:=by
    unfold yo at h;rw[h6]at h;simp only[show ((6:Int)==5)=false from rfl,show ((6:Int)==128)=false from rfl,show ((6:Int)==130)=false from rfl,Bool.or_self,cF,show ((6:Int)==2)=false from rfl,show ((6:Int)==4)=false from rfl,show ((6:Int)==6)=true from rfl,cT,aT]at h;exact h.1
   rw[beq_iff_eq.2 h6,cT,KF ho,an,fin _ e];rfl
 · have e:xf v=[]:=by unfold xf;rw[beq_eq_false_iff_ne.2 h2,beq_eq_false_iff_ne.2 h4,beq_eq_false_iff_ne.2 h6];rfl
   rw[beq_eq_false_iff_ne.2 h6,cF,fin _ e];rfl
theorem QS {l:List uC} (hx:∀x∈l,yD x=true) (hn:l.length<=10):gD l=some (vC l):=by
 have hM:M=1048576:=rfl;have hlen:∀k,(vC (l.take k)).length<=110*k:=λk=>by
  induction k with
  | zero=>simp[vC]
  | succ k ih =>
   rw[take_add_one];unfold vC at ih ⊢;rw[List.flatMap_append,length_append];cases hk:l[k]? with
   | none=>show (List.flatMap A5 (l.take k)).length+0<=_;omega
   | some x =>
    have:=(C3 (hx x (List.mem_of_getElem? hk))).2;show (List.flatMap A5 (l.take k)).length+(A5 x++[]).length<=_
    rw[append_nil];omega
 unfold gD;obtain⟨v,e1,rfl⟩:=uS (step:=λz:Int×List Int=>cL l z.1 z.2) (λk z=>z=((k:Int),vC (l.take k))) l.length (λv=>v=vC l)
  (λk z hk e=>by
   subst e;have hxk:=hx _ (getElem_mem hk)
   have hl:=hlen k;obtain⟨b1,b2⟩:=C3 hxk;have hxk':=hxk
   unfold yD at hxk';rw[aT]at hxk';obtain⟨o1,o2,o3⟩:=zC hxk'.1;have ho:=Aq (o:=l[k].1) λy hy=>(o3 y hy).2
   have ht:=wA 6 (body:=vp l[k].1);refine .inl ⟨_,?_,rfl⟩;show cL l (k:Int) _=_
   unfold cL;rw[vj (by omega),cT,uO hk,an,KF hxk'.1,an,zB _ (by simp) (by omega),if_pos ⟨by decide,by omega⟩,an,an,nil_append,Q0 (by omega) hxk'.2,an,zB _ (by show (vC (l.take k)).length<=1200;omega) (by show (Cb l[k]).length<=_;omega),if_pos ⟨by decide,by show (Cb l[k]).length<=250;omega⟩,an,uL (by omega),take_add_one,List.getElem?_eq_getElem hk];unfold vC;rw[List.flatMap_append];simp[A5,Cb])
  (λz e=>by
   subst e;refine⟨_,?_,rfl⟩;show cL l (l.length:Int) _=_
   unfold cL;rw[vd (by omega),cF,take_length]) (x:=(0,[])) rfl
 have e1:loop (λz=>cL l z.1 z.2) (0,([]:List Int))=some (vC l):=e1;rw[e1];rfl
theorem KG {p:v9} (hp:xi M p):fq p=some (zD p):=by
 have hM:M=1048576:=rfl;unfold fq zD;rw[Mg hp,an];cases hk:wG p with
 | false=>rw[Bool.not_false,cT,if_neg (λh=>by cases h.1)]
 | true =>
  obtain⟨k1,k2,k3,k4,k5,k6⟩:=xK hk;have i1:=xv p.2.1
  have i2:=xv p.2.2.1;have i3:=xv p.2.2.2.1
  have t1:=wA 2 (body:=vY p.2.1);have t2:=wA 2 (body:=vY p.2.2.1)
  have t3:=wA 2 (body:=vY p.2.2.2.1);rw[Bool.not_true,cF];unfold iZ;rw[QS k1 k2,an];by_cases ha:(vC p.2.2.2.2).length<=250
  · rw[dF (by omega),cF,CA,an,Bb k4,zB _ (by simp) (by omega),if_pos ⟨by decide,by omega⟩,an,CA,an,Bb (by omega),zB _ (by simp only[nil_append];omega) (by omega),if_pos ⟨by decide,by omega⟩,an,CA,an,Bb (by omega),zB _ (by simp only[nil_append,length_append];omega) (by omega),if_pos ⟨by decide,by omega⟩,an,zB _ (by simp only[nil_append,length_append];omega) (by omega),if_pos ⟨by decide,ha⟩,an];have eb:([]++vE 2 (vY p.2.1)++vE 2 (vY p.2.2.1)++vE 2 (vY p.2.2.2.1)++vE 48 (vC p.2.2.2.2))=y9 p:=by unfold y9;simp
    rw[eb];have t4:=wA 48 (body:=vC p.2.2.2.2)
    have hbl:(y9 p).length<=400:=by unfold y9;simp only[length_append];omega
    by_cases hb:(y9 p).length<=250
    · simp only[an,dT (show ((y9 p).length:Int)<=250 by omega),Bool.not_true,cF];rw[zB _ (by simp) (by omega),if_pos ⟨k3,hb⟩,if_pos ⟨trivial,ha,hb⟩,an,nil_append]
    · simp only[an,dF (show ¬((y9 p).length:Int)<=250 by omega),Bool.not_false,cT];rw[if_neg (λh=>hb h.2.2)]
  · rw[dT (by omega),cT,an,Bool.not_false,cT,if_neg (λh=>ha h.2.1)]
theorem Ba (w:List UInt8) {p:v9} (hp:xi M p):cU w p=some (FA w p):=by
 have hM:M=1048576:=rfl;have hpl:=PQ p
 unfold cU FA;rw[KG hp,an];by_cases h0:(zD p).length=0
 · rw[if_pos (Or.inl h0),show ((((zD p).length:Nat):Int)==0)=true by rw[h0];rfl];rfl
 · rw[beq_eq_false_iff_ne.2 (show (((zD p).length:Nat):Int)≠0 by omega),cF,an];by_cases hw:20<w.length
   · rw[if_pos (Or.inr hw),dT (by omega)];rfl
   · have hwl:(xr w).length=w.length:=by unfold xr;rw[length_map]
     have hi1:=xv 1;have ht1:=wA 2 (body:=vY 1)
     have ht2:=wA 4 (body:=xr w);have hhd:(CV w).length<=40:=by unfold CV;rw[length_append];omega
     rw[if_neg (by omega),dF (by omega),cF,CA,an,Bb (by omega),zB _ (by simp) (by omega),if_pos ⟨by decide,by omega⟩,an,nil_append,zB _ (by omega) (by omega),if_pos ⟨by decide,by omega⟩,an];show ((uV (CV w) (zD p)).bind _)=_
     rw[uG (by omega),an];by_cases hb:(CV w++zD p).length<=250
     · rw[dF (by omega),cF,zB _ (by simp) (by omega),if_pos ⟨by decide,hb⟩,if_pos hb];rfl
     · rw[dT (by omega),cT,if_neg hb]

theorem QT {α:Type} {P:α->Prop} {draw:uM->Option (uM×α)} (hd:∀c,CW c->Dr P (draw c)) {n:Nat} (hn:n<=1000) (step:Int×List Int×Int×Int×List α->Option ((Int×List Int×Int×Int×List α)⊕(List Int×Int×Int×List α)))
 (hs:∀(i:Int) (c0:List Int) (c1 c2:Int) (out:List α),i>0->step (i,c0,c1,c2,out)=(draw (c0,c1,c2)).bind λt=>(uV out [t.2]).bind λzs=>some (.inl (uB (i-1),t.1.1,t.1.2.1,t.1.2.2,zs)))
 (he:∀(i:Int) (c0:List Int) (c1 c2:Int) (out:List α),¬i>0->step (i,c0,c1,c2,out)=some (.inr (c0,c1,c2,out))) {c:uM} (hc:CW c) :
 ∃d,loop step ((n:Int),c.1,c.2.1,c.2.2,[])=some d/\CW (d.1,d.2.1,d.2.2.1)/\d.2.2.2.length=n/\∀x∈d.2.2.2,P x:=by
 obtain⟨d,d1,d2⟩:=uS (step:=step)
  (λi z=>z.1=((n-i:Nat):Int)/\CW (z.2.1,z.2.2.1,z.2.2.2.1)/\z.2.2.2.2.length=i/\∀x∈z.2.2.2.2,P x) n
  (λd=>CW (d.1,d.2.1,d.2.2.1)/\d.2.2.2.length=n/\∀x∈d.2.2.2,P x)
  (λi z hi ⟨z1,z2,z3,z4⟩=>by
   obtain⟨j,c0,c1,c2,out⟩:=z;simp only at z1 z2 z3 z4;subst z1 z3;obtain⟨c',x,x1,x2,x3⟩:=hd _ z2;refine .inl ⟨_,by rw[hs _ _ _ _ _ (by omega),x1,an,uG (by show _+1<=_;omega),an],?_,x2,by simp,?_⟩
   · show uB (((n-out.length:Nat):Int)-1)=_;rw[uX (by omega) (by omega)];omega
   · intro y hy;rcases mem_append.1 hy with hy|hy
     · exact z4 y hy
     · rw[mem_singleton]at hy;subst hy;exact x3)
  (λz ⟨z1,z2,z3,z4⟩=>by
   obtain⟨j,c0,c1,c2,out⟩:=z;simp only at z1 z2 z3 z4;rw[Nat.sub_self]at z1;subst z1;exact⟨(c0,c1,c2,out),he _ _ _ _ _ (by decide),z2,z3,z4⟩) (x:=((n:Int),c.1,c.2.1,c.2.2,[])) ⟨rfl,hc,rfl,by simp⟩
 exact⟨d,d1,d2⟩
def JL (m:List Int):Prop:=wJ m/\m.length<=1000
theorem N9 {c:uM} (h:CW c) {m:List Int} (hm:wJ m) (hl:m.length<=900):Dr JL (gY c m):=by
 have no:∀c,CW c->Dr JL (some (c,m)):=λc hc=>Dr.some hc ⟨hm,by omega⟩;unfold gY;by_cases h0:(m.length:Int)=0
 · rw[beq_iff_eq.2 h0,cT];exact no c h
 rw[beq_eq_false_iff_ne.2 h0,cF];refine Dr.bind (wq h 5) λc t hc _=>?_;refine Dr.cond ?_ (Dr.cond ?_ (Dr.cond ?_ (no c hc)))
 · obtain⟨c1,k,e1,w1,hk⟩:=wI hc (n:=m.length) (by omega);rw[e1,an];refine Dr.bind (AE w1 (by decide)) λc x hc hx=>?_;rw[xh hk,an,List.getElem?_eq_getElem hk,an];refine Dr.some hc ⟨λy hy=>?_,by rw[length_set];omega⟩;rcases mem_or_eq_of_mem_set hy with hy|rfl
   · exact hm y hy
   · show 0<=IntKind.u8.wrap x/\IntKind.u8.wrap x<=255;rw[w8];omega
 · rw[uG (by show m.length+1<=_;omega),an];refine Dr.some hc ⟨B9 hm (λy hy=>by rw[mem_singleton.1 hy];decide),by rw[length_append];show m.length+1<=1000;omega⟩
 · obtain⟨c1,k,e1,w1,hk⟩:=wI hc (n:=m.length) (by omega);have hx:wO m.length 0 (k:Int)=some (0,k):=BH (a:=0) (Nat.zero_le _) (by omega)
   rw[e1,an];simp only;rw[hx,an];refine Dr.some w1 ⟨λy hy=>hm y (mem_of_mem_take (List.mem_of_mem_drop hy)),?_⟩;rw[length_drop,length_take];show min k m.length-0<=1000;omega
theorem Q1 {c:uM} (h:CW c) {n:Int} (h0:0<=n/\n<=1000):Dr (λ_:List Int=>True) (fE c n):=by
 obtain⟨k,rfl⟩:∃k:Nat,n=(k:Int):=⟨n.toNat,by omega⟩;unfold fE;obtain⟨d,d1,d2⟩:=uS (step:=λz:Int×List Int×Int×Int×List Int=>cV (k:Int) z.1 z.2.1 z.2.2.1 z.2.2.2.1 z.2.2.2.2)
  (λi z=>z.1=(i:Int)/\CW (z.2.1,z.2.2.1,z.2.2.2.1)/\z.2.2.2.2.length=i) k
  (λd=>CW (d.1,d.2.1,d.2.2.1))
  (λi z hi ⟨z1,z2,z3⟩=>by
   obtain⟨j,c0,c1,c2,out⟩:=z;simp only at z1 z2 z3;subst z1;obtain⟨c',x,x1,x2,_⟩:=Hu z2;refine .inl ⟨_,by
    show cV (k:Int) _ _ _ _ _=_;unfold cV;rw[vj (by omega),cT,x1,an,uG (by show _+1<=_;omega),an],?_,x2,by simp[z3]⟩
   exact uL (by omega))
  (λz ⟨z1,z2,z3⟩=>by
   obtain⟨j,c0,c1,c2,out⟩:=z;simp only at z1 z2 z3;subst z1;refine⟨(c0,c1,c2,out),?_,z2⟩;show cV (k:Int) _ _ _ _ _=_
   unfold cV;rw[vd (by omega),cF]) (x:=(0,c.1,c.2.1,c.2.2,[])) ⟨rfl,h,rfl⟩
 show Dr _ ((loop (λz:Int×List Int×Int×Int×List Int=>cV (k:Int) z.1 z.2.1 z.2.2.1 z.2.2.2.1 z.2.2.2.2) (0,c.1,c.2.1,c.2.2,[])).bind _);rw[d1,an];exact Dr.some d2 trivial
theorem Q2 {c:uM} (h:CW c):Dr (λ_:zi=>True) (hP c):=by
 unfold hP;refine Dr.bind (AE h (by decide)) λc x hc _=>?_;obtain⟨c1,y,e1,w1⟩:=JS hc;rw[e1,an];refine Dr.bind (AE w1 (by decide)) λc z hc _=>?_;unfold jg;have:Dr (λ_:List Int=>True) ((af c ([0,1,2,5,9]:List Int)).bind λt6=>(fE t6.1 t6.2).bind λt7=>some t7):=by
  refine Dr.bind (AE hc (by decide)) λc u hc hu=>?_;have hu:u=0\/u=1\/u=2\/u=5\/u=9:=by simpa using hu
  exact Dr.bind (Q1 hc (by omega)) λc v hc _=>Dr.some hc trivial
 exact Dr.bind this λc v hc _=>Dr.some hc trivial

theorem Ok {c:uM} (h:CW c) {n:Nat} (hn:n<=1000) (k i a b:Int):Dr (λp:v9=>p.2.2.2.2.length=n/\∀x∈p.2.2.2.2,Ao x) ((loop (λz:Int×List Int×Int×Int×Int×Int×Int×Int×List uC=>cR z.1 z.2.1 z.2.2.1 z.2.2.2.1 z.2.2.2.2.1 z.2.2.2.2.2.1 z.2.2.2.2.2.2.1 z.2.2.2.2.2.2.2.1 z.2.2.2.2.2.2.2.2) ((n:Int),c.1,c.2.1,c.2.2,k,i,a,b,[])).bind λd=>some ((d.1,d.2.1,d.2.2.1),d.2.2.2)):=by
 obtain⟨d,d1,d2,d3,d4⟩:=uS (step:=λz:Int×List Int×Int×Int×Int×Int×Int×Int×List uC=>cR z.1 z.2.1 z.2.2.1 z.2.2.2.1 z.2.2.2.2.1 z.2.2.2.2.2.1 z.2.2.2.2.2.2.1 z.2.2.2.2.2.2.2.1 z.2.2.2.2.2.2.2.2)
  (λj z=>z.1=((n-j:Nat):Int)/\CW (z.2.1,z.2.2.1,z.2.2.2.1)/\z.2.2.2.2.2.2.2.2.length=j/\∀y∈z.2.2.2.2.2.2.2.2,Ao y) n
  (λd=>CW (d.1,d.2.1,d.2.2.1)/\d.2.2.2.2.2.2.2.length=n/\∀y∈d.2.2.2.2.2.2.2,Ao y)
  (λj z hj ⟨z1,z2,z3,z4⟩=>by
   obtain⟨q,c0,c1,c2,r0,r1,r2,r3,out⟩:=z;simp only at z1 z2 z3 z4;subst z1 z3;obtain⟨c',o,x1,x2,x3⟩:=Ml z2;obtain⟨c'',v,y1,y2,y3⟩:=Mm x2;refine .inl ⟨_,by
    show cR _ _ _ _ _ _ _ _ _=_;unfold cR;rw[dT (show ((n-out.length:Nat):Int)>0 by omega),cT,x1,an,y1,an,uG (by show _+1<=_;omega),an],?_,y2,by simp,?_⟩
   · show uB (((n-out.length:Nat):Int)-1)=_;rw[uX (by omega) (by omega)];omega
   · intro y hy;rcases mem_append.1 hy with hy|hy
     · exact z4 y hy
     · rw[mem_singleton]at hy;subst hy;have:=x3.n10
       exact⟨by show o.length<=1000;omega,y3⟩)
  (λz ⟨z1,z2,z3,z4⟩=>by
   obtain⟨q,c0,c1,c2,r0,r1,r2,r3,out⟩:=z;simp only at z1 z2 z3 z4;rw[Nat.sub_self]at z1;subst z1;refine⟨(c0,c1,c2,r0,r1,r2,r3,out),?_,z2,z3,z4⟩;show cR _ _ _ _ _ _ _ _ _=_
   unfold cR;rw[dF (show ¬((0:Nat):Int)>0 by decide),cF]) (x:=((n:Int),c.1,c.2.1,c.2.2,k,i,a,b,[])) ⟨rfl,h,rfl,by simp⟩
 refine⟨_,_,vh d1 rfl,d2,d3,d4⟩
theorem Ol {c:uM} (h:CW c) {n:Nat} (hn:n<=1000) (k i a b:Int):Dr (λp:v9=>p.2.2.2.2.length=n/\∀x∈p.2.2.2.2,Ao x) ((loop (λz:Int×List Int×Int×Int×Int×Int×Int×Int×List uC=>cS z.1 z.2.1 z.2.2.1 z.2.2.2.1 z.2.2.2.2.1 z.2.2.2.2.2.1 z.2.2.2.2.2.2.1 z.2.2.2.2.2.2.2.1 z.2.2.2.2.2.2.2.2) ((n:Int),c.1,c.2.1,c.2.2,k,i,a,b,[])).bind λd=>some ((d.1,d.2.1,d.2.2.1),d.2.2.2)):=by
 obtain⟨d,d1,d2,d3,d4⟩:=uS (step:=λz:Int×List Int×Int×Int×Int×Int×Int×Int×List uC=>cS z.1 z.2.1 z.2.2.1 z.2.2.2.1 z.2.2.2.2.1 z.2.2.2.2.2.1 z.2.2.2.2.2.2.1 z.2.2.2.2.2.2.2.1 z.2.2.2.2.2.2.2.2)
  (λj z=>z.1=((n-j:Nat):Int)/\CW (z.2.1,z.2.2.1,z.2.2.2.1)/\z.2.2.2.2.2.2.2.2.length=j/\∀y∈z.2.2.2.2.2.2.2.2,Ao y) n
  (λd=>CW (d.1,d.2.1,d.2.2.1)/\d.2.2.2.2.2.2.2.length=n/\∀y∈d.2.2.2.2.2.2.2,Ao y)
  (λj z hj ⟨z1,z2,z3,z4⟩=>by
   obtain⟨q,c0,c1,c2,r0,r1,r2,r3,out⟩:=z;simp only at z1 z2 z3 z4;subst z1 z3;obtain⟨c',o,x1,x2,x3⟩:=Ml z2;obtain⟨c'',v,y1,y2,y3⟩:=Mm x2;refine .inl ⟨_,by
    show cS _ _ _ _ _ _ _ _ _=_;unfold cS;rw[dT (show ((n-out.length:Nat):Int)>0 by omega),cT,x1,an,y1,an,uG (by show _+1<=_;omega),an],?_,y2,by simp,?_⟩
   · show uB (((n-out.length:Nat):Int)-1)=_;rw[uX (by omega) (by omega)];omega
   · intro y hy;rcases mem_append.1 hy with hy|hy
     · exact z4 y hy
     · rw[mem_singleton]at hy;subst hy;have:=x3.n10
       exact⟨by show o.length<=1000;omega,y3⟩)
  (λz ⟨z1,z2,z3,z4⟩=>by
   obtain⟨q,c0,c1,c2,r0,r1,r2,r3,out⟩:=z;simp only at z1 z2 z3 z4;rw[Nat.sub_self]at z1;subst z1;refine⟨(c0,c1,c2,r0,r1,r2,r3,out),?_,z2,z3,z4⟩;show cS _ _ _ _ _ _ _ _ _=_
   unfold cS;rw[dF (show ¬((0:Nat):Int)>0 by decide),cF]) (x:=((n:Int),c.1,c.2.1,c.2.2,k,i,a,b,[])) ⟨rfl,h,rfl,by simp⟩
 refine⟨_,_,vh d1 rfl,d2,d3,d4⟩
theorem JM {c:uM} (h:CW c):Dr (λp:v9=>xi M p) (gX c):=by
 have hM:M=1048576:=rfl;have le:∀{n:Nat},n<=3->∀p:v9,(p.2.2.2.2.length=n/\∀x∈p.2.2.2.2,Ao x)->xi M p:=λhn p hp=>⟨by show p.2.2.2.2.length<=1048576;omega,λx hx=>(hp.2 x hx).le⟩
 have up:∀{n:Nat} {o:Option (uM×v9)},n<=3->Dr (λp:v9=>p.2.2.2.2.length=n/\∀x∈p.2.2.2.2,Ao x) o->Dr (λp:v9=>xi M p) o:=λhn ⟨c,p,e,w,hp⟩=>⟨c,p,e,w,le hn p hp⟩;unfold gX;refine Dr.bind (AE h (by decide)) λc k hc _=>?_;refine Dr.bind (Po hc) λc x hc _=>?_;obtain⟨r,hr⟩:=Pp x;rw[hr,an];have hkk:∃t,(cond (k==162) (some true) (some (k==165)))=some t:=by cases k==162<;>exact⟨_,rfl⟩
 obtain⟨t,ht⟩:=hkk;simp only;rw[ht,an];refine Dr.cond ?_ ?_
 · refine Dr.bind (wq hc 4) λc a hc _=>?_;refine Dr.bind (wq hc 5) λc b hc _=>?_;obtain⟨c1,n,e1,w1,hn⟩:=wI hc (n:=4) (by decide);have e1':aa c 4=some (c1,(n:Int)):=e1
   simp only;rw[e1',an];exact up (by omega) (Ok w1 (by omega) k r a b)
 · obtain⟨c1,n,e1,w1,hn⟩:=wI hc (n:=4) (by decide);have e1':aa c 4=some (c1,(n:Int)):=e1
   rw[e1',an];exact up (by omega) (Ol w1 (by omega) k r 0 0)
theorem C0 (w:List UInt8) (p:v9):JL (FA w p)/\(FA w p).length<=900:=by
 have h:(FA w p).length<=300:=by
  unfold FA;split
  · simp
  · split
    · have:=wA 48 (body:=CV w++zD p);omega
    · simp
 exact⟨⟨PU w p,by omega⟩,by omega⟩
theorem Sh {c:uM} (h:CW c) {b:uz} (hb:vB b):Dr JL (bJ c b):=by
 have hq:∀c,CW c->Dr CX (bG c b):=λc hc=>LQ hc hb.w λc hc=>by obtain⟨c',o,e,w,h⟩:=Mf hc hb;exact⟨c',o,e,w,h⟩
 unfold bJ;refine Dr.bind (wq h 10) λc t hc _=>?_;refine Dr.cond ?_ (Dr.cond ?_ (Dr.cond ?_ ?_))
 · refine Dr.bind (hq c hc) λc p hc hp=>?_;simp only;rw[Ba _ hp.le,an];obtain⟨m1,m2⟩:=C0 [121,97,114,100] p;exact Dr.bind (N9 hc m1.1 m2) λc m hc hm=>Dr.some hc hm
 · refine Dr.bind (hq c hc) λc p hc hp=>?_;simp only;rw[Ba _ hp.le,an];exact Dr.some hc (C0 _ p).1
 · refine Dr.bind (JM hc) λc p hc hp=>?_;simp only;rw[Ba _ hp,an];exact Dr.some hc (C0 _ p).1
 · refine Dr.bind (hq c hc) λc p hc hp=>?_;simp only;rw[Ba _ hp.le,an];exact Dr.some hc (C0 _ p).1
def C9 (x:Act):Prop:=JL x.2.2.2.1
theorem E7:JL []:=⟨(λx hx=>by cases hx),(by decide)⟩
theorem A2 {code:List Int} (h:code.length<=1048576):∃k:Nat,bK code 36=some (k:Int)/\k<=36:=by
 unfold bK;have e:uB (3+(uB ((code.length:Int).tdiv 12)))=3+(code.length:Int)/12:=by
  rw[Int.tdiv_eq_ediv_of_nonneg (by omega),uX (n:=(code.length:Int)/12) (by omega) (by omega),uX (by omega) (by omega)]
 simp only[e];by_cases hk:3+(code.length:Int)/12>36
 · rw[dT hk,cT];exact⟨36,rfl,Nat.le_refl _⟩
 · rw[dF hk,cF];exact⟨(3+(code.length:Int)/12).toNat,by rw[Int.toNat_of_nonneg (by omega)],by omega⟩
theorem P4 {α β:Type} (l:List α) (i:Int) (f:α->Option β):((ix l.length i).bind λj=>(l[j]?).bind f)=(at? l i).bind f:=by
 unfold ix at?;by_cases h0:0<=i
 · rw[if_pos h0,if_pos h0];by_cases h1:i<(l.length:Int)
   · rw[if_pos h1,an]
   · rw[if_neg h1,List.getElem?_eq_none (by omega)];rfl
 · rw[if_neg h0,if_neg h0];rfl
theorem QU:jd=ga:=rfl
theorem Om:cN=ay:=rfl
theorem Si {b:uz} (h:xt b) (o:List Int):gN b o=bB b o:=by
 unfold gN bB;rw[GF h];cases bP b with
 | none=>rfl
 | some l =>
  have hs:(λz:Int×Int×Int×List UInt8×List Int×List Int=>je o l z.1 z.2.1 z.2.2.1 z.2.2.2.1 z.2.2.2.2.1 z.2.2.2.2.2)=λz=>cr o l z.1 z.2.1 z.2.2.1 z.2.2.2.1 z.2.2.2.2.1 z.2.2.2.2.2:=by
   funext z
   unfold je cr;simp only[P4,QU];cases at? l z.1<;>rfl
  rw[an,an,hs];unfold bf;simp only[Option.bind_assoc,an]
theorem Tl {b:uz} (h:xt b) (o:List Int):gP b o=cq b o:=by
 unfold gP cq;rw[GF h];cases bP b with
 | none=>rfl
 | some l =>
  have hs:(λz:Int×Int×Int×List UInt8×List Int=>jf o l z.1 z.2.1 z.2.2.1 z.2.2.2.1 z.2.2.2.2)=λz=>bA o l z.1 z.2.1 z.2.2.1 z.2.2.2.1 z.2.2.2.2:=by
   funext z
   unfold jf bA;simp only[P4,Om];cases at? l z.1<;>rfl
  rw[an,an,hs]
def EA (b:uz) (x:uC):Prop:=y8 x.1=true/\(x.2.1=130->wm b x.1=x)
theorem Na {b:uz} (h:vB b) {o:List Int} (ho:y8 o=true):EA b (wm b o):=by
 refine⟨yd (Eb h ho),λhk=>?_⟩;obtain⟨_,h1⟩:=G4 h (o:=o) (by have:=zk ho;omega);rcases h1 with ⟨h1,_⟩|⟨h1,h2⟩
 · exfalso;have hv:∀v:yj,Vl v->v.1≠130:=λv hv=>by cases hv<;>simp
   exact hv _ (BF h _ h1).2 hk
 · rw[h1];exact h1
theorem Hn {b:uz} {o:List Int} (ho:y8 o=true):EA b (o,5,0,[],[]):=⟨ho,λhk=>by have hk:(5:Int)=130:=hk;omega⟩
noncomputable def vX (b:uz) (l:List uC):List uC:=l.map λx=>wm b x.1
theorem Nb {b:uz} {x:uC} (h:EA b x):(cond (x.2.1==130) x (wm b x.1))=wm b x.1:=by
 cases hk:x.2.1==130 with
 | true=>rw[cT];exact (h.2 (by simpa using hk)).symm
 | false=>rfl
noncomputable def zq (b:uz):Nat->List uC×List uC->List uC×List uC
 | 0,s=>s
 | n+1,s=>if 0<s.2.length/\s.1.length<10 then zq b n (s.1++vX b s.2,vX b s.2)else s
theorem LT {b:uz}:∀(n:Nat) {s:List uC×List uC},10<=s.1.length->zq b n s=s
 | 0,s,_=>rfl
 | n+1,s,h=>if_neg (by omega)
theorem Nd {b:uz}:∀(n:Nat) {s:List uC×List (List Int)},10<=s.1.length->BJ b n s=s
 | 0,s,_=>rfl
 | n+1,s,h=>if_neg (by omega)
theorem Ho {b:uz}:∀(n:Nat) (out T:List uC),out.length<=10->(BJ b n (out,T.map λx=>x.1)).1=(zq b n (out,T)).1.take 10
 | 0,out,T,h=>(take_of_length_le h).symm
 | n+1,out,T,h=>by
  by_cases hc:0<T.length/\out.length<10
  · have e1:BJ b (n+1) (out,T.map λx=>x.1)=BJ b n (Cc b (out,T.map λx=>x.1)):=if_pos (by simpa using hc);have e2:zq b (n+1) (out,T)=zq b n (out++vX b T,vX b T):=if_pos hc
    rw[e1,e2];by_cases hle:out.length+T.length<=10
    · have hm:A0 (out,T.map λx=>x.1)=T.length:=by unfold A0;simp only[length_map];omega
      have e3:Cc b (out,T.map λx=>x.1)=(out++vX b T,(vX b T).map λx=>x.1):=by
       unfold Cc vX;simp only[hm];rw[take_of_length_le (by simp),List.drop_of_length_le (by simp),append_nil,map_map,map_map,map_map];rfl
      rw[e3];exact Ho n _ _ (by rw[length_append];unfold vX;rw[length_map];omega)
    · have hm:A0 (out,T.map λx=>x.1)=10-out.length:=by unfold A0;simp only[length_map];omega
      have hl1:(Cc b (out,T.map λx=>x.1)).1.length=10:=by
       show (out++((T.map λx=>x.1).take (A0 (out,T.map λx=>x.1))).map (wm b)).length=10;rw[hm,length_append,length_map,length_take,length_map];omega
      rw[Nd n (by omega),LT n (by show 10<=(out++vX b T).length;rw[length_append];unfold vX;rw[length_map];omega)];show out++((T.map λx=>x.1).take (A0 (out,T.map λx=>x.1))).map (wm b)=(out++vX b T).take 10
      rw[hm,List.take_append,take_of_length_le h];unfold vX;rw[←List.map_take,←List.map_take,map_map];rfl
  · have e1:BJ b (n+1) (out,T.map λx=>x.1)=(out,T.map λx=>x.1):=if_neg (by simpa using hc);have e2:zq b (n+1) (out,T)=(out,T):=if_neg hc
    rw[e1,e2];exact (take_of_length_le h).symm

theorem LU {p:v9} (hp:xi M p):dP p=some (wg p):=by
 unfold dP;rw[KG hp,an];show (ae ((zD p).length:Int) 1 120).bind _=_
 rw[Al,an];rfl
def named (l:List uC):List uC:=l.map λx=>(x.1,5,0,[],[])
theorem Nf {l:List uC} (hn:l.length<=M):cO l=some (named l):=by
 have hM:M=1048576:=rfl;unfold cO named;refine vh (D4 (g:=λx:uC=>((x.1,5,0,[],[]):uC)) hn (λk hk out ho=>?_) (λout=>?_)) rfl
 · show fy l (k:Int) out=_;unfold fy;rw[vj (by omega),cT,uO hk,an,uG (by rw[ho];show k+1<=_;omega),an,uL (by omega)]
 · show fy l (l.length:Int) out=_;unfold fy;rw[vd (by omega),cF]
theorem JN {b:uz} (h:vB b) {l:List uC} (hn:l.length<=1000) (hT:∀x∈l,EA b x):bq b l=some (vX b l):=by
 unfold bq vX;refine vh (D4 (g:=λx:uC=>wm b x.1) (by show _<=1048576;omega) (λk hk out ho=>?_) (λout=>?_)) rfl
 · have hx:=hT _ (getElem_mem hk);have e:=Nb hx
   show fx b l (k:Int) out=_;unfold fx;rw[vj (by omega),cT,uO hk,an,an,an,Si h.w,(G4 h (by have:=zk hx.1;omega)).1,an,uL (by omega)];cases hk':l[k].2.1==130 with
   | true =>
    rw[hk',cT]at e;rw[cT,uG (by rw[ho];show k+1<=_;omega),an,←e]
   | false=>rw[cF,uG (by rw[ho];show k+1<=_;omega),an]
 · show fx b l (l.length:Int) out=_;unfold fx;rw[vd (by omega),cF]
theorem LV {b:uz} (h:vB b) {l:List uC} (hT:∀x∈l,EA b x):∀x∈vX b l,EA b x:=by
 intro x hx;obtain⟨y,hy,rfl⟩:=mem_map.1 hx;exact Na h (hT y hy).1
theorem P5 {b:uz} (h:vB b) {p:v9} (hB:p.2.2.2.1<=1000):∀(n i:Nat) (out T:List uC),T.length<=10->out.length<=10+10*i->(∀x∈T,EA b x)->((i+n:Nat):Int)=p.2.2.2.1->loop (λz=>bH b p z.1 z.2.1 z.2.2) (T,(i:Int),out)=some (zq b n (out,T)).1
 | 0,i,out,T,h1,h2,hT,e=>by
  refine ve ?_;show bH b p T (i:Int) out=_
  unfold bH;rw[vd (by omega),cF,an,cF,an,cF];rfl
 | n+1,i,out,T,h1,h2,hT,e=>by
  by_cases hc:0<T.length/\out.length<10
  · have hnl:(vX b T).length=T.length:=by unfold vX;rw[length_map]
    refine v7 (y:=(vX b T,((i+1:Nat):Int),out++vX b T)) ?_ ?_
    · show bH b p T (i:Int) out=_;unfold bH;rw[vj (by omega),cT,dT (by omega),an,cT,vj (by omega),an,cT,JN h (by omega) hT,an,uG (by rw[hnl];omega),an,uL (by omega)]
    · rw[P5 h hB n (i+1) _ _ (by rw[hnl];exact h1) (by rw[length_append,hnl];omega) (LV h hT) (by omega),show zq b (n+1) (out,T)=zq b n (out++vX b T,vX b T)from if_pos hc]
  · refine ve ?_;show bH b p T (i:Int) out=_
    have e2:zq b (n+1) (out,T)=(out,T):=if_neg hc;rw[e2];unfold bH;rw[vj (by omega),cT];by_cases h1:0<T.length
    · rw[dT (by omega),an,cT,vd (by omega),an,cF]
    · rw[dF (by omega),an,cF,an,cF]
theorem Ix {b:uz}:∀(n:Nat) (out T:List uC),T.length<=10->out.length<=20->(zq b n (out,T)).1.length<=20
 | 0,out,T,_,h=>h
 | n+1,out,T,hT,h=>by
  by_cases hc:0<T.length/\out.length<10
  · rw[show zq b (n+1) (out,T)=zq b n (out++vX b T,vX b T)from if_pos hc];have hnl:(vX b T).length=T.length:=by unfold vX;rw[length_map]
    exact Ix n _ _ (by omega) (by rw[length_append,hnl];omega)
  · rw[show zq b (n+1) (out,T)=(out,T)from if_neg hc];exact h
theorem QV {b:uz} (h:vB b) {p:v9} (hp:wG p=true):gO b p=some (yA b p):=by
 obtain⟨x1,x2,_,_,x5,x6⟩:=xK hp;have hM:M=1048576:=rfl
 have hnl:(named p.2.2.2.2).length=p.2.2.2.2.length:=by unfold named;rw[length_map]
 have hTold:∀x∈named p.2.2.2.2,EA b x:=by
  intro x hx;obtain⟨y,hy,rfl⟩:=mem_map.1 hx;exact Hn (yd (x1 y hy))
 have hon:wb p<=p.2.2.2.2.length:=Nat.min_le_right _ _;have hout:vX b ((named p.2.2.2.2).take (wb p))=(p.2.2.2.2.take (wb p)).map (λx=>wm b x.1):=by
  unfold vX named;rw[←List.map_take,map_map];rfl
 have hlast:((named p.2.2.2.2).drop (wb p)).map (λx=>x.1)=(p.2.2.2.2.drop (wb p)).map (λx=>x.1):=by
  unfold named;rw[←List.map_drop,map_map];rfl
 have hol:(vX b ((named p.2.2.2.2).take (wb p))).length<=10:=by rw[hout,length_map,length_take];omega
 have hTl:((named p.2.2.2.2).drop (wb p)).length<=10:=by rw[length_drop];omega
 have hrun:=P5 h (p:=p) (by omega) p.2.2.2.1.toNat 0 (vX b ((named p.2.2.2.2).take (wb p))) ((named p.2.2.2.2).drop (wb p)) hTl (by omega) (λx hx=>hTold x (List.mem_of_mem_drop hx)) (by omega);have hv:yA b p=(zq b p.2.2.2.1.toNat (vX b ((named p.2.2.2.2).take (wb p)),(named p.2.2.2.2).drop (wb p))).1.take 10:=by
  unfold yA Mr;rw[←hout,←hlast];exact Ho _ _ _ hol
 have hlen:=Ix (b:=b) p.2.2.2.1.toNat _ _ hTl (show (vX b ((named p.2.2.2.2).take (wb p))).length<=20 by omega);have fin:∀k:Int,k=((wb p:Nat):Int)->((cO p.2.2.2.2).bind λt22 =>
  (wO t22.length 0 k).bind λq =>
  (bq b ((t22.take q.2).drop q.1)).bind λt27 =>
  (cut t22 k (t22.length:Int)).bind λt30 =>
  (loop (λz=>bH b p z.1 z.2.1 z.2.2) (t30,0,t27)).bind λd =>
  cond (decide ((d.length:Int)>10))
   ((wO d.length 0 10).bind λp_1 =>
   some ((d.take p_1.2).drop p_1.1))
   (some d))=some (yA b p):=by
  rintro k rfl;rw[Nf (by omega),an,show (0:Int)=((0:Nat):Int)from rfl,BH (by omega) (by rw[hnl];exact hon),an];show (bq b (((named p.2.2.2.2).take (wb p)).drop 0)).bind _=_
  rw[drop_zero,JN h (by rw[length_take];omega) (λx hx=>hTold x (mem_of_mem_take hx)),an,xR (by rw[hnl];exact hon) (Nat.le_refl _),an,take_length];refine vh hrun ?_;rw[hv];generalize (zq b p.2.2.2.1.toNat (vX b ((named p.2.2.2.2).take (wb p)),(named p.2.2.2.2).drop (wb p))).1=d at hlen;by_cases hd:(d.length:Int)>10
  · rw[dT hd,cT,show (10:Int)=((10:Nat):Int)from rfl,BH (by omega) (by omega),an];rfl
  · rw[dF hd,cF,take_of_length_le (by omega)]
 unfold gO;by_cases hc:p.2.2.1>(p.2.2.2.2.length:Int)
 · rw[dT hc,cT];exact fin _ (by unfold wb;omega)
 · rw[dF hc,cF];exact fin _ (by unfold wb;omega)
theorem Ng (k i a c:Int) (bulk:Bool):∀(n:Nat) (l:List uC),l.length=n->n<=10->(∀x∈l,FC M x) ->
 ∃t,loop (λz:v9=>bZ bulk z.1 z.2.1 z.2.2.1 z.2.2.2.1 z.2.2.2.2) (k,i,a,c,l)=some (k,i,a,c,t)/\xi M (k,i,a,c,t) /\
  ((wg (k,i,a,c,l)=true/\t=l)\/(wg (k,i,a,c,l)=false/\((bulk=true/\wg (k,i,a,c,t)=true/\shr (λt=>wg (k,i,a,c,t)) n l=some t)\/(wg (k,i,a,c,t)=false/\(bulk=true->shr (λt=>wg (k,i,a,c,t)) n l=none)))))
 | n,l,hl,hn,hx=>by
  have hp:xi M (k,i,a,c,l):=⟨by show l.length<=1048576;omega,hx⟩;have hstep:∀q:Bool,wg (k,i,a,c,l)=q->bZ bulk k i a c l=cond (bulk&&(!q&&decide ((l.length:Int)>0))) ((wO l.length 0 (uB ((l.length:Int)-1))).bind λp=>some (.inl (k,i,a,c,(l.take p.2).drop p.1))) (some (.inr (k,i,a,c,l))):=by
   intro q hq;unfold bZ;rw[LU hp,hq];cases bulk<;>cases q<;>rfl
  cases hf:wg (k,i,a,c,l)with
  | true =>
   refine⟨l,ve ?_,hp,.inl ⟨rfl,rfl⟩⟩;show bZ bulk k i a c l=_
   rw[hstep true hf];cases bulk<;>rfl
  | false =>
   cases hb:bulk with
   | false =>
    subst hb;refine⟨l,ve ?_,hp,.inr ⟨rfl,.inr ⟨hf,(λh=>by cases h)⟩⟩⟩;show bZ false k i a c l=_
    rw[hstep false hf];rfl
   | true =>
    subst hb
    match n,hl,hn with
    | 0,hl,hn =>
     refine⟨l,ve ?_,hp,.inr ⟨rfl,.inr ⟨hf,λ_=>rfl⟩⟩⟩;show bZ true k i a c l=_
     rw[hstep false hf,dF (by omega)];rfl
    | n+1,hl,hn =>
     have hlt:(l.take n).length=n:=by rw[length_take];omega
     have hs:bZ true k i a c l=some (.inl (k,i,a,c,l.take n)):=by
      rw[hstep false hf,dT (by omega)];show ((wO l.length 0 (uB ((l.length:Int)-1))).bind _)=_
      rw[uX (by omega) (by omega),show (l.length:Int)-1=((n:Nat):Int) by omega,show (0:Int)=((0:Nat):Int)from rfl,BH (by omega) (by omega),an];rfl
     obtain⟨t,t1,t2,t3⟩:=Ng k i a c true n (l.take n) hlt (by omega) (λx h=>hx x (mem_of_mem_take h));refine⟨t,v7 hs t1,t2,.inr ⟨rfl,?_⟩⟩;rcases t3 with ⟨u1,rfl⟩|⟨u1,⟨_,u2,u3⟩|⟨u2,u3⟩⟩
     · exact .inl ⟨rfl,u1,if_pos u1⟩
     · exact .inl ⟨rfl,u2,by rw[show shr (λt=>wg (k,i,a,c,t)) (n+1) l=shr (λt=>wg (k,i,a,c,t)) n (l.take n)from if_neg (show ¬wg (k,i,a,c,l.take n)=true by rw[u1];simp)];exact u3⟩
     · exact .inr ⟨u2,λ_=>by rw[show shr (λt=>wg (k,i,a,c,t)) (n+1) l=shr (λt=>wg (k,i,a,c,t)) n (l.take n)from if_neg (show ¬wg (k,i,a,c,l.take n)=true by rw[u1];simp)];exact u3 rfl⟩
noncomputable def CY (i a c:Int) (bulk:Bool) (l:List uC):v9 :=
 cond (wg (162,i,a,c,l)) (162,i,a,c,l) (match cond bulk (shr (λt=>wg (162,i,a,c,t)) l.length l) none with|some t=>(162,i,a,c,t)|none=>(162,i,7,0,[]))
theorem JO (i a c:Int) (bulk:Bool) {l:List uC} (hn:l.length<=10) (hx:∀x∈l,FC M x):cM (162,i,a,c,l) bulk=some (CY i a c bulk l):=by
 obtain⟨t,t1,t2,t3⟩:=Ng 162 i a c bulk l.length l rfl hn hx;unfold cM CY;refine vh t1 ?_;rw[LU t2,an];rcases t3 with ⟨u1,rfl⟩|⟨u1,⟨rfl,u2,u3⟩|⟨u2,u3⟩⟩
 · rw[u1,cT,cT]
 · rw[u1,u2,cT,cF,cT,u3]
 · rw[u1,u2,cF,cF];cases bulk with
   | true=>rw[cT,u3 rfl]
   | false=>rfl
theorem Sj {b:uz} (h:vB b) {p:v9} (hp:wG p=true) (h163:(p.1==163)=false) (hk:(p.1 != 162)=true):∃l,gQ b p=some l/\zY b p=(b,162,p.2.1,0,0,l)/\l.length<=10/\∀x∈l,FC M x:=by
 obtain⟨x1,x2,_⟩:=xK hp;have hM:M=1048576:=rfl
 unfold gQ zY;cases h161:(p.1==161)with
 | true =>
  have h160:(p.1==160)=false:=by simp only[beq_iff_eq]at h161;rw[h161];rfl
  have hTold:∀x∈named p.2.2.2.2,EA b x:=by
   intro x hx;obtain⟨y,hy,rfl⟩:=mem_map.1 hx;exact Hn (yd (x1 y hy))
  have he:vX b (named p.2.2.2.2)=p.2.2.2.2.map λx=>wm b x.1:=by unfold vX named;rw[map_map];rfl
  simp only[cT,cF,h160];rw[Nf (by omega),an,JN h (by unfold named;rw[length_map];omega) hTold,an,he];refine⟨_,rfl,rfl,by rw[length_map];exact x2,λx hx=>?_⟩;obtain⟨y,hy,rfl⟩:=mem_map.1 hx;exact xL (Eb h (yd (x1 y hy)))
 | false =>
 cases h165:(p.1==165)with
 | true =>
  have h160:(p.1==160)=false:=by simp only[beq_iff_eq]at h165;rw[h165];rfl
  have hbk:=Lc h hp;simp only[cT,cF,h160];rw[QV h hp,an];exact⟨_,rfl,rfl,hbk.o10,λx hx=>xL (hbk.oOk x hx)⟩
 | false =>
  have h160:(p.1==160)=true:=by
   rcases Of hp with e|e|e|e|e
   · rw[e];rfl
   · rw[e]at h161;cases h161
   · rw[e]at hk;cases hk
   · rw[e]at h163;cases h163
   · rw[e]at h165;cases h165
  simp only[cT,cF,h160];have e:loop (λz:Int×List uC=>dR b p z.1 z.2) (0,[])=some (p.2.2.2.2.map λx=>((x.1,D5 b x.1):uC)):=by
   refine D4 (by omega) (λk hk' out ho=>?_) (λout=>?_)
   · have hx:=zk (yd (x1 _ (getElem_mem hk')));show dR b p (k:Int) out=_
     unfold dR;rw[vj (by omega),cT,uO hk',an,uG (by show 0+_<=_;omega),an,an,Tl h.w,(OU h (by omega)).1,an,uG (by rw[ho];show k+1<=_;omega),an,uL (by omega)];rfl
   · show dR b p (p.2.2.2.2.length:Int) out=_;unfold dR;rw[vd (by omega),cF]
  rw[e,an];refine⟨_,rfl,rfl,by rw[length_map];exact x2,λx hx=>?_⟩;obtain⟨y,hy,rfl⟩:=mem_map.1 hx;exact xL (by unfold yD;rw[yd (x1 y hy),Ps h (by have:=zk (yd (x1 y hy));omega)];rfl)
theorem Kj {b:uz} {p:v9} {l:List uC} (ha:zY b p=(b,162,p.2.1,0,0,l)) (hl:(p.1==165)=true->l=yA b p):yH b p=(b,CY p.2.1 0 0 (p.1==165) l):=by
 unfold yH Br CY;rw[ha];simp only;cases wg (162,p.2.1,0,0,l)with
 | true=>rfl
 | false =>
  rw[cF,cF];cases h165:(p.1==165)with
  | true=>rw[cT,cT,hl h165];cases shr (λt=>wg (162,p.2.1,0,0,t)) (yA b p).length (yA b p)<;>rfl
  | false=>rfl
theorem QW {b:uz} (h:vB b) {p:v9} (hp:wG p=true) (h163:(p.1==163)=true):fw b p=some (yH b p):=by
 have hxs:=Fy hp;have hM:M=1048576:=rfl
 have h10:=(xK hp).2.1;obtain⟨r,r1,r2,_,_,r5⟩:=I1 h.w h.le hxs;have hr:DH b p.2.2.2.2=r:=by unfold DH;rw[r1];rfl
 have h160:(p.1==160)=false:=by simp only[beq_iff_eq]at h163;rw[h163];rfl
 have h161:(p.1==161)=false:=by simp only[beq_iff_eq]at h163;rw[h163];rfl
 have h165:(p.1==165)=false:=by simp only[beq_iff_eq]at h163;rw[h163];rfl
 have ha:zY b p=(r.1,162,p.2.1,r.2.1,r.2.2,p.2.2.2.2):=by unfold zY;rw[h160,h161,h165,hr];rfl
 have hless:Br b p=(b,162,p.2.1,7,0,[]):=by unfold Br;rw[h165];rfl
 unfold fw yH;rw[Cq hxs,an,r2,an,LU (p:=(162,p.2.1,r.2.1,r.2.2,p.2.2.2.2)) ⟨hxs.1,hxs.2⟩,an,ha,hless];simp only;have hb:∀q:Bool,wg (162,p.2.1,r.2.1,r.2.2,p.2.2.2.2)=q->((ap b).bind λt36=>(cM (162,p.2.1,r.2.1,r.2.2,p.2.2.2.2) false).bind λt38=>some (t36,t38))=some (b,cond q (162,p.2.1,r.2.1,r.2.2,p.2.2.2.2) (162,p.2.1,7,0,[])):=by
  intro q hq;rw[xp h.le,an,JO _ _ _ _ h10 hxs.2,an];unfold CY;rw[hq];rfl
 cases hf:wg (162,p.2.1,r.2.1,r.2.2,p.2.2.2.2)with
 | false=>rw[Bool.not_false,cT,an,cT,hb false hf];rfl
 | true =>
  rw[Bool.not_true,cF,an];cases hc:(r.2.1 != 0)with
  | false=>rfl
  | true =>
   rw[cT,hb true hf];rcases r5 with ⟨r6,_⟩|⟨r6,_⟩
   · rw[r6]at hc;cases hc
   · rw[r6];rfl
theorem QX {b:uz} (h:xt b) (hb:yz M b) {p:v9} (hp:xi M p):gR b p=some (wF b p):=by
 unfold gR iY wF CU;rw[AD h,an,xp hb];cases hbr:vk b with
 | false=>rfl
 | true =>
 rw[cT,Mg hp,an,an];cases hpp:wG p with
 | false=>rfl
 | true =>
 cases hk:(p.1 != 162)with
 | false=>rfl
 | true =>
 have hBO:=By h hbr;simp only[Bool.and_true,cT,an,Bool.not_true,cF];cases h163:(p.1==163)with
 | true=>rw[cT,QW hBO hpp h163,an]
 | false =>
  obtain⟨l,e1,e2,e3,e4⟩:=Sj hBO hpp h163 hk;have hl:(p.1==165)=true->l=yA b p:=by
   intro h165;have h160:(p.1==160)=false:=by simp only[beq_iff_eq]at h165;rw[h165];rfl
   have h161:(p.1==161)=false:=by simp only[beq_iff_eq]at h165;rw[h165];rfl
   have:zY b p=(b,162,p.2.1,0,0,yA b p):=by unfold zY;rw[h160,h161,h165];rfl
   rw[e2]at this;simpa using this
  rw[cF,e1,an,Cq ⟨by show l.length<=1048576;omega,e4⟩,an,JO _ _ _ _ e3 e4,an,Kj e2 hl]

theorem LW {b:uz} {w:List UInt8} {l:List vF} {lo la:Int} {k:Nat} (hk:k<l.length) (hl:l.length<=M):dW (vU b w l lo la) (k:Int)=some (vU b w (l.eraseIdx k) lo la):=by
 have hM:M=1048576:=rfl;have c1:wO l.length 0 (k:Int)=some (0,k):=by
  unfold wO;rw[if_pos (by omega),if_pos (by omega),if_pos (by omega)];simp
 have c2:wO l.length (uB ((k:Int)+1)) (l.length:Int)=some (k+1,l.length):=by
  rw[uL (by omega)];unfold wO;rw[if_pos (by omega),if_pos (by omega),if_pos (by omega)];simp
 have c3:uV ([]:List vF) ((l.take k).drop 0)=some (l.take k):=by
  rw[drop_zero,uG (by rw[length_take];show 0+_<=_;omega)];rfl
 have c4:uV (l.take k) ((l.take l.length).drop (k+1))=some (l.eraseIdx k):=by
  rw[take_length,uG (by rw[length_take,length_drop];omega),←List.eraseIdx_eq_take_drop_succ]
 unfold dW vU;simp only[c1,an,c2,c3,c4]
theorem Nh {b:uz} (hb:yz M b) {w:List UInt8} {l:List vF} {lo la:Int} {k:Nat} (hk:k<l.length):fC (vU b w l lo la) (k:Int)=some (vU b w (l.set k (HT b l[k])) lo la):=by
 have cb:=xp hb;unfold fC vU;simp only[xh hk,an];have cb':ap (b.1,b.2.1,b.2.2.1,b.2.2.2.1,b.2.2.2.2.1,b.2.2.2.2.2.1,b.2.2.2.2.2.2.1,b.2.2.2.2.2.2.2.1,b.2.2.2.2.2.2.2.2.1,b.2.2.2.2.2.2.2.2.2.1,b.2.2.2.2.2.2.2.2.2.2)=some b:=cb
 simp only[cb',an,List.getElem?_eq_getElem hk,length_set,xh hk,List.getElem?_set_self hk,set_set];rfl
theorem On {n:Int} (h:uE n 0 1000000=true):bm n=some (zo n):=by
 obtain⟨r,r1,r2,_⟩:=IW h;rw[r2,←r1,Dp]
theorem Oo {b:uz} (hb:yz M b) (hc:xa b=true) {w:List UInt8} {l:List vF} {lo la:Int} {k:Nat} (hk:k<l.length) (hl:l.length<=M) (h1:wJ l[k].2.1) (h2:l[k].2.1.length<=M) :
 dX (vU b w l lo la) (k:Int)=some (cond ((vK w l[k].2.1).2==3) (vU (Dq b) w (l.eraseIdx k) lo la)
  (cond ((vK w l[k].2.1).2 != 0||((vK w l[k].2.1).1.1==162)) (vU (BZ b) w (l.eraseIdx k) lo la) (vU b w (l.set k (yv l[k].1 l[k].2.1 1 (vK w l[k].2.1).1 b 0 (vl l[k]))) lo la))):=by
 obtain⟨_,m1,m3,_⟩:=Oc w h1 h2;obtain⟨_,hp,hw,_⟩:=yS hc;unfold dX;have d1:=LW (b:=Dq b) (w:=w) (lo:=lo) (la:=la) hk hl
 have d2:=LW (b:=BZ b) (w:=w) (lo:=lo) (la:=la) hk hl;unfold Dq vU at d1;unfold BZ vU at d2;dsimp only[vU];simp only[xh hk,an,List.getElem?_eq_getElem hk,m1,On hp,On hw];rw[d1,d2];have hs:k<(l.set k (yv l[k].1 l[k].2.1 l[k].2.2.1 (vK w l[k].2.1).1 (jB l[k]) (yp l[k]) (vl l[k]))).length:=by rw[length_set];exact hk
 have e:=Nh hb (w:=w) (lo:=lo) (la:=la) hs;unfold vU at e;have e2:HT b (l.set k (yv l[k].1 l[k].2.1 l[k].2.2.1 (vK w l[k].2.1).1 (jB l[k]) (yp l[k]) (vl l[k])))[k]=yv l[k].1 l[k].2.1 1 (vK w l[k].2.1).1 b 0 (vl l[k]):=by
  rw[getElem_set_self];rfl
 rw[e2,set_set]at e;cases h0:((vK w l[k].2.1).2==0)with
 | true =>
  have h3:((vK w l[k].2.1).2==3)=false:=by
   have:(vK w l[k].2.1).2=0:=by simpa using h0
   rw[this];rfl
  have hn:((vK w l[k].2.1).2 != 0)=false:=by rw[bne,h0];rfl
  rw[h3,hn];simp only[cT,cF,an,Bool.false_or,bne];cases ((vK w l[k].2.1).1.1==162)with
  | true=>rfl
  | false =>
   simp only[Bool.not_false,cT,cF];refine (congrArg (λo=>Option.bind o λt=>some t) e).trans ?_;rfl
 | false =>
  have hn:((vK w l[k].2.1).2 != 0)=true:=by rw[bne,h0];rfl
  rw[hn];simp only[cT,cF,an,Bool.true_or];cases ((vK w l[k].2.1).2==3)<;>rfl
theorem Oq {b:uz} {w:List UInt8} {l:List vF} {lo la:Int} {k:Nat} (hk:k<l.length) (hl:l.length<=M) (p:v9):dY (vU b w l lo la) (k:Int) p=some (vU b w (l.eraseIdx k) lo la,[(l[k].1,p)]):=by
 have d:=LW (b:=b) (w:=w) (lo:=lo) (la:=la) hk hl;have c0:ix (vU b w l lo la).2.2.2.2.2.2.2.2.2.2.2.2.1.length (k:Int)=some k:=xh hk
 have c1:(vU b w l lo la).2.2.2.2.2.2.2.2.2.2.2.2.1[k]?=some l[k]:=List.getElem?_eq_getElem hk;unfold dY;rw[c0,an,c1,an,d];rfl
theorem LX (p:v9):CY p.2.1 6 1 false p.2.2.2.2=zN p:=by
 unfold CY zN;cases wg (162,p.2.1,6,1,p.2.2.2.2)<;>rfl
theorem Sk {b:uz} (hB:vB b) {w:List UInt8} {l:List vF} {lo la:Int} {k:Nat} (hk:k<l.length) (hl:l.length<=M) (hp:wG (jP l[k])=true) (h163:((jP l[k]).1==163)=true) :
 gV (vU b w l lo la) (k:Int)=some (cond (b.2.2.2.2.2.2.2.2.2.2==(jB l[k]).2.2.2.2.2.2.2.2.2.2) (vU (wF b (jP l[k])).1 w (l.eraseIdx k) lo la,[(l[k].1,(wF b (jP l[k])).2.1)])
  (cond (decide (vl l[k]>=3)) (vU b w (l.eraseIdx k) lo la,[(l[k].1,zN (jP l[k]))])
   (vU b w (l.set k (yv l[k].1 l[k].2.1 1 (jP l[k]) b 0 (uB (vl l[k]+1)))) lo la,[]))):=by
 have hk162:((jP l[k]).1 != 162)=true:=by
  have:(jP l[k]).1=163:=by simpa using h163
  rw[this];rfl
 obtain⟨_,r1,r2,_⟩:=Fz hB hp hk162;have hxs:=Fy hp
 have h10:=(xK hp).2.1;have s1:=QW hB hp h163
 have c0:ix (vU b w l lo la).2.2.2.2.2.2.2.2.2.2.2.2.1.length (k:Int)=some k:=xh hk;have c1:(vU b w l lo la).2.2.2.2.2.2.2.2.2.2.2.2.1[k]?=some l[k]:=List.getElem?_eq_getElem hk
 unfold gV;rw[c0,an];simp only[c1,an];show cond (b.2.2.2.2.2.2.2.2.2.2==(jB l[k]).2.2.2.2.2.2.2.2.2.2) _ _=_
 cases hv:(b.2.2.2.2.2.2.2.2.2.2==(jB l[k]).2.2.2.2.2.2.2.2.2.2)with
 | true =>
  rw[cT,cT];refine vh (a:=yH b (jP l[k])) s1 ?_;have e:=Oq (b:=(yH b (jP l[k])).1) (w:=w) (lo:=lo) (la:=la) hk hl (yH b (jP l[k])).2
  rw[r1,r2];exact vh e rfl
 | false =>
  rw[cF,cF];show cond (decide (vl l[k]>=3)) _ _=_
  cases hq:decide (vl l[k]>=3)with
  | true =>
   rw[cT,cT];refine vh (Cq hxs) ?_;refine vh (a:=zN (jP l[k])) ?_ ?_
   · have e:=JO (jP l[k]).2.1 6 1 false h10 hxs.2;rw[LX]at e;exact e
   · exact vh (Oq (b:=b) (w:=w) (lo:=lo) (la:=la) hk hl (zN (jP l[k]))) rfl
  | false =>
   simp only[cF];have hs:k<(l.set k (yv l[k].1 l[k].2.1 l[k].2.2.1 (jP l[k]) (jB l[k]) (yp l[k]) (uB (vl l[k]+1)))).length:=by rw[length_set];exact hk
   have e:=Nh hB.le (w:=w) (lo:=lo) (la:=la) hs;unfold vU at e;have e2:HT b (l.set k (yv l[k].1 l[k].2.1 l[k].2.2.1 (jP l[k]) (jB l[k]) (yp l[k]) (uB (vl l[k]+1))))[k]=yv l[k].1 l[k].2.1 1 (jP l[k]) b 0 (uB (vl l[k]+1)):=by
    rw[getElem_set_self];rfl
   rw[e2,set_set]at e;refine (congrArg (λo=>Option.bind o λt=>some (t,([]:List wa))) e).trans ?_;rfl
theorem Sl {a:uN} (h:we a) {k:Nat} (hk:k<(uD a).length):gW a (k:Int)=some (yX a k (uD a)[k]):=by
 have hJ:=h.j _ (getElem_mem hk);have hn:(uD a).length<=M:=by have:=h.n;show _<=1048576;omega
 have e1:=Oo h.b.le (Ai h.b.ok).1 (w:=aW a) (l:=uD a) (lo:=vM a) (la:=va a) hk hn hJ.byt hJ.len;have c0:ix a.2.2.2.2.2.2.2.2.2.2.2.2.1.length (k:Int)=some k:=xh hk
 have c1:a.2.2.2.2.2.2.2.2.2.2.2.2.1[k]?=some (uD a)[k]:=List.getElem?_eq_getElem hk;have e1:dX a (k:Int)=_:=e1
 unfold gW yX yw;rw[c0,an];simp only[c1,an];rcases JE hJ with hp|hp|hp
 · rw[hp];show ((dX a (k:Int)).bind _)=_
   rw[e1,an];cases ((vK (aW a) (uD a)[k].2.1).2==3)with
   | true=>rfl
   | false=>cases ((vK (aW a) (uD a)[k].2.1).2 != 0||((vK (aW a) (uD a)[k].2.1).1.1==162))<;>rfl
 · rw[hp];simp only[show ((1:Int)==0)=false from rfl,show ((1:Int)==1)=true from rfl,show ((1:Int)==2)=false from rfl,cT,cF,an];show cond (decide (yp (uD a)[k]<((jP (uD a)[k]).2.2.2.2.length:Int))) _ _=_
   cases hd:decide (yp (uD a)[k]<((jP (uD a)[k]).2.2.2.2.length:Int))with
   | true=>rw[cT];exact congrArg some (by simp only[cT];rfl)
   | false=>rw[cF];exact congrArg some (by simp only[cF];rfl)
 · obtain⟨q1,q2,q3⟩:=hJ.ok.resolve_left (by rw[hp];decide);rw[hp];simp only[show ((2:Int)==0)=false from rfl,show ((2:Int)==1)=false from rfl,show ((2:Int)==2)=true from rfl,cT,cF,an];show cond ((jP (uD a)[k]).1==163) _ _=_
   cases h163:((jP (uD a)[k]).1==163)with
   | true =>
    have hb:((uD a)[k].2.2.2.1 != 163)=false:=by rw[bne,show ((uD a)[k].2.2.2.1==163)=true from h163];rfl
    simp only[hb,cT,cF];refine vh (Sk (b:=aB a) h.b (w:=aW a) (lo:=vM a) (la:=va a) hk hn q1 h163) ?_;cases ((aB a).2.2.2.2.2.2.2.2.2.2==(jB (uD a)[k]).2.2.2.2.2.2.2.2.2.2)with
    | true=>rfl
    | false=>cases decide (vl (uD a)[k]>=3)<;>rfl
   | false =>
    have hb:((uD a)[k].2.2.2.1 != 163)=true:=by rw[bne,show ((uD a)[k].2.2.2.1==163)=false from h163];rfl
    simp only[hb,cT,cF];refine vh (a:=wF (jB (uD a)[k]) (jP (uD a)[k])) (QX hJ.bw hJ.bl hJ.pl) ?_;exact vh (Oq (b:=aB a) (w:=aW a) (lo:=vM a) (la:=va a) hk hn (wF (jB (uD a)[k]) (jP (uD a)[k])).2.1) rfl
theorem QY {a:uN} (h:we a) {k:Nat} (hk:k<(uD a).length):br a (k:Int)=some (yX a k (uD a)[k]):=by
 have hn:=h.n;unfold br;rw[Cr h.ale,an,Hy h.awf,an,h.ok,Bool.not_true,cF];have hw:uB ((a.2.2.2.2.2.2.2.2.2.2.2.2.1.length:Int)-1)=((uD a).length:Int)-1:=uX (by show -9223372036854775808<=((uD a).length:Int)-1;omega) (by show ((uD a).length:Int)-1<=_;omega)
 rw[hw,Al,an,AH (by omega) (by omega),an,Bool.not_true,cF,Sl h hk,an]
theorem Q3 {a:uN} (h:we a) {k:Int} (hk:k<0\/((uD a).length:Int)<=k):br a k=some (a,[]):=by
 have hn:=h.n;unfold br;rw[Cr h.ale,an,Hy h.awf,an,h.ok,Bool.not_true,cF];have hw:uB ((a.2.2.2.2.2.2.2.2.2.2.2.2.1.length:Int)-1)=((uD a).length:Int)-1:=uX (by show -9223372036854775808<=((uD a).length:Int)-1;omega) (by show ((uD a).length:Int)-1<=_;omega)
 have hp:uE k 0 (((uD a).length:Int)-1)=false:=by
  unfold uE;rcases hk with hk|hk
  · rw[dF (by omega)];rfl
  · rw[dF (show ¬k<=((uD a).length:Int)-1 by omega),Bool.and_false]
 rw[hw,Al,an,hp,an,Bool.not_false,cT]
theorem Ni {a:uN} (hw:Hx a) (hl:EW M a) (hb:∀j∈uD a,wJ j.2.1) (k:Int):∃r,ef a k=some r/\br a k=some r/\(xj a=true->we r.1/\r.2.length<=1)/\(xj a=false->r=(a,[]))/\vM r.1=vM a/\va r.1=va a:=by
 cases hp:xj a with
 | false =>
  refine⟨(a,[]),?_,?_,(λh=>by cases h),λ_=>rfl,rfl,rfl⟩
  · unfold ef;rw[zH hl,an,D1 hw,an,hp];rfl
  · unfold br;rw[Cr hl,an,Hy hw,an,hp];rfl
 | true =>
  have h:=KA hw hl hb hp;by_cases hk:0<=k/\k<((uD a).length:Int)
  · obtain⟨n,rfl⟩:∃n:Nat,k=(n:Int):=⟨k.toNat,by omega⟩;have hn:n<(uD a).length:=by omega
    obtain⟨w1,w2⟩:=JF h hn;have hl:vM (yX a n (uD a)[n]).1=vM a/\va (yX a n (uD a)[n]).1=va a:=by
     rcases Hk h hn with ⟨j',e,_⟩|⟨b',d,e,_⟩<;>rw[e]<;>exact⟨rfl,rfl⟩
    exact⟨_,Sb h hn,QY h hn,λ_=>⟨w1,w2⟩,(λh=>by cases h),hl⟩
  · have hk':k<0\/((uD a).length:Int)<=k:=by omega
    exact⟨_,QL h hk',Q3 h hk',λ_=>⟨h,by simp⟩,(λh=>by cases h),rfl,rfl⟩

theorem JP {a:uN} (h:xj a=true):(uD a).length<=6/\uE (vM a) 0 1000000=true/\uE (va a) 0 1000000=true:=by
 unfold xj at h;simp only[aT,decide_eq_true_eq]at h;obtain⟨_,_,_,h4,h5,h6⟩:=h;exact⟨by omega,h5,h6⟩
theorem Q4 {a:uN} (ha:Hx a) (hl:EW M a) {b:List Int} (hb:b.length<=M):∃r,bv a b=some r/\bn a b=some r/\EW M r:=by
 have hM:M=1048576:=rfl;unfold bv bn;rw[zH hl,Cr hl,D1 ha,Hy ha];simp only[an];cases hp:xj a with
 | false=>exact⟨_,rfl,rfl,hl⟩
 | true =>
  obtain⟨h1,h2,h3⟩:=JP hp;obtain⟨m,m1,m2,_⟩:=IW h2;have m1':aD a.2.2.2.2.2.2.2.2.2.2.2.2.2.1=some m:=m1
  have m2':bm a.2.2.2.2.2.2.2.2.2.2.2.2.2.1=some m:=m2;simp only[Bool.not_true,cF,an,m1',m2',Am hb,yb hb];have hn:(uD a).length<=1048576:=ha.n
  by_cases h6:((uD a).length:Int)>=6
  · have h6':decide ((a.2.2.2.2.2.2.2.2.2.2.2.2.1.length:Int)>=6)=true:=dT h6;rw[h6',cT,an,cT];exact⟨_,rfl,rfl,hl⟩
  · have h6':decide ((a.2.2.2.2.2.2.2.2.2.2.2.2.1.length:Int)>=6)=false:=dF h6;rw[h6',cF,an];cases decide (a.2.2.2.2.2.2.2.2.2.2.2.2.2.2>=1000000)with
    | true=>exact⟨_,rfl,rfl,hl⟩
    | false =>
     have hap:∀j:vF,uV a.2.2.2.2.2.2.2.2.2.2.2.2.1 [j]=some (a.2.2.2.2.2.2.2.2.2.2.2.2.1++[j]):=λj=>uG (by show (uD a).length+1<=_;omega);simp only[cF,hap,an];refine⟨_,rfl,rfl,hl.1,hl.2.1,?_,?_⟩
     · show (uD a++[_]).length<=1048576;rw[length_append];show (uD a).length+1<=_;omega
     · intro j hj;rcases mem_append.1 hj with hj|hj
       · exact hl.2.2.2 j hj
       · simp only[mem_singleton]at hj;subst hj;exact⟨hb,⟨by show 0<=1048576;decide,λx hx=>by cases hx⟩,by show 0<=1048576;decide,by show 0<=1048576;decide,by show 0<=1048576;decide,by show 0<=1048576;decide,by show 0<=1048576;decide⟩
theorem KH {a:uN} (h:we a) {m:List Int} (hm:m.length<=M):bn a m=bv a m:=by
 obtain⟨r,r1,r2,_⟩:=Q4 h.awf h.ale hm;rw[r1,r2]
theorem HV {a:uN} (h:we a) {m:List Int} (hb:wJ m) (hm:m.length<=M):∃r,bv a m=some r/\bn a m=some r/\we r/\vM r+va r<=vM a+va a+1:=by
 by_cases hc:(uD a).length<6/\va a<1000000
 · have e:=PW h hm hc.1 hc.2;exact⟨_,e,(KH h hm).trans e,LP h hb hm hc.1 hc.2,by show vM a+(va a+1)<=_;omega⟩
 · have e:=PX h (m:=m) hc;refine⟨_,e,(KH h hm).trans e,Oj h,?_⟩;obtain⟨l1,l2⟩:=vz h.lo;show zo (vM a)+va a<=_
   unfold zo min2;rw[uX (by omega) (by omega)];split<;>omega
theorem Nj {b:uz} (h:vB b) {w:List UInt8} (hw:w.length<=20):dZ b w=some (vU b w [] 0 0):=by
 unfold dZ;rw[AD h.w,an,h.ok,Bool.not_true,cF,an,dF (by omega),cF,xp h.le,an];rfl
theorem Tm {l:List uF} (hn:l.length<=1000):cJ l=some (l.filterMap wR):=by
 unfold cJ;obtain⟨v,e1,rfl⟩:=uS (step:=λz:Int×List uF=>aR l z.1 z.2) (λk z=>z=((k:Int),(l.take k).filterMap wR)) l.length (λv=>v=l.filterMap wR)
  (λk z hk e=>by
   subst e;refine .inl ⟨_,?_,rfl⟩;have hfl:((l.take k).filterMap wR).length<=k:=Nat.le_trans (List.length_filterMap_le _ _) (by rw[length_take];omega)
   have t1:l.take (k+1)=l.take k++[l[k]]:=by rw[take_add_one,List.getElem?_eq_getElem hk];rfl
   have t2:(l.take (k+1)).filterMap wR=(l.take k).filterMap wR++(match wR l[k]with|some y=>[y]|none=>[]):=by
    rw[t1,List.filterMap_append]
    congr 1
    cases hq:wR l[k]with
    | none=>rw[List.filterMap_cons_none hq];rfl
    | some y=>rw[List.filterMap_cons_some hq];rfl
   have ha:∀y:uF,uV ((l.take k).filterMap wR) [y]=some ((l.take k).filterMap wR++[y]):=λy=>uG (by show _+1<=_;omega);show aR l (k:Int) _=_
   unfold aR;rw[vj (by omega),cT,uO hk,an,uL (by omega),t2];cases hs:l[k].2.2.2.2 with
   | true =>
    have hq:wR l[k]=some l[k]:=by unfold wR;rw[hs];rfl
    rw[hq];simp only[cT,ha,an]
   | false =>
    simp only[cF];by_cases h4:l[k].2.2.2.1>=4
    · have hq:wR l[k]=none:=by unfold wR;rw[hs,dT h4];rfl
      rw[hq,vd (by omega)];simp only[cF,append_nil]
    · have hq:wR l[k]=some (l[k].1,l[k].2.1,l[k].2.2.1,uB (l[k].2.2.2.1+1),false):=by unfold wR;rw[hs,dF h4];rfl
      rw[hq,vj (by omega)];simp only[cT,ha,an])
  (λz e=>by
   subst e;refine⟨_,?_,rfl⟩;show aR l (l.length:Int) _=_
   unfold aR;rw[vd (by omega),cF,take_length]) (x:=(0,[])) rfl
 have e1:loop (λz=>aR l z.1 z.2) (0,[])=some (l.filterMap wR):=e1;rw[e1,an]
theorem QZ {b:uz} (h:vB b):e9 b=some (BQ b):=by
 have hf:=HC h.f;obtain⟨r,r1,r2,_⟩:=Pl (JI h);obtain⟨c1,_⟩:=yS (Ai h.ok).1;have e:zp (IR b)=r:=by unfold zp;rw[r1];rfl
 unfold e9 BQ;rw[xp h.le,an,AD h.w,an,h.ok,Bool.not_true,cF,On c1,an,Tm (by have:=hf.n;omega),an,e];have r2':ca (b.1,b.2.1,b.2.2.1,b.2.2.2.1.filterMap wR,b.2.2.2.2.1,b.2.2.2.2.2.1,zo b.2.2.2.2.2.2.1,b.2.2.2.2.2.2.2.1,b.2.2.2.2.2.2.2.2.1,b.2.2.2.2.2.2.2.2.2.1,b.2.2.2.2.2.2.2.2.2.2)=some r:=r2
 rw[r2',an]
abbrev T1:=Int×List Int×Int×Int×Int×List UInt8×Int×Int×Int×Int×Int×List UInt8×Int×Int×List Pt×List uF×List uQ×List Int×List vF
def DJ (i:Int) (c:uM) (a:uN):T1:=(i,c.1,c.2.1,c.2.2,a.1,a.2.1,a.2.2.2.2.2.2.1,a.2.2.2.2.2.2.2.1,a.2.2.2.2.2.2.2.2.1,a.2.2.2.2.2.2.2.2.2.1,a.2.2.2.2.2.2.2.2.2.2.1,a.2.2.2.2.2.2.2.2.2.2.2.1,a.2.2.2.2.2.2.2.2.2.2.2.2.2.1,a.2.2.2.2.2.2.2.2.2.2.2.2.2.2,a.2.2.1,a.2.2.2.1,a.2.2.2.2.1,a.2.2.2.2.2.1,a.2.2.2.2.2.2.2.2.2.2.2.2.1)
noncomputable def EB (z:T1):=gZ z.1 z.2.1 z.2.2.1 z.2.2.2.1 z.2.2.2.2.1 z.2.2.2.2.2.1 z.2.2.2.2.2.2.1 z.2.2.2.2.2.2.2.1 z.2.2.2.2.2.2.2.2.1 z.2.2.2.2.2.2.2.2.2.1 z.2.2.2.2.2.2.2.2.2.2.1 z.2.2.2.2.2.2.2.2.2.2.2.1 z.2.2.2.2.2.2.2.2.2.2.2.2.1 z.2.2.2.2.2.2.2.2.2.2.2.2.2.1 z.2.2.2.2.2.2.2.2.2.2.2.2.2.2.1 z.2.2.2.2.2.2.2.2.2.2.2.2.2.2.2.1 z.2.2.2.2.2.2.2.2.2.2.2.2.2.2.2.2.1 z.2.2.2.2.2.2.2.2.2.2.2.2.2.2.2.2.2.1 z.2.2.2.2.2.2.2.2.2.2.2.2.2.2.2.2.2.2
theorem Q5 {i:Int} (hi:i>0) {c:uM} (hc:CW c) {a:uN} (h:we a):∃c' a',EB (DJ i c a)=some (.inl (DJ (uB (i-1)) c' a'))/\CW c'/\we a'/\vM a'+va a'<=vM a+va a+1:=by
 dsimp only[EB,DJ];unfold gZ;rw[dT hi,cT];obtain⟨c1,r,e1,w1,_⟩:=wq hc 6;have e1':aa (c.1,c.2.1,c.2.2) 6=some (c1,r):=e1
 rw[e1',an];simp only;obtain⟨c2,m,e2,w2,hm⟩:=Sh w1 h.b;have hml:m.length<=M:=by have:=hm.2;show _<=1048576;omega
 obtain⟨x,_,x2,x3,x4⟩:=HV h hm.1 hml;have msg:∃c' a',((bJ c1 (a.1,a.2.1,a.2.2.1,a.2.2.2.1,a.2.2.2.2.1,a.2.2.2.2.2.1,a.2.2.2.2.2.2.1,a.2.2.2.2.2.2.2.1,a.2.2.2.2.2.2.2.2.1,a.2.2.2.2.2.2.2.2.2.1,a.2.2.2.2.2.2.2.2.2.2.1)).bind λt38 =>
  (bn (a.1,a.2.1,a.2.2.1,a.2.2.2.1,a.2.2.2.2.1,a.2.2.2.2.2.1,a.2.2.2.2.2.2.1,a.2.2.2.2.2.2.2.1,a.2.2.2.2.2.2.2.2.1,a.2.2.2.2.2.2.2.2.2.1,a.2.2.2.2.2.2.2.2.2.2.1,a.2.2.2.2.2.2.2.2.2.2.2.1,a.2.2.2.2.2.2.2.2.2.2.2.2.1,a.2.2.2.2.2.2.2.2.2.2.2.2.2.1,a.2.2.2.2.2.2.2.2.2.2.2.2.2.2) t38.2).bind λt39 =>
  some (Sum.inl (β:=List Int×Int×Int×Int×List UInt8×Int×Int×Int×Int×Int×List UInt8×Int×Int×List Pt×List uF×List uQ×List Int×List vF) (uB (i-1),t38.1.1,t38.1.2.1,t38.1.2.2,t39.1,t39.2.1,t39.2.2.2.2.2.2.1,t39.2.2.2.2.2.2.2.1,t39.2.2.2.2.2.2.2.2.1,t39.2.2.2.2.2.2.2.2.2.1,t39.2.2.2.2.2.2.2.2.2.2.1,t39.2.2.2.2.2.2.2.2.2.2.2.1,t39.2.2.2.2.2.2.2.2.2.2.2.2.2.1,t39.2.2.2.2.2.2.2.2.2.2.2.2.2.2,t39.2.2.1,t39.2.2.2.1,t39.2.2.2.2.1,t39.2.2.2.2.2.1,t39.2.2.2.2.2.2.2.2.2.2.2.2.1)))=some (.inl (DJ (uB (i-1)) c' a'))/\CW c'/\we a'/\vM a'+va a'<=vM a+va a+1:=by
  refine⟨c2,x,vh (a:=(c2,m)) e2 (vh (a:=x) x2 rfl),w2,x3,x4⟩
 have tick : ∃c' a', ((e9 (a.1, a.2.1, a.2.2.1, a.2.2.2.1, a.2.2.2.2.1, a.2.2.2.2.2.1, a.2.2.2.2.2.2.1, a.2.2.2.2.2.2.2.1, a.2.2.2.2.2.2.2.2.1, a.2.2.2.2.2.2.2.2.2.1, a.2.2.2.2.2.2.2.2.2.2.1)).bind λt44 =>
         some (Sum.inl (β:=List Int×Int×Int×Int×List UInt8×Int×Int×Int×Int×Int×List UInt8×Int×Int×List Pt×List uF×List uQ×List Int×List vF) (uB (i-1),c1.1,c1.2.1,c1.2.2,t44.1,t44.2.1,t44.2.2.2.2.2.2.1,t44.2.2.2.2.2.2.2.1,t44.2.2.2.2.2.2.2.2.1,t44.2.2.2.2.2.2.2.2.2.1,t44.2.2.2.2.2.2.2.2.2.2,a.2.2.2.2.2.2.2.2.2.2.2.1,a.2.2.2.2.2.2.2.2.2.2.2.2.2.1,a.2.2.2.2.2.2.2.2.2.2.2.2.2.2,t44.2.2.1,t44.2.2.2.1,t44.2.2.2.2.1,t44.2.2.2.2.2.1,a.2.2.2.2.2.2.2.2.2.2.2.2.1)))=some (.inl (DJ (uB (i-1)) c' a'))/\CW c'/\we a'/\vM a'+va a'<=vM a+va a+1:=by
  obtain⟨_,t2,_⟩:=P2 h.b;exact⟨c1,_,vh (a:=BQ (aB a)) (QZ h.b) rfl,w1,P3 h t2,by show vM a+va a<=_;omega⟩
 have hn:=h.n;have work : ∃c' a', ((aa c1 (uB ((a.2.2.2.2.2.2.2.2.2.2.2.2.1.length : Int)+1))).bind λt27 =>
         (br (a.1,a.2.1,a.2.2.1,a.2.2.2.1,a.2.2.2.2.1,a.2.2.2.2.2.1,a.2.2.2.2.2.2.1,a.2.2.2.2.2.2.2.1,a.2.2.2.2.2.2.2.2.1,a.2.2.2.2.2.2.2.2.2.1,a.2.2.2.2.2.2.2.2.2.2.1,a.2.2.2.2.2.2.2.2.2.2.2.1,a.2.2.2.2.2.2.2.2.2.2.2.2.1,a.2.2.2.2.2.2.2.2.2.2.2.2.2.1,a.2.2.2.2.2.2.2.2.2.2.2.2.2.2) t27.2).bind λt28 =>
         some (Sum.inl (β:=List Int×Int×Int×Int×List UInt8×Int×Int×Int×Int×Int×List UInt8×Int×Int×List Pt×List uF×List uQ×List Int×List vF) (uB (i-1),t27.1.1,t27.1.2.1,t27.1.2.2,t28.1.1,t28.1.2.1,t28.1.2.2.2.2.2.2.1,t28.1.2.2.2.2.2.2.2.1,t28.1.2.2.2.2.2.2.2.2.1,t28.1.2.2.2.2.2.2.2.2.2.1,t28.1.2.2.2.2.2.2.2.2.2.2.1,t28.1.2.2.2.2.2.2.2.2.2.2.2.1,t28.1.2.2.2.2.2.2.2.2.2.2.2.2.2.1,t28.1.2.2.2.2.2.2.2.2.2.2.2.2.2.2,t28.1.2.2.1,t28.1.2.2.2.1,t28.1.2.2.2.2.1,t28.1.2.2.2.2.2.1,t28.1.2.2.2.2.2.2.2.2.2.2.2.2.1)))=some (.inl (DJ (uB (i-1)) c' a'))/\CW c'/\we a'/\vM a'+va a'<=vM a+va a+1:=by
  obtain⟨c3,k,e3,w3,_⟩:=wq w1 (uB ((a.2.2.2.2.2.2.2.2.2.2.2.2.1.length:Int)+1));obtain⟨y,_,y2,y3,_,y4,y5⟩:=Ni h.awf h.ale (λj hj=>(h.j j hj).byt) k;exact⟨c3,y.1,vh (a:=(c3,k)) e3 (vh (a:=y) y2 rfl),w3,(y3 h.ok).1,by rw[y4,y5];omega⟩
 cases r==0 with
 | true=>exact msg
 | false =>
  cases r==1 with
  | true=>exact msg
  | false =>
   cases r==2 with
   | true=>exact tick
   | false=>exact work
theorem Q6 {c:uM} (hc:CW c) {most:Nat} (hm:most<=900):Dr (λa=>we a/\vM a+va a<=(most:Int)) (hC c (most:Int)):=by
 unfold hC;obtain⟨c1,b,e1,w1,hb,hp,_⟩:=HX hc;have hB:=By hb hp
 rw[e1,an];simp only;rw[Nj hB (by decide),an,uL (by omega)];obtain⟨c2,k,e2,w2,hk⟩:=wI w1 (n:=most+1) (by omega);have e2':aa c1 ((most+1:Nat):Int)=some (c2,(k:Int)):=e2
 rw[e2',an];obtain⟨d,d1,c3,a3,d2,d3,rfl⟩:=uS (step:=EB) (λj z=>∃c a,z=DJ ((k-j:Nat):Int) c a/\CW c/\we a/\vM a+va a<=(j:Int)) k (λd=>∃c a,CW c/\(we a/\vM a+va a<=(k:Int))/\d=(DJ 0 c a).2)
  (λj z hj ⟨c,a,e,w,h,hbd⟩=>by
   subst e;left;obtain⟨c',a',f1,f2,f3,f4⟩:=Q5 (i:=((k-j:Nat):Int)) (by omega) w h;refine⟨_,f1,c',a',?_,f2,f3,by omega⟩;rw[uX (by omega) (by omega),show ((k-j:Nat):Int)-1=((k-(j+1):Nat):Int) by omega])
  (λz ⟨c,a,e,w,h,hbd⟩=>by
   subst e;refine⟨_,?_,c,a,w,⟨h,hbd⟩,rfl⟩;dsimp only[EB,DJ];unfold gZ;rw[Nat.sub_self,dF (show ¬((0:Nat):Int)>0 by decide),cF]) (x:=DJ (k:Int) c2 (vU b [121,97,114,100] [] 0 0)) ⟨c2,_,rfl,w2,KD hB (by decide),by show (0:Int)+0<=_;omega⟩
 exact⟨c3,a3,vh d1 rfl,d2,d3.1,by have:=d3.2;omega⟩
theorem P6 {code:List Int} (h:code.length<=1048576) {m:Nat} (hm:m<=1000):∃k:Nat,bK code (m:Int)=some (k:Int)/\k<=m:=by
 unfold bK;have e:uB (3+(uB ((code.length:Int).tdiv 12)))=3+(code.length:Int)/12:=by
  rw[Int.tdiv_eq_ediv_of_nonneg (by omega),uX (n:=(code.length:Int)/12) (by omega) (by omega),uX (by omega) (by omega)]
 simp only[e];by_cases hk:3+(code.length:Int)/12>(m:Int)
 · rw[dT hk,cT];exact⟨m,rfl,Nat.le_refl _⟩
 · rw[dF hk,cF];exact⟨(3+(code.length:Int)/12).toNat,by rw[Int.toNat_of_nonneg (by omega)],by omega⟩
theorem LY {l:List Int} (hn:l.length<=M):iL l l=some true:=by
 have hn:l.length<=1048576:=hn;have e:loop (λz=>eV l l z) 0=some (.inl ()):=An (n:=l.length) (λk hk=>by
  show eV l l (k:Int)=_;unfold eV;rw[vj (by omega),cT,uO hk,an,an,uL (by omega)];simp) (by
  show eV l l (l.length:Int)=_;unfold eV;rw[vd (by omega),cF])
 unfold iL;rw[bne_self_eq_false,cF,e];rfl
theorem Nk {l:List vF} (hn:l.length<=M) (hl:∀j∈l,Pa M j):iM l l=some true:=by
 have hn:l.length<=1048576:=hn;have e:loop (λz=>eW l l z) 0=some (.inl ()):=An (n:=l.length) (λk hk=>by
  obtain⟨h1,h2,h3⟩:=hl _ (getElem_mem hk);show eW l l (k:Int)=_
  unfold eW;rw[vj (by omega),cT,uO hk,an,an,uL (by omega)];generalize l[k]=j at h1 h2 h3;have q1:=LY h1
  have q2:eU (j.2.2.2.1,j.2.2.2.2.1,j.2.2.2.2.2.1,j.2.2.2.2.2.2.1,j.2.2.2.2.2.2.2.1) (j.2.2.2.1,j.2.2.2.2.1,j.2.2.2.2.2.1,j.2.2.2.2.2.2.1,j.2.2.2.2.2.2.2.1)=some true:=JH h2;have q3:=Cn h3
  unfold jB at q3;simp only[bne_self_eq_false,cF,an,q1,q2,q3,Bool.not_true])
  (by
  show eW l l (l.length:Int)=_;unfold eW;rw[vd (by omega),cF])
 unfold iM;rw[bne_self_eq_false,cF,e];rfl
theorem LZ {a:uN} (h:EW M a):fL a a=some true:=by
 have q1:=Cn h.1;unfold aB at q1;have q2:=Nk h.2.2.1 h.2.2.2
 unfold fL;simp only[q1,q2,an,beq_self_eq_true,cT]
theorem Nl {l:List wa} (hn:l.length<=M) (hl:∀d∈l,xi M d.2):fM l l=some true:=by
 have hn:l.length<=1048576:=hn;have e:loop (λz=>eX l l z) 0=some (.inl ()):=An (n:=l.length) (λk hk=>by
  have h1:=hl _ (getElem_mem hk);show eX l l (k:Int)=_
  unfold eX;simp only[vj (show (k:Int)<(l.length:Int) by omega),cT,uO hk,an,uL (show k<9223372036854775807 by omega),bne_self_eq_false,cF,JH h1,Bool.not_true])
  (by
  show eX l l (l.length:Int)=_;unfold eX;rw[vd (by omega),cF])
 unfold fM;rw[bne_self_eq_false,cF,e];rfl

def AK (a:uN):Prop:=Hx a/\EW M a/\∀j∈uD a,wJ j.2.1
theorem we.any {a:uN} (h:we a):AK a:=⟨h.awf,h.ale,λj hj=>(h.j j hj).byt⟩
abbrev Ot:=Int×Int×List UInt8×Int×Int×Int×Int×Int×List UInt8×Int×Int×List Pt×List uF×List uQ×List Int×List vF
def AC (i:Int) (a:uN):Ot:=(i,a.1,a.2.1,a.2.2.2.2.2.2.1,a.2.2.2.2.2.2.2.1,a.2.2.2.2.2.2.2.2.1,a.2.2.2.2.2.2.2.2.2.1,a.2.2.2.2.2.2.2.2.2.2.1,a.2.2.2.2.2.2.2.2.2.2.2.1,a.2.2.2.2.2.2.2.2.2.2.2.2.2.1,a.2.2.2.2.2.2.2.2.2.2.2.2.2.2,a.2.2.1,a.2.2.2.1,a.2.2.2.2.1,a.2.2.2.2.2.1,a.2.2.2.2.2.2.2.2.2.2.2.2.1)
noncomputable def FW (z:Ot):=hN z.1 z.2.1 z.2.2.1 z.2.2.2.1 z.2.2.2.2.1 z.2.2.2.2.2.1 z.2.2.2.2.2.2.1 z.2.2.2.2.2.2.2.1 z.2.2.2.2.2.2.2.2.1 z.2.2.2.2.2.2.2.2.2.1 z.2.2.2.2.2.2.2.2.2.2.1 z.2.2.2.2.2.2.2.2.2.2.2.1 z.2.2.2.2.2.2.2.2.2.2.2.2.1 z.2.2.2.2.2.2.2.2.2.2.2.2.2.1 z.2.2.2.2.2.2.2.2.2.2.2.2.2.2.1 z.2.2.2.2.2.2.2.2.2.2.2.2.2.2.2
theorem Ou:wJ [1]:=λx hx=>by rw[mem_singleton.1 hx];omega
theorem TX {a:uN} (h:we a):∃b,loop (FW) (AC 0 a)=some (AC 0 b).2/\we b:=by
 obtain⟨d,d1,b,hb,rfl⟩:=uS (step:=FW) (λj z=>∃a,z=AC (j:Int) a/\we a) 6 (λd=>∃b,we b/\d=(AC 0 b).2)
  (λj z hj ⟨a,e,h⟩=>by
   subst e;left;obtain⟨r,_,r2,r3,_⟩:=HV h Ou (by decide);have r2':bn (a.1,a.2.1,a.2.2.1,a.2.2.2.1,a.2.2.2.2.1,a.2.2.2.2.2.1,a.2.2.2.2.2.2.1,a.2.2.2.2.2.2.2.1,a.2.2.2.2.2.2.2.2.1,a.2.2.2.2.2.2.2.2.2.1,a.2.2.2.2.2.2.2.2.2.2.1,a.2.2.2.2.2.2.2.2.2.2.2.1,a.2.2.2.2.2.2.2.2.2.2.2.2.1,a.2.2.2.2.2.2.2.2.2.2.2.2.2.1,a.2.2.2.2.2.2.2.2.2.2.2.2.2.2) ([1]:List Int)=some r:=r2
   refine⟨AC ((j+1:Nat):Int) r,?_,r,rfl,r3⟩;dsimp only[FW,AC];unfold hN;rw[dT (show (j:Int)<6 by omega),cT,r2',an,uL (by omega)])
  (λz ⟨a,e,h⟩=>by
   subst e;refine⟨_,?_,a,h,rfl⟩;dsimp only[FW,AC];unfold hN;rw[dF (show ¬((6:Nat):Int)<6 by decide),cF]) (x:=AC 0 a) ⟨a,rfl,h⟩
 exact⟨b,d1,hb⟩
theorem Sm {c:uM} (hc:CW c) {most:Nat} (hm:most<=900):Dr AK (fD c (most:Int)):=by
 unfold fD;refine Dr.bind (Q6 hc hm) λc a hc ha=>?_;have hA:=ha.1.any
 have hn:=ha.1.n;refine Dr.bind (wq hc 16) λc k hc _=>?_;refine Dr.cond ?_ (Dr.cond ?_ (Dr.cond ?_ (Dr.cond ?_ (Dr.cond ?_ ?_))))
 · obtain⟨c',b,e,w,h1,h2⟩:=RO hc;simp only;rw[e,an];exact Dr.some w ⟨⟨h1,hA.1.n,hA.1.j⟩,⟨h2,hA.2.1.2⟩,hA.2.2⟩
 · exact Dr.bind (AE hc (by decide)) λc x hc _=>Dr.some hc ⟨⟨hA.1.b,hA.1.n,hA.1.j⟩,hA.2.1,hA.2.2⟩
 · exact Dr.bind (AE hc (by decide)) λc x hc _=>Dr.some hc ⟨⟨hA.1.b,hA.1.n,hA.1.j⟩,hA.2.1,hA.2.2⟩
 · refine Dr.bind (wq hc 2) λc u hc _=>?_;refine Dr.bind (wq hc 4) λc v hc _=>?_;refine Dr.bind (wq hc 3) λc s hc _=>?_;refine Dr.bind (wq hc 5) λc t hc _=>?_;refine Dr.bind (Q:=CX) (LQ hc ha.1.b.w λc hc=>by obtain⟨c',o,e,w,h⟩:=Mf hc ha.1.b;exact⟨c',o,e,w,h⟩) λc p hc hp=>?_;obtain⟨c',b,e,w,h1,h2,_⟩:=HX hc;simp only;rw[e,an];have hap:∀j:vF,uV a.2.2.2.2.2.2.2.2.2.2.2.2.1 [j]=some (uD a++[j]):=λj=>uG (by show (uD a).length+1<=_;omega)
   simp only;rw[hap,an];refine Dr.some w ⟨⟨hA.1.b,?_,?_⟩,⟨hA.2.1.1,hA.2.1.2.1,?_,?_⟩,?_⟩
   · show (uD a++[_]).length<=1048576;rw[length_append];show (uD a).length+1<=_;omega
   · intro j hj;rcases mem_append.1 (show j∈uD a++[_]from hj)with hj|hj
     · exact hA.1.j j hj
     · rw[mem_singleton.1 hj];exact⟨hp.le,h1⟩
   · show (uD a++[_]).length<=1048576;rw[length_append];show (uD a).length+1<=_;omega
   · intro j hj;rcases mem_append.1 (show j∈uD a++[_]from hj)with hj|hj
     · exact hA.2.1.2.2.2 j hj
     · rw[mem_singleton.1 hj];exact⟨(by show 0<=1048576;decide),hp.le,(By h1 h2).le⟩
   · intro j hj;rcases mem_append.1 (show j∈uD a++[_]from hj)with hj|hj
     · exact hA.2.2 j hj
     · rw[mem_singleton.1 hj];intro x hx;cases hx
 · obtain⟨b,l1,l2⟩:=TX ha.1;simp only;exact⟨c,b,vh l1 rfl,hc,l2.any⟩
 · exact Dr.some hc hA
theorem Dr.mono {α:Type} {P Q:α->Prop} {o:Option (uM×α)} (h:Dr P o) (k:∀x,P x->Q x):Dr Q o:=by
 obtain⟨c,x,e,w,hx⟩:=h;exact⟨c,x,e,w,k x hx⟩
def Nn (n:Nat) (p:v9):Prop:=p.2.2.2.2.length<=n/\∀x∈p.2.2.2.2,FC M x
theorem Nn.le {n:Nat} {p:v9} (h:Nn n p) (hn:n<=1000):xi M p:=⟨by have:=h.1;show _<=1048576;omega,h.2⟩
theorem Nn.up {n m:Nat} {p:v9} (h:Nn n p) (hn:n<=m):Nn m p:=⟨Nat.le_trans h.1 hn,h.2⟩
theorem KI {b:uz} (h:xt b) (hb:yz M b) {p:v9} (hp:xi M p):yz M (wF b p).1/\xi M (wF b p).2.1/\((wF b p).2.2=false->(wF b p).1=b):=by
 have h0:xi M (0,0,0,0,[]):=⟨by show 0<=1048576;decide,λx hx=>by cases hx⟩;unfold wF;cases he:CU b p with
 | false=>exact⟨hb,h0,λ_=>rfl⟩
 | true =>
  unfold CU at he;simp only[aT]at he;obtain⟨e1,e2,e3⟩:=he;have hdn:vB (yH b p).1:=by
   have:=Hj (By h e1) p;unfold wF CU at this;rw[e1,e2,e3]at this;exact this
  exact⟨hdn.le,Fy (Qs (N5 e2)),λhc=>by cases hc⟩
theorem R0 {p:v9} (hp:xi M p):xi M (zN p):=by
 unfold zN;cases wg (162,p.2.1,6,1,p.2.2.2.2)with
 | true=>exact hp
 | false=>exact⟨by show 0<=1048576;decide,λx hx=>by cases hx⟩
theorem R3 (w:List UInt8) {b:uz} (hb:vB b) {j:vF} (h:C8 j) {d:List wa} (hd:(yw w b j).2=.gone d):∀x∈d,xi M x.2:=by
 have one:∀{y:wa} {x:wa},xi M y.2->x∈[y]->xi M x.2:=λhy hx=>by rw[mem_singleton.1 hx];exact hy
 unfold yw at hd;cases h0:(j.2.2.1==0)with
 | true =>
  rw[h0,cT]at hd;cases h1:((vK w j.2.1).2==3)with
  | true=>rw[h1]at hd;cases hd;intro x hx;cases hx
  | false =>
   rw[h1,cF]at hd;cases h2:((vK w j.2.1).2 != 0||((vK w j.2.1).1.1==162))with
   | true=>rw[h2]at hd;cases hd;intro x hx;cases hx
   | false=>rw[h2]at hd;cases hd
 | false =>
  rw[h0,cF]at hd;cases h1:(j.2.2.1==2)with
  | true =>
   rw[h1,cT]at hd;cases h2:(j.2.2.2.1 != 163)with
   | true=>rw[h2]at hd;cases hd;exact λx hx=>one (KI h.bw h.bl h.pl).2.1 hx
   | false =>
    rw[h2,cF]at hd;cases h3:(b.2.2.2.2.2.2.2.2.2.2==(jB j).2.2.2.2.2.2.2.2.2.2)with
    | true=>rw[h3]at hd;cases hd;exact λx hx=>one (KI hb.w hb.le h.pl).2.1 hx
    | false =>
     rw[h3,cF]at hd;cases h4:decide (vl j>=3)with
     | true=>rw[h4]at hd;cases hd;exact λx hx=>one (R0 h.pl) hx
     | false=>rw[h4]at hd;cases hd
  | false =>
   rw[h1,cF]at hd;cases h2:decide (yp j<((jP j).2.2.2.2.length:Int))with
   | true=>rw[h2]at hd;cases hd
   | false=>rw[h2]at hd;cases hd
theorem R4 {a:uN} (h:we a) {k:Nat} (hk:k<(uD a).length):∀x∈(yX a k (uD a)[k]).2,xi M x.2:=by
 have hs:=λd=>R3 (aW a) h.b (h.j _ (getElem_mem hk)) (d:=d);unfold yX;cases hf:(yw (aW a) (aB a) (uD a)[k]).2 with
 | stay j'=>intro x hx;cases hx
 | gone d=>exact hs d hf
theorem R5 {b:uz} (h:xt b) (hb:yz M b) {w:List UInt8} (hw:w.length<=M):∃a,cg b w=some a/\dZ b w=some a/\EW M a:=by
 have hz:EW M (0,[],[],[],[],[],0,0,0,0,0,[],[],0,0):=by
  have h0:0<=M:=by decide
  exact⟨⟨h0,h0,h0,h0,h0⟩,h0,h0,λx hx=>by cases hx⟩
 unfold cg dZ;rw[yQ h,AD h,wl hb,xp hb];simp only[an];cases vk b with
 | false=>exact⟨_,rfl,rfl,hz⟩
 | true =>
  simp only[Bool.not_true,cF,an];cases decide ((w.length:Int)>20)with
  | true=>exact⟨_,rfl,rfl,hz⟩
  | false=>exact⟨_,rfl,rfl,hb,hw,by show 0<=1048576;decide,λx hx=>by cases hx⟩
theorem R6 {c:uM} (h:CW c) {b:uz} (hb:xt b):Dr JL (bJ c b):=by
 have hq:∀c,CW c->Dr CX (bG c b):=λc hc=>LQ hc hb λc hc=>by obtain⟨c',o,e,w,h⟩:=SM hc hb;exact⟨c',o,e,w,h⟩
 unfold bJ;refine Dr.bind (wq h 10) λc t hc _=>?_;refine Dr.cond ?_ (Dr.cond ?_ (Dr.cond ?_ ?_))
 · refine Dr.bind (hq c hc) λc p hc hp=>?_;simp only;rw[Ba _ hp.le,an];obtain⟨m1,m2⟩:=C0 [121,97,114,100] p;exact Dr.bind (N9 hc m1.1 m2) λc m hc hm=>Dr.some hc hm
 · refine Dr.bind (hq c hc) λc p hc hp=>?_;simp only;rw[Ba _ hp.le,an];exact Dr.some hc (C0 _ p).1
 · refine Dr.bind (JM hc) λc p hc hp=>?_;simp only;rw[Ba _ hp,an];exact Dr.some hc (C0 _ p).1
 · refine Dr.bind (hq c hc) λc p hc hp=>?_;simp only;rw[Ba _ hp.le,an];exact Dr.some hc (C0 _ p).1

theorem Tn {b:uz} (h:vB b) (i:Int) (f:zi):∃r,eP b i f=some r/\vB r.1/\r.2.length<=6:=by
 have s:=h.sok;have hn:=h.n6
 have hv:=s.v;have hq:=s.q
 obtain⟨q1,q2,q3,q4,q5⟩:=yS (Ai h.ok).1;have hfb:=HC h.f
 unfold eP;rw[wl h.le,an,HU h,an];cases hp:uE i 0 ((b.2.2.1.length:Int)-1)with
 | false=>exact⟨(b,[]),rfl,h,Nat.zero_le _⟩
 | true =>
 rw[Bool.not_true,cF,QO,an,an];cases hf:Hm f with
 | false=>exact⟨(b,[]),rfl,h,Nat.zero_le _⟩
 | true =>
 have hlen:f.2.2.2.length<=20:=by
  unfold Hm at hf;simp only[aT,decide_eq_true_eq]at hf;omega
 obtain⟨p0,p1⟩:=vz hp;obtain⟨k,rfl⟩:∃k:Nat,i=(k:Int):=⟨i.toNat,by omega⟩;have hk:k<b.2.2.1.length:=by omega
 obtain⟨c,_,hc,_⟩:=Nu b.1 (l:=b.2.2.1) (by omega);obtain⟨cl,hcl⟩:=QP (v:=(b.2.2.2.2.1,b.2.2.2.2.2.1)) hv (by show b.2.2.2.2.2.1.length<=6;omega) (k:=k) (by show k<b.2.2.2.2.2.1.length;omega) f.2.2.1;obtain⟨t,ht,_⟩:=JX (c:Int) (k:=k) (by omega);rw[Bool.not_true,cF,hc,an,hcl,an,ht,an];have hdrop:∃r,((aD b.2.2.2.2.2.2.2.2.2.1).bind λt51=>some ((b.1,b.2.1,b.2.2.1,b.2.2.2.1,b.2.2.2.2.1,b.2.2.2.2.2.1,b.2.2.2.2.2.2.1,b.2.2.2.2.2.2.2.1,b.2.2.2.2.2.2.2.2.1,t51,b.2.2.2.2.2.2.2.2.2.2),([]:List vZ)))=some r/\vB r.1/\r.2.length<=6:=by
  rw[Dp,an];have s':=N8 s hfb (d:=zo b.2.2.2.2.2.2.2.2.2.1) (v:=b.2.2.2.2.2.2.2.2.2.2) (Cy q4) q5
  exact⟨_,rfl,By (Hi s' s'.le) (s'.ok h.v),Nat.zero_le _⟩
 cases t with
 | false=>rw[Bool.not_false,cT,an,cT];exact hdrop
 | true =>
 rw[Bool.not_true,cF,an];cases cl.2 with
 | false=>rw[Bool.not_false,cT];exact hdrop
 | true =>
 rw[Bool.not_true,cF];obtain⟨F,hF,hFB⟩:=QN hfb cl.1 f.2.1 (k:Int);rw[hF,an,Dp,an];have s':=N8 s hFB (d:=b.2.2.2.2.2.2.2.2.2.1) (v:=zo b.2.2.2.2.2.2.2.2.2.2) q4 (Cy q5)
 have hB:=By (Hi s' s'.le) (s'.ok h.v);cases f.1 != 0 with
 | true =>
  obtain⟨u,hu⟩:=Sg hFB.n cl.1 f.1;obtain⟨o,o1,o6⟩:=KE hn (λz=>eN b (k:Int) f (c:Int) cl u z.1 z.2) (λj out hj ho=>by
   obtain⟨o,o1,o2⟩:=QR h (k:Int) hlen (c:Int) cl (λk=>cond (decide (u<0)) (some true) (some (u==k))) (λk=>by cases decide (u<0)<;>exact⟨_,rfl⟩) hj ho;refine⟨o,o1,?_⟩;show eN b (k:Int) f (c:Int) cl u (j:Int) out=_
   unfold eN;rw[vj (by omega),cT];exact o2) (λout=>by
   show eN b (k:Int) f (c:Int) cl u (b.2.2.1.length:Int) out=_;unfold eN;rw[vd (by omega),cF])
  rw[cT,hu,an];exact⟨_,vh o1 rfl,hB,o6⟩
 | false =>
  obtain⟨o,o1,o6⟩:=KE hn (λz=>eO b (k:Int) f (c:Int) cl z.1 z.2) (λj out hj ho=>by
   obtain⟨o,o1,o2⟩:=QR h (k:Int) hlen (c:Int) cl (λk=>cond (decide ((-1:Int)<0)) (some true) (some ((-1)==k))) (λk=>⟨true,rfl⟩) hj ho;refine⟨o,o1,?_⟩;show eO b (k:Int) f (c:Int) cl (j:Int) out=_
   unfold eO;rw[vj (by omega),cT];exact o2) (λout=>by
   show eO b (k:Int) f (c:Int) cl (b.2.2.1.length:Int) out=_;unfold eO;rw[vd (by omega),cF])
  rw[cF];exact⟨_,vh o1 rfl,hB,o6⟩
def T2 (x:Act):zi:=(x.2.2.2.2.1,x.2.2.2.2.2.1,x.2.2.2.2.2.2.1,x.2.2.2.2.2.2.2.1)
def T3 (x:Act):Ah:=x.2.2.2.2.2.2.2.2
noncomputable def oB (b:uz) (x:Act):Option (uz×List vZ) :=
 if x.1=3 then eP b x.2.1 (T2 x)else if x.1=4 then (eQ b x.2.1 (T3 x)).bind λr=>some (r,[])
 else if x.1=5 then (eR b x.2.1 x.2.2.1).bind λr=>some (r,[])else if x.1=6 then (eS b).bind λr=>some (r,[])else some (b,[])
theorem M0 {b:uz} (h:xt b) (hp:vk b=false) (i:Int):ct b i=some false:=by
 unfold ct;rw[yQ h,an,hp];rfl
theorem R7 {b:uz} (h:xt b) (hl:yz M b) (x:Act):∃r,oB b x=some r/\xt r.1/\yz M r.1/\r.2.length<=6/\(vk b=true->vB r.1)/\(vk b=false->r=(b,[])):=by
 cases hp:vk b with
 | false =>
  have e:oB b x=some (b,[]):=by
   unfold oB;split
   · unfold eP;rw[wl hl,M0 h hp];rfl
   · split
     · unfold eQ;rw[wl hl,M0 h hp];rfl
     · split
       · unfold eR;rw[wl hl,M0 h hp];rfl
       · split
         · unfold eS;rw[wl hl,yQ h,hp];rfl
         · rfl
  exact⟨_,e,h,hl,Nat.zero_le _,(λh=>by cases h),λ_=>rfl⟩
 | true =>
  have hB:=By h hp;have ok:∀{r:uz×List vZ},oB b x=some r->vB r.1->r.2.length<=6->∃r,oB b x=some r/\xt r.1/\yz M r.1/\r.2.length<=6/\(true=true->vB r.1)/\(true=false->r=(b,[])):=λe k hn=>⟨_,e,k.w,k.le,hn,λ_=>k,λh=>by cases h⟩
  unfold oB at ok ⊢;split
  · rename_i h3;obtain⟨r,r1,r2,r3⟩:=Tn hB x.2.1 (T2 x);exact⟨r,r1,r2.w,r2.le,r3,λ_=>r2,λh=>by cases h⟩
  · split
    · obtain⟨r,r1,r2⟩:=Se hB x.2.1 (T3 x);exact⟨(r,[]),by rw[r1];rfl,r2.w,r2.le,Nat.zero_le _,λ_=>r2,λh=>by cases h⟩
    · split
      · obtain⟨r,r1,r2⟩:=Sd hB x.2.1 x.2.2.1;exact⟨(r,[]),by rw[r1];rfl,r2.w,r2.le,Nat.zero_le _,λ_=>r2,λh=>by cases h⟩
      · split
        · obtain⟨r1,r2,_⟩:=P2 hB;exact⟨(BQ b,[]),by rw[r1];rfl,r2.w,r2.le,Nat.zero_le _,λ_=>r2,λh=>by cases h⟩
        · exact⟨(b,[]),rfl,h,hl,Nat.zero_le _,λ_=>hB,λh=>by cases h⟩
theorem R8 (a:uN) {x:Act} (h3:3<=x.1) {r:uz×List vZ} (e:oB (aB a) x=some r):cf a x=some (vU r.1 (aW a) (uD a) (vM a) (va a),r.2,[]):=by
 unfold cf;rw[show (x.1==1)=false from beq_eq_false_iff_ne.2 (by omega),cF,show (x.1==2)=false from beq_eq_false_iff_ne.2 (by omega),cF];unfold oB at e;by_cases k3:x.1=3
 · rw[if_pos k3]at e;rw[show (x.1==3)=true from beq_iff_eq.2 k3,cT];exact vh e rfl
 rw[if_neg k3]at e;rw[beq_eq_false_iff_ne.2 k3,cF];by_cases k4:x.1=4
 · rw[if_pos k4]at e;rw[show (x.1==4)=true from beq_iff_eq.2 k4,cT];obtain⟨q,q1,q2⟩:=Option.bind_eq_some_iff.1 e;cases q2;exact vh q1 rfl
 rw[if_neg k4]at e;rw[beq_eq_false_iff_ne.2 k4,cF];by_cases k5:x.1=5
 · rw[if_pos k5]at e;rw[show (x.1==5)=true from beq_iff_eq.2 k5,cT];obtain⟨q,q1,q2⟩:=Option.bind_eq_some_iff.1 e;cases q2;exact vh q1 rfl
 rw[if_neg k5]at e;rw[beq_eq_false_iff_ne.2 k5,cF];by_cases k6:x.1=6
 · rw[if_pos k6]at e;rw[show (x.1==6)=true from beq_iff_eq.2 k6,cT];obtain⟨q,q1,q2⟩:=Option.bind_eq_some_iff.1 e;cases q2;exact vh q1 rfl
 rw[if_neg k6]at e;rw[beq_eq_false_iff_ne.2 k6,cF];cases e;rfl
noncomputable def Aj (b:uz) (x:Act):uz:=((oB b x).getD (b,[])).1
theorem JQ {b:uz} {x:Act} {r:uz×List vZ} (e:oB b x=some r):Aj b x=r.1:=by unfold Aj;rw[e];rfl
theorem Q7 {b:uz} {x:Act} (h:x.1<3):Aj b x=b:=by
 unfold Aj oB;rw[if_neg (by omega),if_neg (by omega),if_neg (by omega),if_neg (by omega)];rfl
noncomputable def EC (l:List Act) (b:uz):uz:=(l.take 60).foldl Aj b
theorem HW:∀(l:List Act) (b:uz),xt b->yz M b->xt (l.foldl Aj b)/\yz M (l.foldl Aj b)
 | [],b,h,hl=>⟨h,hl⟩
 | x::l,b,h,hl=>by
  obtain⟨r,r1,r2,r3,_⟩:=R7 h hl x;have:=HW l r.1 r2 r3
  rw[foldl_cons,JQ r1];exact this
noncomputable def GB (l:List Act) (z:Ot):=iJ l z.1 z.2.1 z.2.2.1 z.2.2.2.1 z.2.2.2.2.1 z.2.2.2.2.2.1 z.2.2.2.2.2.2.1 z.2.2.2.2.2.2.2.1 z.2.2.2.2.2.2.2.2.1 z.2.2.2.2.2.2.2.2.2.1 z.2.2.2.2.2.2.2.2.2.2.1 z.2.2.2.2.2.2.2.2.2.2.2.1 z.2.2.2.2.2.2.2.2.2.2.2.2.1 z.2.2.2.2.2.2.2.2.2.2.2.2.2.1 z.2.2.2.2.2.2.2.2.2.2.2.2.2.2.1 z.2.2.2.2.2.2.2.2.2.2.2.2.2.2.2
theorem P7 {b:uz} (h:xt b) (hl:yz M b) {l:List Act} (hn:l.length<=M):fN b l=some (EC l b):=by
 have hn:l.length<=1048576:=hn;unfold fN;rw[wl hl,an];obtain⟨d,d1,d2⟩:=uS (step:=GB l) (λk z=>z=AC (k:Int) (vU (((l.take k).take 60).foldl Aj b) [] [] 0 0)) l.length (λd=>d=(AC 0 (vU (EC l b) [] [] 0 0)).2)
  (λk z hk e=>by
   subst e;left;obtain⟨f1,f2⟩:=HW ((l.take k).take 60) b h hl;have t1:l.take (k+1)=l.take k++[l[k]]:=by rw[take_add_one,List.getElem?_eq_getElem hk];rfl
   have hlk:(l.take k).length=k:=by rw[length_take];omega
   dsimp only[GB,AC];unfold iJ;rw[dT (show (k:Int)<(l.length:Int) by omega),cT,uO hk,an];by_cases h60:k<60
   · have e60:((l.take (k+1)).take 60).foldl Aj b=Aj (((l.take k).take 60).foldl Aj b) l[k]:=by
      rw[take_of_length_le (by rw[length_take];omega),take_of_length_le (l:=l.take k) (by omega),t1,List.foldl_append];rfl
     rw[dT (show (k:Int)<60 by omega),cT,xU,an,an];cases hp:uE l[k].1 3 6 with
     | true =>
      obtain⟨p1,p2⟩:=vz hp;obtain⟨r,r1,_⟩:=R7 f1 f2 l[k];have ha:=R8 (vU (((l.take k).take 60).foldl Aj b) [] [] 0 0) p1 r1
      rw[cT];refine⟨_,vh ha rfl,?_⟩;rw[e60,JQ r1,uL (by omega)];rfl
     | false =>
      have hb:Aj (((l.take k).take 60).foldl Aj b) l[k]=((l.take k).take 60).foldl Aj b:=by
       unfold uE at hp;have hx:¬(3<=l[k].1/\l[k].1<=6):=λhc=>by rw[dT hc.1,dT hc.2]at hp;cases hp
       unfold Aj oB;rw[if_neg (by omega),if_neg (by omega),if_neg (by omega),if_neg (by omega)];rfl
      rw[cF];refine⟨_,rfl,?_⟩;rw[e60,hb,uL (by omega)]
   · rw[dF (show ¬(k:Int)<60 by omega),cF,an,cF];refine⟨_,rfl,?_⟩;have e60:(l.take (k+1)).take 60=(l.take k).take 60:=by rw[List.take_take,List.take_take,Nat.min_eq_left (by omega),Nat.min_eq_left (by omega)]
     rw[e60,uL (by omega)])
  (λz e=>by
   subst e;refine⟨_,?_,rfl⟩;dsimp only[GB,AC];unfold iJ;rw[dF (show ¬(l.length:Int)<(l.length:Int) by omega),cF,take_length];rfl) (x:=AC 0 (vU b [] [] 0 0)) (by rw[List.take_zero,List.take_nil];rfl)
 rw[d2]at d1;exact vh d1 rfl
theorem BR:∀(l:List Act) (b:uz),(l.filter λx=>decide (x.1>=3)).foldl Aj b=l.foldl Aj b
 | [],b=>rfl
 | x::l,b=>by
  by_cases h:x.1>=3
  · rw[List.filter_cons_of_pos (by simpa using h),foldl_cons,foldl_cons,BR l]
  · rw[List.filter_cons_of_neg (by simpa using h),foldl_cons,Q7 (by omega),BR l]
theorem R9 {c:uM} (h:CW c) {b:uz} (hb:xt b):Dr C9 (fF c b):=by
 unfold fF;refine Dr.bind (AE h (by decide)) λc k hc _=>?_;refine Dr.cond ?_ (Dr.cond ?_ (Dr.cond ?_ (Dr.cond ?_ (Dr.cond ?_ ?_))))
 · exact Dr.bind (R6 hc hb) λc m hc hm=>Dr.some hc hm
 · exact Dr.bind (AE hc (by decide)) λc m hc _=>Dr.some hc E7
 · refine Dr.bind (wq hc 4) λc m hc _=>?_;exact Dr.bind (Q2 hc) λc f hc _=>Dr.some hc E7
 · refine Dr.bind (wq hc 4) λc m hc _=>?_;obtain⟨c1,v,e1,w1,_⟩:=Oy hc;simp only;rw[e1,an];exact Dr.some w1 E7
 · refine Dr.bind (wq hc 4) λc m hc _=>?_;obtain⟨c1,v,e1,w1⟩:=Hv hc 3;simp only;rw[e1,an];exact Dr.some w1 E7
 · exact Dr.some hc E7
theorem KJ {c:uM} (h:CW c) {b:uz} (hb:xt b) {most:Nat} (h1:1<=most) (hm:most<=1000):Dr (λl:List Act=>l.length<most/\∀x∈l,C9 x) (fG c b (most:Int)):=by
 obtain⟨c1,n,e1,w1,hn⟩:=wI h h1;unfold fG;rw[e1,an];obtain⟨d,d1,d2,d3,d4⟩:=QT (P:=C9) (draw:=λc=>fF c b) (λc hc=>R9 hc hb) (n:=n) (by omega) (λz:Int×List Int×Int×Int×List Act=>ea b z.1 z.2.1 z.2.2.1 z.2.2.2.1 z.2.2.2.2)
  (λi c0 c1 c2 out hi=>by
   show ea b i c0 c1 c2 out=_;unfold ea;rw[dT hi,cT])
  (λi c0 c1 c2 out hi=>by
   show ea b i c0 c1 c2 out=_;unfold ea;rw[dF hi,cF]) w1
 refine⟨_,_,vh d1 rfl,d2,by show d.2.2.2.length<most;omega,d4⟩
theorem Kk {code:List Int} (h:code.length<=1048576):∃b l,ia code=some (b,l)/\xt b/\yz M b/\l.length<=20/\∀x∈l,C9 x:=by
 obtain⟨c0,e0,w0⟩:=Rm (code:=code) h;obtain⟨c1,b,e1,w1,h1,h2⟩:=RO w0;obtain⟨k,e2,hk⟩:=P6 h (m:=10) (by omega);have e2:bK code 10=some (k:Int):=e2
 obtain⟨c3,l,e3,w3,hl,hx⟩:=KJ w1 h1 (most:=6+k) (by omega) (by omega);refine⟨b,l,?_,h1,h2,by omega,hx⟩;unfold ia;have ew:uB (6+(k:Int))=((6+k:Nat):Int):=by rw[uX (by omega) (by omega)];omega
 rw[e0,an,e1,an,e2,an,ew];exact vh (a:=(c3,l)) e3 rfl
theorem Np {code:List Int} (h:code.length<=1048576):∃a l,hU code=some (a,l)/\AK a/\l.length<=20/\∀x∈l,C9 x:=by
 obtain⟨c0,e0,w0⟩:=Rm (code:=code) h;obtain⟨c1,a,e1,w1,ha⟩:=Sm w0 (most:=2) (by omega);have e1:fD c0 2=some (c1,a):=e1
 obtain⟨k,e2,hk⟩:=P6 h (m:=14) (by omega);have e2:bK code 14=some (k:Int):=e2
 obtain⟨c3,l,e3,w3,hl,hx⟩:=KJ w1 ha.1.b (most:=6+k) (by omega) (by omega);refine⟨a,l,?_,ha,by omega,hx⟩;unfold hU;have ew:uB (6+(k:Int))=((6+k:Nat):Int):=by rw[uX (by omega) (by omega)];omega
 rw[e0,an,e1,an,e2,an,ew];exact vh (a:=(c3,l)) e3 rfl
theorem TY {a:uN} (h:AK a) {x:Act} (hx:C9 x):∃r,ce a x=some r/\AK r.1/\r.2.1.length<=6/\r.2.2.length<=1/\(∀d∈r.2.2,xi M d.2)/\(xj a=false->r=(a,[],[]))/\(xj a=true->3<=x.1->xj r.1=true/\r.1=vU (Aj (aB a) x) (aW a) (uD a) (vM a) (va a)):=by
 have hml:x.2.2.2.1.length<=M:=by have:=hx.2;show _<=1048576;omega
 unfold ce;rw[zH h.2.1,an,D1 h.1,an];cases hp:xj a with
 | false=>exact⟨(a,[],[]),rfl,h,Nat.zero_le _,Nat.zero_le _,(λd hd=>by cases hd),λ_=>rfl,λh=>by cases h⟩
 | true =>
  have hA:=KA h.1 h.2.1 h.2.2 hp;rw[Bool.not_true,cF];by_cases h3:3<=x.1
  · obtain⟨r,r1,r2,r3,r4,r5,_⟩:=R7 hA.b.w hA.b.le x;have hI:=P3 hA (r5 hA.b.ok)
    exact⟨_,vh (R8 a h3 r1) rfl,hI.any,r4,Nat.zero_le _,(λd hd=>by cases hd),(λh=>by cases h),λ_ _=>⟨hI.ok,by rw[JQ r1]⟩⟩
  · have fin:∀{r:uN×List vZ×List wa},cf a x=some r->AK r.1->r.2.1=[]->r.2.2.length<=1->(∀d∈r.2.2,xi M d.2)->∃r,((cf a x).bind λt18=>some t18)=some r/\AK r.1/\r.2.1.length<=6/\r.2.2.length<=1/\(∀d∈r.2.2,xi M d.2)/\(true=false->r=(a,[],[]))/\(true=true->3<=x.1->xj r.1=true/\r.1=vU (Aj (aB a) x) (aW a) (uD a) (vM a) (va a)) :=
     λe k1 k2 k3 k4=>⟨_,vh e rfl,k1,by rw[k2];exact Nat.zero_le _,k3,k4,(λh=>by cases h),λ_ h=>absurd h h3⟩
    unfold cf at fin ⊢;have hn:=hA.n
    by_cases h1:x.1=1
    · rw[show (x.1==1)=true by rw[h1];rfl]at fin ⊢;obtain⟨r,r1,_,r3,_⟩:=HV hA hx.1 hml;exact fin (r:=(r,[],[])) (by rw[cT];exact vh r1 rfl) r3.any rfl (Nat.zero_le _) λd hd=>by cases hd
    rw[beq_eq_false_iff_ne.2 h1]at fin ⊢;by_cases h2:x.1=2
    · rw[show (x.1==2)=true by rw[h2];rfl]at fin ⊢;have e:uB ((a.2.2.2.2.2.2.2.2.2.2.2.2.1.length:Int)-1)=((uD a).length:Int)-1:=uX (by show -9223372036854775808<=((uD a).length:Int)-1;omega) (by show ((uD a).length:Int)-1<=_;omega)
      rw[e,xU]at fin ⊢;cases hpk:uE x.2.1 0 (((uD a).length:Int)-1)with
      | false =>
       rw[hpk]at fin;exact fin (r:=(a,[],[])) rfl h rfl (Nat.zero_le _) λd hd=>by cases hd
      | true =>
       rw[hpk]at fin;obtain⟨p0,p1⟩:=vz hpk;obtain⟨k,hk⟩:∃k:Nat,x.2.1=(k:Int):=⟨x.2.1.toNat,by omega⟩;have hk':k<(uD a).length:=by omega
       obtain⟨w1,w2⟩:=JF hA hk';refine fin (r:=((yX a k (uD a)[k]).1,[],(yX a k (uD a)[k]).2)) ?_ w1.any rfl w2 (R4 hA hk');rw[cF,cT,an,cT,hk];exact vh (P1 hA hk') rfl
    rw[beq_eq_false_iff_ne.2 h2,beq_eq_false_iff_ne.2 (show x.1≠3 by omega),beq_eq_false_iff_ne.2 (show x.1≠4 by omega),beq_eq_false_iff_ne.2 (show x.1≠5 by omega),beq_eq_false_iff_ne.2 (show x.1≠6 by omega)]at fin ⊢;exact fin (r:=(a,[],[])) rfl h rfl (Nat.zero_le _) λd hd=>by cases hd

noncomputable def yT (a:uN) (x:Act):uN×List vZ×List wa:=(ce a x).getD (a,[],[])
noncomputable def AT:List Act->uN->List vZ->List wa->uN×List vZ×List wa
 | [],a,o,d=>(a,o,d)
 | x::l,a,o,d=>AT l (yT a x).1 (o++(yT a x).2.1) (d++(yT a x).2.2)
theorem T4 {a:uN} (h:AK a) {x:Act} (hx:C9 x):ce a x=some (yT a x)/\AK (yT a x).1/\(yT a x).2.1.length<=6/\(yT a x).2.2.length<=1/\(∀d∈(yT a x).2.2,xi M d.2)/\(xj a=false->yT a x=(a,[],[]))/\(xj a=true->3<=x.1->xj (yT a x).1=true/\(yT a x).1=vU (Aj (aB a) x) (aW a) (uD a) (vM a) (va a)):=by
 obtain⟨r,r1,r2⟩:=TY h hx;have e:yT a x=r:=by unfold yT;rw[r1];rfl
 rw[e];exact⟨r1,r2⟩
structure E8 (n:Nat) (r:uN×List vZ×List wa):Prop where
 a:AK r.1
 o:r.2.1.length<=6*n
 d:r.2.2.length<=n
 p:∀d∈r.2.2,xi M d.2
theorem GC {σ τ:Type} {l:List Act} (hl:l.length<=60) (hx:∀x∈l,C9 x) (st:Nat->uN->List vZ->List wa->σ) (fin:uN->List vZ->List wa->τ) (step:σ->Option (σ⊕τ))
 (hs:∀(k:Nat) (hk:k<l.length) (a:uN) (o:List vZ) (d:List wa),AK a->ce a l[k]=some (yT a l[k])->uV o (yT a l[k]).2.1=some (o++(yT a l[k]).2.1)->uV d (yT a l[k]).2.2=some (d++(yT a l[k]).2.2)->step (st k a o d)=some (.inl (st (k+1) (yT a l[k]).1 (o++(yT a l[k]).2.1) (d++(yT a l[k]).2.2))))
 (he:∀a o d,step (st l.length a o d)=some (.inr (fin a o d))) :
 ∀(n i:Nat) (a:uN) (o:List vZ) (d:List wa),i+n=l.length->E8 i (a,o,d)->loop step (st i a o d)=some (fin (AT (l.drop i) a o d).1 (AT (l.drop i) a o d).2.1 (AT (l.drop i) a o d).2.2)/\E8 60 (AT (l.drop i) a o d)
 | 0,i,a,o,d,hi,h=>by
  have e:l.drop i=[]:=List.drop_eq_nil_of_le (by omega);rw[e];have hi:i=l.length:=by omega
  have h2:=h.o;have h3:=h.d
  subst hi;exact⟨ve (he a o d),⟨h.a,by show o.length<=360;have:o.length<=6*l.length:=h2;omega,by show d.length<=60;have:d.length<=l.length:=h3;omega,h.p⟩⟩
 | n+1,i,a,o,d,hi,h=>by
  have hk:i<l.length:=by omega
  have e:l.drop i=l[i]::l.drop (i+1):=List.drop_eq_getElem_cons hk;have h2:o.length<=6*i:=h.o
  have h3:d.length<=i:=h.d;obtain⟨r1,r2,r3,r4,r5,_⟩:=T4 h.a (hx _ (getElem_mem hk));have r3:(yT a l[i]).2.1.length<=6:=r3
  have r4:(yT a l[i]).2.2.length<=1:=r4;generalize hd1:(yT a l[i]).2.1.length=n1 at r3;generalize hd2:(yT a l[i]).2.2.length=n2 at r4;have hn:=GC hl hx st fin step hs he n (i+1) (yT a l[i]).1 (o++(yT a l[i]).2.1) (d++(yT a l[i]).2.2) (by omega) ⟨r2,by show (o++(yT a l[i]).2.1).length<=6*(i+1);rw[length_append,hd1];omega,by show (d++(yT a l[i]).2.2).length<=i+1;rw[length_append,hd2];omega,λx hx=>by
   rcases mem_append.1 hx with hx|hx
   · exact h.p x hx
   · exact r5 x hx⟩
  rw[e];exact⟨v7 (hs i hk a o d h.a r1 (uG (by rw[hd1];omega)) (uG (by rw[hd2];omega))) hn.1,hn.2⟩
abbrev T5:=Int×Int×List UInt8×Int×Int×Int×Int×Int×List UInt8×Int×Int×List vZ×List wa×List Pt×List uF×List uQ×List Int×List vF
def M1 (i:Int) (a:uN) (o:List vZ) (d:List wa):T5:=(i,a.1,a.2.1,a.2.2.2.2.2.2.1,a.2.2.2.2.2.2.2.1,a.2.2.2.2.2.2.2.2.1,a.2.2.2.2.2.2.2.2.2.1,a.2.2.2.2.2.2.2.2.2.2.1,a.2.2.2.2.2.2.2.2.2.2.2.1,a.2.2.2.2.2.2.2.2.2.2.2.2.2.1,a.2.2.2.2.2.2.2.2.2.2.2.2.2.2,o,d,a.2.2.1,a.2.2.2.1,a.2.2.2.2.1,a.2.2.2.2.2.1,a.2.2.2.2.2.2.2.2.2.2.2.2.1)
noncomputable def GD (l:List Act) (z:T5):=hZ l z.1 z.2.1 z.2.2.1 z.2.2.2.1 z.2.2.2.2.1 z.2.2.2.2.2.1 z.2.2.2.2.2.2.1 z.2.2.2.2.2.2.2.1 z.2.2.2.2.2.2.2.2.1 z.2.2.2.2.2.2.2.2.2.1 z.2.2.2.2.2.2.2.2.2.2.1 z.2.2.2.2.2.2.2.2.2.2.2.1 z.2.2.2.2.2.2.2.2.2.2.2.2.1 z.2.2.2.2.2.2.2.2.2.2.2.2.2.1 z.2.2.2.2.2.2.2.2.2.2.2.2.2.2.1 z.2.2.2.2.2.2.2.2.2.2.2.2.2.2.2.1 z.2.2.2.2.2.2.2.2.2.2.2.2.2.2.2.2.1 z.2.2.2.2.2.2.2.2.2.2.2.2.2.2.2.2.2
theorem P8 {a:uN} (h:AK a):E8 0 (a,[],[]):=⟨h,Nat.le_refl _,Nat.le_refl _,λd hd=>by cases hd⟩
theorem P9 {a:uN} (h:AK a) {l:List Act} (hl:l.length<=60) (hx:∀x∈l,C9 x):fJ a l=some (AT l a [] [])/\E8 60 (AT l a [] []):=by
 have hp:=GC hl hx (λk a o d=>M1 (k:Int) a o d) (λa o d=>(M1 0 a o d).2) (GD l)
  (λk hk a o d ha e1 e2 e3=>by
   dsimp only[GD,M1];unfold hZ;rw[dT (show (k:Int)<(l.length:Int) by omega),cT,uO hk,an,dF (show ¬(k:Int)>=60 by omega),cF,uL (by omega)];exact vh e1 (vh e2 (vh e3 rfl)))
  (λa o d=>by
   dsimp only[GD,M1];unfold hZ;rw[dF (show ¬(l.length:Int)<(l.length:Int) by omega),cF]) l.length 0 a [] [] (by omega) (P8 h)
 rw[drop_zero]at hp;refine⟨?_,hp.2⟩;unfold fJ;rw[zH h.2.1,an];exact vh hp.1 rfl
theorem Nq {l:List vZ} (hn:l.length<=M):fK l l=some true:=by
 have hn:l.length<=1048576:=hn;have e:loop (λz=>ee l l z) 0=some (.inl ()):=An (n:=l.length) (λk hk=>by
  have hf:∀f:zi,i0 f f=some true:=λf=>by
   unfold i0;simp only[beq_self_eq_true,cT,an]
  show ee l l (k:Int)=_;unfold ee;simp only[vj (show (k:Int)<(l.length:Int) by omega),cT,uO hk,an,uL (show k<9223372036854775807 by omega),bne_self_eq_false,cF,hf,Bool.not_true])
  (by
  show ee l l (l.length:Int)=_;unfold ee;rw[vd (by omega),cF])
 unfold fK;rw[bne_self_eq_false,cF,e];rfl
theorem E8.same {r:uN×List vZ×List wa} (h:E8 60 r):fL r.1 r.1=some true/\fK r.2.1 r.2.1=some true/\fM r.2.2 r.2.2=some true :=
 ⟨LZ h.a.2.1,Nq (by have:=h.o;show _<=1048576;omega),Nl (by have:=h.d;show _<=1048576;omega) h.p⟩
theorem Iy:∀(l:List Act) (a:uN) (o:List vZ) (d:List wa),AK a->xj a=true->(∀x∈l,C9 x/\3<=x.1)->aB (AT l a o d).1=l.foldl Aj (aB a)
 | [],a,o,d,h,hp,hx=>rfl
 | x::l,a,o,d,h,hp,hx=>by
  obtain⟨_,r2,_,_,_,_,r6⟩:=T4 h (hx x (.head _)).1;obtain⟨k1,k2⟩:=r6 hp (hx x (.head _)).2;show aB (AT l (yT a x).1 _ _).1=_
  rw[Iy l _ _ _ r2 k1 λy hy=>hx y (.tail _ hy),k2];rfl

end Go.V.W

