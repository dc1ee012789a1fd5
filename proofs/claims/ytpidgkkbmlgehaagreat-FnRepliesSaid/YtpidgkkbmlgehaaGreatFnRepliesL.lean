/- The law FnReplies: part of the proof that for every input it returns true. No condition. -/
import Derived.Test.YtpidgkkbmlgehaaGreatFnRepliesB
open List (length_map)
set_option linter.unusedVariables false
set_option linter.unusedSimpArgs false
namespace Go.V.W
theorem HV {b:nI} (h:oY b):uw b []=(b,0,0):=by
 have e:bw b []=some (b,0,0):=by
  unfold bw;rw[tT h.le,Option.bind_some];rfl
 unfold uw;rw[e];rfl
theorem IF {b:nI} (h:oY b) {p:oe} (hk:p.1=160\/p.1=161\/p.1=163\/p.1=165) :
 ((ov b p).1=b/\(ov b p).2.2.2.1=7/\(ov b p).2.2.2.2.2=[]) \/
 (p.1=160/\ov b p=(b,162,p.2.1,0,0,p.2.2.2.2.map λx=>(x.1,sC b x.1))) \/
 (p.1=161/\ov b p=(b,162,p.2.1,0,0,p.2.2.2.2.map λx=>oN b x.1)) \/
 (p.1=163/\((ov b p).2.2.2.1=7->p.2.2.2.2=[]->(ov b p).1=b)/\(ov b p).2.2.2.2.2=p.2.2.2.2) \/
 (p.1=165/\(ov b p).1=b):=by
 unfold ov;cases hf:p8 (qO b p).2 with
 | false =>
  rw[cF];by_cases h5:p.1=165
  · exact .inr (.inr (.inr (.inr ⟨h5,Cm b p⟩)))
  · left;unfold sZ;rw[show (p.1==165)=false from beq_eq_false_iff_ne.2 h5,cF];exact⟨rfl,rfl,rfl⟩
 | true =>
  rw[cT];right;rcases hk with hk|hk|hk|hk
  · left;refine⟨hk,?_⟩;unfold qO;rw[hk];rfl
  · right;left;refine⟨hk,?_⟩;unfold qO;rw[hk];rfl
  · right;right;left;refine⟨hk,λ_ hn=>?_,?_⟩
    · unfold qO;rw[hk,hn,HV h];rfl
    · unfold qO;rw[hk];rfl
  · right;right;right;refine⟨hk,?_⟩;unfold qO;rw[hk];rfl
theorem AS {t:nI×oe} {r:nI×oe×Bool} (hk:t.2.1≠160):loop (λz=>aX t r z) 0=some (.inl ()):=by
 refine oI ?_;unfold aX;rw[show (t.2.1==160)=false from beq_eq_false_iff_ne.2 hk];cases decide ((0:Int)<(r.2.1.2.2.2.2.length:Int))<;>rfl
theorem AT {t:nI×oe} {r:nI×oe×Bool} (hk:t.2.1≠161):loop (λz=>aY t r z) 0=some (.inl ()):=by
 refine oI ?_;unfold aY;rw[show (t.2.1==161)=false from beq_eq_false_iff_ne.2 hk];cases decide ((0:Int)<(r.2.1.2.2.2.2.length:Int))<;>rfl
theorem Jp {b:nI} (h:oY b) {p:oe} (hp:pK p=true) {r:nI×oe×Bool} (hr:r.2.1.2.2.2.2=p.2.2.2.2.map λx=>(x.1,sC b x.1)):loop (λz=>aX (b,p) r z) 0=some (.inl ()):=by
 obtain⟨h1,h2,_⟩:=pX hp;by_cases hk:p.1=160
 · refine uc (n:=p.2.2.2.2.length) (λk hkk=>?_) ?_
   · show aX (b,p) r (k:Int)=_;have hx:=h1 _ (List.getElem_mem hkk)
     have hg:=Dc h (o:=p.2.2.2.2[k].1) (by have:=qw (pt hx);omega);have hxo:qK (p.2.2.2.2[k].1,sC b p.2.2.2.2[k].1)=true:=by
      show (qC p.2.2.2.2[k].1&&qj (sC b p.2.2.2.2[k].1))=true;rw[pt hx,hg];rfl
     obtain⟨l1,l2,l3⟩:=qx hxo;have hM:M=1048576:=rfl
     have l1:p.2.2.2.2[k].1.length<=M:=l1;have l3:(sC b p.2.2.2.2[k].1).2.2.2.length<=M:=l3
     have ge:=(Db h (o:=p.2.2.2.2[k].1) (by have:=qw (pt hx);omega)).1;have hlen:decide ((k:Int)<(r.2.1.2.2.2.2.length:Int))=true:=dT (by rw[hr,length_map];omega)
     have a1:at? r.2.1.2.2.2.2 (k:Int)=some (p.2.2.2.2[k].1,sC b p.2.2.2.2[k].1):=by
      rw[hr,nX (by rw[length_map];exact hkk)];simp
     have a2:at? p.2.2.2.2 (k:Int)=some p.2.2.2.2[k]:=nX hkk;unfold aX;rw[hlen,cT,show ((b,p).2.1==160)=true from beq_iff_eq.2 hk,Option.bind_some,cT,a1,Option.bind_some];simp only[a2,Option.bind_some,ge];rw[sO (by omega),BI (by omega),Option.bind_some,beq_self_eq_true,nZ (by omega)];rfl
   · show aX (b,p) r (p.2.2.2.2.length:Int)=_;unfold aX;rw[dF (by rw[hr,length_map];omega),cF];rfl
 · exact AS hk
theorem Jq {b:nI} (h:oY b) {p:oe} (hp:pK p=true) {r:nI×oe×Bool} (hr:r.2.1.2.2.2.2=p.2.2.2.2.map λx=>oN b x.1):loop (λz=>aY (b,p) r z) 0=some (.inl ()):=by
 obtain⟨h1,h2,_⟩:=pX hp;by_cases hk:p.1=161
 · refine uc (n:=p.2.2.2.2.length) (λk hkk=>?_) ?_
   · show aY (b,p) r (k:Int)=_;have hx:=h1 _ (List.getElem_mem hkk)
     obtain⟨l1,l2,l3⟩:=qx (vi h (pt hx));have hM:M=1048576:=rfl
     have ge:=(x7 h (o:=p.2.2.2.2[k].1) (by have:=qw (pt hx);omega)).1;have hlen:decide ((k:Int)<(r.2.1.2.2.2.2.length:Int))=true:=dT (by rw[hr,length_map];omega)
     have a1:at? r.2.1.2.2.2.2 (k:Int)=some (oN b p.2.2.2.2[k].1):=by
      rw[hr,nX (by rw[length_map];exact hkk)];simp
     have a2:at? p.2.2.2.2 (k:Int)=some p.2.2.2.2[k]:=nX hkk;unfold aY;rw[hlen,cT,show ((b,p).2.1==161)=true from beq_iff_eq.2 hk,Option.bind_some,cT];simp only[a1,a2,Option.bind_some,ge];rw[sO (by omega),BI (by omega),Option.bind_some,beq_self_eq_true,nZ (by omega)];rfl
   · show aY (b,p) r (p.2.2.2.2.length:Int)=_;unfold aY;rw[dF (by rw[hr,length_map];omega),cF];rfl
 · exact AT hk
theorem fnReplies_pure (code:List Int) (hw:Cs.wf (.one (.sl (.one (.int .u8)))) code):u4 code=some true:=by
 unfold u4 f7;by_cases hbig:(code.length:Int)>1048576
 · simp only[dT hbig,Option.bind_some,cT]
 simp only[dF hbig,Option.bind_some,cF];obtain⟨b,p,ed,hB,hz,hq,hp⟩:=Hq (code:=code) (by omega);have hk162:(p.1 != 162)=true:=bne_iff_ne.2 (by rcases hq.k with k|k|k|k<;>omega)
 obtain⟨k1,k2,k3,k4,k5⟩:=Ee hB hp hk162;have e:s3 b p=((ov b p).1,(ov b p).2,true):=by unfold s3;rw[k1,cT]
 have hfit:=Ef (b:=b) hp;have hok:=Gm hfit
 have hle:tQ M (ov b p).2:=zA hok;have hBd:oY (ov b p).1:=by rw[←k3];exact De hB p
 rw[ed];simp only[Option.bind_some,Hi hB.w hB.le hq.le,Hn hB.w hB.le hq.le,e,beq_self_eq_true,Bool.not_true,cF,Fe hle,vI hBd.le,Fz hle,yi hle,hfit,hok];rw[show ((ov b p).2.1 != 162)=false by rw[k4];rfl,cF,show ((ov b p).2.2.1 != p.2.1)=false by rw[k5];exact bne_self_eq_false _];simp only[Option.bind_some,cF];have hx:=IF hB hq.k
 have h163:(cond (p.1 != 163) ((bY (ov b p).1 b).bind λt81=>some (!t81)) (some false))=some false:=by
  by_cases h3:p.1=163
  · rw[show (p.1 != 163)=false by rw[h3];rfl];rfl
  · have hb:(ov b p).1=b:=by
     rcases hx with hx|⟨_,hx⟩|⟨_,hx⟩|⟨hx,_⟩|⟨_,hx⟩
     · exact hx.1
     · rw[hx]
     · rw[hx]
     · exact absurd hx h3
     · exact hx
    rw[hb,vI hB.le];cases p.1 != 163<;>rfl
 simp only[h163,Option.bind_some,cF];by_cases h7:(ov b p).2.2.2.1=7/\(ov b p).2.2.2.2.2=[]
 · have hb:(ov b p).1=b:=by
    rcases hx with hx|⟨_,hx⟩|⟨_,hx⟩|⟨_,hx,hy⟩|⟨_,hx⟩
    · exact hx.1
    · rw[hx]
    · rw[hx]
    · exact hx h7.1 (by rw[←hy];exact h7.2)
    · exact hx
   rw[h7.1,h7.2,hb,vI hB.le];rfl
 · have e7:(cond ((ov b p).2.2.2.1==7) (some (((ov b p).2.2.2.2.2.length:Int)==0)) (some false))=some false:=by
    by_cases h1:(ov b p).2.2.2.1=7
    · have h2:(ov b p).2.2.2.2.2≠[]:=λh2=>h7 ⟨h1,h2⟩;rw[h1,show (((7:Int))==7)=true from rfl,cT];refine congrArg some (beq_eq_false_iff_ne.2 λh3=>h2 ?_);exact List.length_eq_zero_iff.1 (by omega)
    · rw[show ((ov b p).2.2.2.1==7)=false from beq_eq_false_iff_ne.2 h1];rfl
   rw[e7,Option.bind_some,cF];have fin:∀(L0:loop (λz=>aX (b,p) ((ov b p).1,(ov b p).2,true) z) 0=some (.inl ())) (L2:loop (λz=>aY (b,p) ((ov b p).1,(ov b p).2,true) z) 0=some (.inl ())) (hl:p.1=165\/(ov b p).2.2.2.2.2.length=p.2.2.2.2.length),
    ((loop (λz=>aX (b,p) ((ov b p).1,(ov b p).2,true) z) 0).bind (Sum.elim (λd =>
     (loop (λz=>aY (b,p) ((ov b p).1,(ov b p).2,true) z) 0).bind (Sum.elim (λd_1 =>
      (cond (p.1==165)
       (some true)
       (some (((ov b p).2.2.2.2.2.length:Int)==(p.2.2.2.2.length:Int)))).bind λt194 =>
      some t194) (λr=>some r))) (λr_1=>some r_1)))=some true:=λL0 L2 hl=>by
    rw[L0,Option.bind_some,Sum.elim_inl,L2,Option.bind_some,Sum.elim_inl];rcases hl with hl|hl
    · rw[hl];rfl
    · rw[hl,beq_self_eq_true];cases p.1==165<;>rfl
   rcases hx with hx|⟨hk,hx⟩|⟨hk,hx⟩|⟨hk,hx,hy⟩|⟨hk,hx⟩
   · exact absurd hx.2 h7
   · exact fin (Jp hB hp (by rw[hx])) (AT (by show p.1≠161;omega)) (.inr (by rw[hx];exact length_map _))
   · exact fin (AS (by show p.1≠160;omega)) (Jq hB hp (by rw[hx])) (.inr (by rw[hx];exact length_map _))
   · exact fin (AS (by show p.1≠160;omega)) (AT (by show p.1≠161;omega)) (.inr (by rw[hy]))
   · exact fin (AS (by show p.1≠160;omega)) (AT (by show p.1≠161;omega)) (.inl hk)
end Go.V.W

