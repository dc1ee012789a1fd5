/- V: a run of the model's code over plain data, and that it is what the machine does. Part 1 of 4. No condition. -/
import Derived.Calls
import Derived.Orders
import Derived.Deep.AppendSrc
import Derived.Laws.Entries
import Derived.Laws.Slices
import Derived.WideLaws
import Derived.Laws.Strings
import Derived.Laws.Strings2
import Derived.Laws.Concat
import Derived.Laws.BytesArg
import Derived.Lib.ConvBytes
import Derived.Laws.IdiomCopy
open List (drop_of_length_le length_take map_cons mem_append mem_append_left mem_append_right mem_cons mem_cons_of_mem mem_cons_self mem_map_of_mem mem_singleton nodup_append)
set_option linter.unusedVariables false
set_option linter.unusedSimpArgs false
namespace Go.V
theorem bF.{u} {α:Type u} [BEq α] [LawfulBEq α] {a b:α}:(a==b)=false↔a≠b:=beq_eq_false_iff_ne
theorem aT (a b:Bool):((a&&b)=true)=(a=true/\b=true):=Bool.and_eq_true a b
theorem dF {p:Prop} [h:Decidable p] (q:¬p):decide p=false:=decide_eq_false q
theorem dT {p:Prop} [h:Decidable p] (q:p):decide p=true:=decide_eq_true q
theorem cF.{u} {α:Sort u} (a b:α):cond false a b=b:=rfl
theorem cT.{u} {α:Sort u} (a b:α):cond true a b=a:=rfl

mutual
inductive CT where
 | int (k:IntKind)|bool|str|err|sl (e:Cs)
inductive Cs where
 | one (c:CT)|cons (c:CT) (r:Cs)
end
mutual
@[reducible] def CT.den:CT->Type
 | .int _=>Int
 | .bool=>Bool
 | .str=>List UInt8
 | .err=>Bool
 | .sl e=>List e.den
@[reducible] def Cs.den:Cs->Type
 | .one c=>c.den
 | .cons c r=>c.den×r.den
end
def nK:IntKind->Nat | .i8=>0 | .i16=>1 | .i32=>2 | .i64=>3 | .u8=>4 | .u16=>5 | .u32=>6 | .u64=>7
theorem pV {a b:IntKind} (h:nK a=nK b):a=b:=by cases a<;>cases b<;>first|rfl|simp[nK]at h
mutual
def CT.same:(c d:CT)->Option (PLift (c=d))
 | .int j,.int k=>if h:nK j=nK k then some ⟨by rw[pV h]⟩else none
 | .bool,.bool=>some ⟨rfl⟩
 | .str,.str=>some ⟨rfl⟩
 | .err,.err=>some ⟨rfl⟩
 | .sl e,.sl f=>match Cs.same e f with|some ⟨h⟩=>some ⟨by rw[h]⟩|none=>none
 | _,_=>none
def Cs.same:(c d:Cs)->Option (PLift (c=d))
 | .one c,.one d=>match CT.same c d with|some ⟨h⟩=>some ⟨by rw[h]⟩|none=>none
 | .cons c r,.cons d s=>match CT.same c d,Cs.same r s with|some ⟨h⟩,some ⟨k⟩=>some ⟨by rw[h,k]⟩|_,_=>none
 | _,_=>none
end
def oc {e f:Cs} (h:e=f) (xs:List e.den):List f.den:=h▸xs
mutual
def CT.zero:(c:CT)->c.den
 | .int _=>(0:Int)
 | .bool=>false
 | .str=>([]:List UInt8)
 | .err=>false
 | .sl _=>[]
def Cs.zero:(e:Cs)->e.den
 | .one c=>c.zero
 | .cons c r=>(c.zero,r.zero)
end
def Cs.len:Cs->Nat | .one _=>1 | .cons _ r=>r.len+1
def CT.isSl:CT->Bool | .sl _=>true|_=>false
def Cs.hasSl:Cs->Bool | .one c=>c.isSl | .cons c r=>c.isSl||r.hasSl

abbrev mF:=Nat
inductive Cell where
 | undef|void|nil
 | int (k:IntKind) (n:Int)|bool (b:Bool)|str (s:List UInt8)|err (b:Bool)
 | sh (e:Cs) (xs:List e.den)
 | own (r:mF)|win (r:mF) (lo hi:Nat)
 | box (n:mF) (off:Nat)|elem (r:mF) (i off:Nat)|shel (e:Cs) (x:e.den) (off:Nat)
 | sub (r : mF) (i j : Nat)
 | kid (r : mF) (j : Nat) (e : Cs) (xs : List e.den)
 | fn (f:FuncId) (caps:List mF)
inductive AV where
 | cell (c:Cell)|agg (cs:List Cell)|tup (vs:List AV)
def AV.undef:AV:=.cell .undef
def AV.cells:AV->List Cell | .cell c=>[c] | .agg cs=>cs | .tup _=>[]
inductive Entry where
 | gone|fwd (e:Cs) (xs:List e.den)|box (cs:List Cell)|root (e:Cs) (m:Bool) (xs:List e.den)
 | tree (e : Cs) (xs : List e.den)
 | frz (e : Cs) (xs : List e.den)
 | pop (e : Cs) (ys : List (Bool×e.den))
structure St where
 tm:List (Nat×AV)
 en:List (mF×Entry)
def mG {α:Type}:List (Nat×α)->Nat->Option α
 | [],_=>none
 | (j,x)::l,i=>cond (Nat.beq j i) (some x) (mG l i)
def St.tmp (S:St) (t:Nat):AV:=match mG S.tm t with|some v=>v|none=>.undef
def St.ent (S:St) (n:mF):Option Entry:=mG S.en n

inductive Rd (α:Type):Type 1 where
 | ret (a:α)|fail|get (n:mF) (k:Option Entry->Rd α)|opt {β:Type} (o:Option β) (k:β->Rd α)
namespace Rd
def bind {α β:Type}:Rd α->(α->Rd β)->Rd β
 | ret a,f=>f a
 | fail,_=>fail
 | get n k,f=>get n λe=>(k e).bind f
 | opt o k,f=>opt o λb=>(k b).bind f
def run {α A:Type} (S:mF->Option Entry):Rd α->(α->Option A)->Option A
 | ret a,k=>k a
 | fail,_=>none
 | get n f,k=>(f (S n)).run S k
 | opt o f,k=>o.bind λb=>(f b).run S k
def need:Bool->Rd Unit|true=>ret ()|false=>fail
def runL {α A:Type} (S:mF->Option Entry):Rd α->List mF->(α->List mF->Option A)->Option A
 | ret a,L,k=>k a L
 | fail,_,_=>none
 | get n f,L,k=>(f (S n)).runL S (n::L) k
 | opt o f,L,k=>o.bind λb=>(f b).runL S L k
def fresh:List (mF×Entry)->Rd Unit
 | []=>ret ()
 | (n,_)::l=>get n fun|none=>fresh l|some _=>fail
end Rd

abbrev mH (n:Int):Int:=IntKind.i64.wrap n
def va:Nat:=4294967296
def app {α:Type} (xs ys:List α):Option (List α):=if xs.length+ys.length<=va then some (xs++ys)else none
def AT (xs ys:List UInt8):Option (List UInt8):=if xs.length+ys.length<=va then some (xs++ys)else none
def at? {α:Type} (xs:List α) (i:Int):Option α:=if 0<=i then xs[i.toNat]? else none
def ix (n:Nat) (i:Int):Option Nat:=if 0<=i then (if i<(n:Int)then some i.toNat else none)else none
def cut {α:Type} (xs:List α) (lo hi:Int):Option (List α):=if 0<=lo then (if lo<=hi then (if hi<=(xs.length:Int)then some ((xs.take hi.toNat).drop lo.toNat)else none)else none)else none
def vY (n:Nat) (lo hi:Int):Option (Nat×Nat):=if 0<=lo then (if lo<=hi then (if hi<=(n:Int)then some (lo.toNat,hi.toNat)else none)else none)else none
def r6 (n:Int):Option Nat:=if 0<=n then (if n<=(va:Int)then some n.toNat else none)else none
def quo (k:IntKind) (a b:Int):Option Int:=if b=0 then none else some (k.wrap (a.tdiv b))
def rem (a b:Int):Option Int:=if b=0 then none else some (a.tmod b)
def shl (k:IntKind) (a b:Int):Option Int:=if b<0 then none else some (k.wrap (a*2^(min b.toNat k.bits)))
def shr (k:IntKind) (a b:Int):Option Int:=if b<0 then none else some (a.fdiv (2^(min b.toNat k.bits)))
def pp (k:IntKind) (a b:Int):Int:=k.wrap (BitVec.ofInt k.bits a&&&BitVec.ofInt k.bits b).toNat
def AU (k:IntKind) (a b:Int):Int:=k.wrap (BitVec.ofInt k.bits a|||BitVec.ofInt k.bits b).toNat
def Hd (k:IntKind) (a b:Int):Int:=k.wrap (BitVec.ofInt k.bits a ^^^ BitVec.ofInt k.bits b).toNat
def sJ (k:IntKind) (a b:Int):Int:=k.wrap (BitVec.ofInt k.bits a &&& ~~~ BitVec.ofInt k.bits b).toNat
def qV (xs:List Int):List UInt8:=xs.map λn=>UInt8.ofNat n.toNat
def vp (s:List UInt8):List Int:=s.map λb=>(b.toNat:Int)

def sc (e:Cs):Cell->Rd (List e.den)
 | .sh f xs=>match Cs.same f e with|some ⟨h⟩=>.ret (oc h xs)|none=>.fail
 | .nil=>.ret []
 | .own r=>.get r fun
  | some (.root f _ xs)=>match Cs.same f e with|some ⟨h⟩=>.ret (oc h xs)|none=>.fail
  | some (.fwd f xs)=>match Cs.same f e with|some ⟨h⟩=>.ret (oc h xs)|none=>.fail
  | some (.frz f xs)=>match Cs.same f e with|some ⟨h⟩=>.ret (oc h xs)|none=>.fail
  | _=>.fail
 | .win r lo hi=>.get r fun
  | some (.root f _ xs)=>match Cs.same f e with|some ⟨h⟩=>.ret (((oc h xs).take hi).drop lo)|none=>.fail
  | _=>.fail
 | .kid _ _ f xs=>match Cs.same f e with|some ⟨h⟩=>.ret (oc h xs)|none=>.fail
 | _=>.fail
def CT.read:(c:CT)->Cell->Rd c.den
 | .int k,.int j n=>cond (Nat.beq (nK j) (nK k)) (.ret n) .fail
 | .bool,.bool b=>.ret b
 | .str,.str s=>.ret s
 | .err,.err b=>.ret b
 | .sl e,x=>sc e x
 | _,_=>.fail
def Cs.read:(e:Cs)->List Cell->Rd e.den
 | .one c,[x]=>c.read x
 | .cons c r,x::xs=>(c.read x).bind λa=>(r.read xs).bind λb=>.ret (a,b)
 | _,_=>.fail
def AM (kp:Bool) (e:Cs):Cell->Rd (List e.den×List (mF×Entry))
 | .nil=>.ret ([],[])
 | .own r=>.get r fun
  | some (.root f true xs)=>match Cs.same f e with|some ⟨h⟩=>.ret (oc h xs,[(r,cond kp (.fwd f xs) .gone)])|none=>.fail
  | some (.frz f xs)=>cond kp (match Cs.same f e with|some ⟨h⟩=>.ret (oc h xs,[(r,.fwd f xs)])|none=>.fail) .fail
  | _=>.fail
 | _=>.fail
def zL (e:Cs):Cell->Rd (List e.den×Option Bool×List (mF×Entry))
 | .nil=>.ret ([],none,[])
 | .own r=>.get r fun
  | some (.root f m xs)=>match Cs.same f e with|some ⟨h⟩=>.ret (oc h xs,some m,[(r,.gone)])|none=>.fail
  | _=>.fail
 | .win r lo hi=>.get r fun
  | some (.root f m xs)=>match Cs.same f e with|some ⟨h⟩=>.ret (((oc h xs).take hi).drop lo,some m,[(r,.gone)])|none=>.fail
  | _=>.fail
 | _=>.fail
def AN (e:Cs) (c:Cell):Rd (List e.den×List (mF×Entry)):=(zL e c).bind λa=>.ret (a.1,a.2.2)
def tB (e:Cs):Cell->Rd (List e.den×List (mF×Entry))
 | .own r=>.get r fun
  | some (.root f _ xs)=>match Cs.same f e with|some ⟨h⟩=>.ret (oc h xs,[(r,.fwd f xs)])|none=>.fail
  | some (.fwd f xs)=>match Cs.same f e with|some ⟨h⟩=>.ret (oc h xs,[])|none=>.fail
  | some (.frz f xs)=>match Cs.same f e with|some ⟨h⟩=>.ret (oc h xs,[])|none=>.fail
  | _=>.fail
 | .win r lo hi=>.get r fun
  | some (.root f _ xs)=>match Cs.same f e with|some ⟨h⟩=>.ret (((oc h xs).take hi).drop lo,[(r,.fwd f xs)])|none=>.fail
  | _=>.fail
 | .sh f xs=>match Cs.same f e with|some ⟨h⟩=>.ret (oc h xs,[])|none=>.fail
 | .kid _ _ f xs=>match Cs.same f e with|some ⟨h⟩=>.ret (oc h xs,[])|none=>.fail
 | .nil=>.ret ([],[])
 | _=>.fail
def CT.into (m kp:Bool):(c:CT)->Cell->Rd (c.den×List (mF×Entry))
 | .sl e,x=>cond m (AM kp e x) (cond kp (tB e x) (AN e x))
 | c,x=>(c.read x).bind λa=>.ret (a,[])
def Cs.into (m kp:Bool):(e:Cs)->List Cell->Rd (e.den×List (mF×Entry))
 | .one c,[x]=>c.into m kp x
 | .cons c r,x::xs=>(c.into m kp x).bind λa=>(r.into m kp xs).bind λb=>.ret ((a.1,b.1),a.2++b.2)
 | _,_=>.fail
def mP:List (mF×Entry)->Bool
 | []=>true
 | (n,_)::l=>cond (l.any λp=>Nat.beq p.1 n) false (mP l)
def Cs.upd (m:Bool):(e:Cs)->e.den->Nat->List Cell->Rd (e.den×List (mF×Entry))
 | .one c,_,0,[v]=>c.into m true v
 | .one _,x,_,[]=>.ret (x,[])
 | .cons _ _,x,_,[]=>.ret (x,[])
 | .cons c r,x,0,v::vs=>(c.into m true v).bind λa=>(r.upd m x.2 0 vs).bind λb=>.ret ((a.1,b.1),a.2++b.2)
 | .cons _ r,x,n+1,vs=>(r.upd m x.2 n vs).bind λb=>.ret ((x.1,b.1),b.2)
 | _,_,_,_=>.fail
def CT.cell:(c:CT)->c.den->Cell
 | .int k,n=>.int k n
 | .bool,b=>.bool b
 | .str,s=>.str s
 | .err,b=>.err b
 | .sl e,xs=>.sh e xs
def Cs.cells:(e:Cs)->e.den->List Cell
 | .one c,x=>[c.cell x]
 | .cons c r,x=>c.cell x.1::r.cells x.2
def CT.give (m:Bool) (n:mF):(c:CT)->c.den->Cell×List (mF×Entry)
 | .sl e,xs=>(.own n,[(n,.root e m xs)])
 | c,x=>(c.cell x,[])
def Cs.give (m:Bool):mF->(e:Cs)->e.den->List Cell×List (mF×Entry)
 | n,.one c,x=>([(c.give m n x).1],(c.give m n x).2)
 | n,.cons c r,x=>((c.give m n x.1).1::(Cs.give m (n+1) r x.2).1,(c.give m n x.1).2++(Cs.give m (n+1) r x.2).2)
def CT.giveF (n:mF):(c:CT)->c.den->Cell×List (mF×Entry)
 | .sl e,xs=>(.own n,[(n,.frz e xs)])
 | c,x=>(c.cell x,[])
def Cs.giveF:mF->(e:Cs)->e.den->List Cell×List (mF×Entry)
 | n,.one c,x=>([(c.giveF n x).1],(c.giveF n x).2)
 | n,.cons c r,x=>((c.giveF n x.1).1::(Cs.giveF (n+1) r x.2).1,(c.giveF n x.1).2++(Cs.giveF (n+1) r x.2).2)
def tS:CT->Cell
 | .sl _=>.nil
 | c=>c.cell c.zero
def Cs.zeroCells:Cs->List Cell | .one c=>[tS c] | .cons c r=>tS c::r.zeroCells

def mI:List Cs->Type
 | []=>Unit
 | [c]=>c.den
 | c::d::r=>c.den×mI (d::r)
def mI.mk:(c:Cs)->(r:List Cs)->c.den->mI r->mI (c::r)
 | _,[],x,_=>x
 | _,_::_,x,y=>(x,y)
def mI.hd:(c:Cs)->(r:List Cs)->mI (c::r)->c.den
 | _,[],x=>x
 | _,_::_,x=>x.1
def mI.tl:(c:Cs)->(r:List Cs)->mI (c::r)->mI r
 | _,[],_=>()
 | _,_::_,x=>x.2
inductive nB where
 | val (agg:Bool) (cs:Cs) (mv:Bool)|ptr (cs:Cs) (own:Option Bool)
inductive ob where
 | val (agg:Bool) (cs:Cs) (own:Option Bool)|ptr (cs:Cs) (own:Option Bool)|cold (agg:Bool) (cs:Cs)
def nB.cs:nB->Cs | .val _ c _=>c | .ptr c _=>c
def ob.cs:ob->Cs | .val _ c _=>c | .ptr c _=>c | .cold _ c=>c
def mY:List nB->List Cs | []=>[]|p::r=>p.cs::mY r
def nr:List ob->List Cs | []=>[]|p::r=>p.cs::nr r
def nS:List nB->List ob->List Cs
 | [],rs=>nr rs
 | .ptr c _::ps,rs=>c::nS ps rs
 | .val .. :: ps,rs=>nS ps rs
structure Fn where
 ps:List nB
 rs:List ob
 den:mI (mY ps)->Option (mI (nS ps rs))
structure n7 where
 agg:Bool
 cs:Cs
 flds : List (Nat×Nat)
 elem : Nat
structure q9 where
 agg:Bool
 cs:Cs
 den:cs.den->Int->Option (cs.den×Int)
structure o9 where
 ti:List (Nat×n7)
 fns:List (FuncId×Fn)
 marks:List (FuncId×q9)
 trees : Bool

structure nu where
 val:AV
 ents:List (mF×Entry)
def one (c:Cell):Rd nu:=.ret ⟨.cell c,[]⟩
def r9 (v:AV) (news olds:List (mF×Entry)):Rd nu:=(Rd.need (mP news)).bind λ_=>(Rd.fresh news).bind λ_=>.ret ⟨v,news++olds⟩
def vq:Value->AV
 | .bool b=>.cell (.bool b)
 | .int k n=>.cell (.int k n)
 | .string s=>.cell (.str s.data.toList)
 | .slice none 0 0=>.cell .nil
 | .nilIface=>.cell (.err false)
 | _=>.undef
def St.eval (S:St):Operand->AV
 | .tmp t=>S.tmp t
 | .const v=>vq v
 | .func f=>.cell (.fn f [])
 | .global _=>.undef
def oV:CT->Cell->Cell->Option Bool
 | .int k,.int i a,.int j b=>cond (Nat.beq (nK i) (nK k)&&Nat.beq (nK j) (nK k)) (some (a==b)) none
 | .bool,.bool a,.bool b=>some (a==b)
 | .str,.str a,.str b=>some (a==b)
 | _,_,_=>none
def oa:Cs->List Cell->List Cell->Option Bool
 | .one c,[x],[y]=>oV c x y
 | .cons c r,x::xs,y::ys=>match oV c x y,oa r xs ys with|some a,some b=>some (a&&b)|_,_=>none
 | _,_,_=>none
def vr (op:BinOp) (k:IntKind) (a b:Int):Rd nu :=
 match op with
 | .add=>one (.int k (k.wrap (a+b)))
 | .sub=>one (.int k (k.wrap (a-b)))
 | .mul=>one (.int k (k.wrap (a*b)))
 | .quo=>.opt (quo k a b) λn=>one (.int k n)
 | .rem=>.opt (rem a b) λn=>one (.int k n)
 | .and=>one (.int k (pp k a b))
 | .or=>one (.int k (AU k a b))
 | .xor=>one (.int k (Hd k a b))
 | .andNot=>one (.int k (sJ k a b))
 | .eql=>one (.bool (a==b))
 | .neq=>one (.bool (a != b))
 | .lss=>one (.bool (decide (a<b)))
 | .leq=>one (.bool (decide (a<=b)))
 | .gtr=>one (.bool (decide (a>b)))
 | .geq=>one (.bool (decide (a>=b)))
 | _=>.fail
def s0:Operand->Bool | .const _=>true|_=>false
def pC (t:n7) (op:BinOp) (yc:Bool) (x y:AV):Rd nu :=
 match op,x,y with
 | .shl,.cell (.int k a),.cell (.int _ b)=>.opt (shl k a b) λn=>one (.int k n)
 | .shr,.cell (.int k a),.cell (.int _ b)=>.opt (shr k a b) λn=>one (.int k n)
 | op,.cell (.int k a),.cell (.int j b)=>cond (Nat.beq (nK j) (nK k)) (vr op k a b) .fail
 | .add,.cell (.str a),.cell (.str b)=>.opt (AT a b) λs=>one (.str s)
 | .eql,.cell (.str a),.cell (.str b)=>one (.bool (a==b))
 | .neq,.cell (.str a),.cell (.str b)=>one (.bool (!(a==b)))
 | .eql,.cell (.bool a),.cell (.bool b)=>match t.agg,t.cs with|false,.one .bool=>one (.bool (a==b))|_,_=>.fail
 | .neq,.cell (.bool a),.cell (.bool b)=>match t.agg,t.cs with|false,.one .bool=>one (.bool (!(a==b)))|_,_=>.fail
 | .eql,.cell (.err a),.cell (.err false)=>match t.agg,t.cs with|false,.one .err=>cond yc (one (.bool (!a))) .fail|_,_=>.fail
 | .neq,.cell (.err a),.cell (.err false)=>match t.agg,t.cs with|false,.one .err=>cond yc (one (.bool a)) .fail|_,_=>.fail
 | .eql,.agg a,.agg b=>cond t.agg (match oa t.cs a b with|some r=>one (.bool r)|none=>.fail) .fail
 | .neq,.agg a,.agg b=>cond t.agg (match oa t.cs a b with|some r=>one (.bool (!r))|none=>.fail) .fail
 | _,_,_=>.fail
def wX:AV->Rd nu
 | .cell (.str s)=>one (.int .i64 s.length)
 | .cell (.sh _ xs)=>one (.int .i64 xs.length)
 | .cell .nil=>one (.int .i64 0)
 | .cell (.own r)=>.get r fun
  | some (.root _ _ xs)=>one (.int .i64 xs.length)
  | some (.fwd _ xs)=>one (.int .i64 xs.length)
  | some (.tree _ xs)=>one (.int .i64 xs.length)
  | some (.frz _ xs)=>one (.int .i64 xs.length)
  | some (.pop _ ys)=>one (.int .i64 ys.length)
  | _=>.fail
 | .cell (.win r lo hi)=>.get r fun
  | some (.root _ _ xs)=>one (.int .i64 ((xs.take hi).drop lo).length)
  | _=>.fail
 | _=>.fail
def nF (f e:Cs):Bool:=(Cs.same f e).isSome
def sd (e:Cs) (x:AV) (i:AV):Rd nu :=
 match x,i with
 | .cell (.sh f xs),.cell (.int _ i)=>cond (nF f e) (.opt (at? xs i) λv=>one (.shel f v 0)) .fail
 | .cell (.own r),.cell (.int _ i)=>.get r fun
  | some (.root f _ xs)=>cond (nF f e) (.opt (ix xs.length i) λj=>one (.elem r j 0)) .fail
  | some (.tree f xs)=>cond (nF f e) (.opt (ix xs.length i) λj=>one (.elem r j 0)) .fail
  | some (.frz f xs)=>cond (nF f e) (.opt (ix xs.length i) λj=>one (.elem r j 0)) .fail
  | some (.pop f ys)=>cond (nF f e) (.opt (ix ys.length i) λj=>one (.elem r j 0)) .fail
  | some (.fwd f xs)=>cond (nF f e) (.opt (at? xs i) λv=>one (.shel f v 0)) .fail
  | _=>.fail
 | .cell (.win r lo hi),.cell (.int _ i)=>.get r fun
  | some (.root f _ _)=>cond (nF f e) (.opt (ix (hi-lo) i) λj=>one (.elem r (lo+j) 0)) .fail
  | _=>.fail
 | _,_=>.fail
def yL (i:n7) (x:AV):Bool :=
 match i.agg,i.cs,x with
 | false,.one .str,.cell (.str _)=>true
 | false,.one (.sl _),.cell (.str _)=>false
 | false,.one (.sl _),_=>true
 | _,_,_=>false
def CT.treeCell (r:mF) (i j:Nat):(c:CT)->c.den->Cell
 | .sl _,_=>.sub r i j
 | c,x=>c.cell x
def Cs.treeCells (r:mF) (i:Nat):(e:Cs)->(j:Nat)->e.den->List Cell
 | .one c,j,x=>[c.treeCell r i j x]
 | .cons c s,j,x=>c.treeCell r i j x.1::s.treeCells r i (j+1) x.2
def CT.kidCell (r:mF) (j:Nat):(c:CT)->c.den->Cell
 | .sl e,xs=>.kid r j e xs
 | c,x=>c.cell x
def Cs.kidCells (r:mF):(e:Cs)->(j:Nat)->e.den->List Cell
 | .one c,j,x=>[c.kidCell r j x]
 | .cons c s,j,x=>c.kidCell r j x.1::s.kidCells r (j+1) x.2
def Cell.flat:Cell->Bool | .int _ _=>true | .bool _=>true | .str _=>true|_=>false
def sub (cs:List Cell) (off n:Nat):List Cell:=(cs.drop off).take n
def tC (agg:Bool) (cs:List Cell):Rd nu:=match agg,cs with|true,cs=>.ret ⟨.agg cs,[]⟩|false,[c]=>one c|_,_=>.fail
def uv {α:Type} (ys:List (Bool×α)) (i:Nat):Option α:=ys[i]?.bind λy=>cond y.1 (some y.2) none
def xE (uid:mF) (t:n7):AV->Rd nu
 | .cell (.box n off)=>.get n fun
  | some (.box cs)=>cond (Nat.ble (off+t.cs.len) cs.length) (tC t.agg (sub cs off t.cs.len)) .fail
  | _=>.fail
 | .cell (.shel e x off)=>cond (Nat.ble (off+t.cs.len) e.len) (tC t.agg (sub (e.cells x) off t.cs.len)) .fail
 | .cell (.elem r i off)=>.get r fun
  | some (.root e _ xs)=>cond (Nat.ble (off+t.cs.len) e.len) (.opt xs[i]? λx=>tC t.agg (sub (e.cells x) off t.cs.len)) .fail
  | some (.tree e xs)=>cond (Nat.ble (off+t.cs.len) e.len) (.opt xs[i]? λx=>tC t.agg (sub (e.treeCells r i 0 x) off t.cs.len)) .fail
  | some (.frz e xs)=>cond (Nat.ble (off+t.cs.len) e.len) (.opt xs[i]? λx=>tC t.agg (sub (e.kidCells r 0 x) off t.cs.len)) .fail
  | some (.pop e ys)=>cond (Nat.beq off 0&&(nF e t.cs&&t.agg)) (.opt (uv ys i) λy=>r9 (.agg (e.giveF uid y).1) (e.giveF uid y).2 [(r,.pop e (ys.set i (false,y)))]) .fail
  | _=>.fail
 | _=>.fail
def setSub (cs:List Cell) (off:Nat) (vs:List Cell):List Cell:=cs.take off++vs++cs.drop (off+vs.length)
def oq:List Cell->Bool | []=>true | .undef::_=>false | .void::_=>false|_::l=>oq l
def vZ (t:n7) (a v:AV):Rd nu :=
 cond (Nat.beq v.cells.length t.cs.len&&oq v.cells)
  (match a with
  | .cell (.box n off)=>.get n fun
   | some (.box cs)=>cond (Nat.ble (off+t.cs.len) cs.length) (.ret ⟨.undef,[(n,.box (setSub cs off v.cells))]⟩) .fail
   | _=>.fail
  | .cell (.elem r i off)=>.get r fun
   | some (.root e m xs)=>cond (Nat.ble (off+t.cs.len) e.len)
    (.opt xs[i]? λx=>(e.upd m x off v.cells).bind λy=>(Rd.need (mP ((r,.gone)::y.2))).bind λ_=>.ret ⟨.undef,(r,.root e m (xs.set i y.1))::y.2⟩) .fail
   | some (.tree e xs)=>cond (Nat.ble (off+t.cs.len) e.len&&v.cells.all Cell.flat)
    (.opt xs[i]? λx=>(e.upd true x off v.cells).bind λy=>(match y.2 with | []=>.ret ⟨.undef,[(r,.tree e (xs.set i y.1))]⟩|_=>.fail)) .fail
   | _=>.fail
  | _=>.fail) .fail
def AW (e:Cs) (c:Cell):Rd (List e.den×Option Bool×List (mF×Entry)) :=
 cond e.hasSl
  (match c with
  | .own r=>.get r fun
   | some (.root f m xs)=>match Cs.same f e with|some ⟨h⟩=>.ret (oc h xs,some m,[(r,.fwd f xs)])|none=>.fail
   | some (.fwd f xs)=>match Cs.same f e with|some ⟨h⟩=>.ret (oc h xs,some false,[])|none=>.fail
   | _=>.fail
  | .sh f xs=>match Cs.same f e with|some ⟨h⟩=>.ret (oc h xs,some false,[])|none=>.fail
  | .win r lo hi=>.get r fun
   | some (.root f _ xs)=>match Cs.same f e with|some ⟨h⟩=>.ret (((oc h xs).take hi).drop lo,some false,[])|none=>.fail
   | _=>.fail
  | .nil=>.ret ([],none,[])
  | _=>.fail)
  ((sc e c).bind λxs=>.ret (xs,none,[]))
def yM:Option Bool->Option Bool->Option Bool
 | none,none=>some true
 | none,some m=>some m
 | some m,none=>some m
 | some true,some true=>some true
 | some false,some _=>some false
 | some true,some false=>some false
def DW {α:Type} (xs:List α) (lo hi lo2 hi2:Nat):Option (List α):=if hi<=lo2 then app ((xs.take hi).drop lo) ((xs.take hi2).drop lo2)else none
def CZ (e:Cs):Cell->Cell->Option (mF×Nat×Nat×Nat×Nat)
 | .win r lo hi,.win s lo2 hi2=>cond (Nat.beq r s&&e.hasSl) (some (r,lo,hi,lo2,hi2)) none
 | _,_=>none
def zM (uid:mF) (e:Cs) (q:mF×Nat×Nat×Nat×Nat):Rd nu:=.get q.1 fun
 | some (.root f m xs)=>match Cs.same f e with
  | some ⟨h⟩=>.opt (DW (oc h xs) q.2.1 q.2.2.1 q.2.2.2.1 q.2.2.2.2) λzs=>r9 (.cell (.own uid)) [(uid,.root e m zs)] [(q.1,.gone)]
  | none=>.fail
 | _=>.fail
def uw (uid:mF) (e:Cs) (x y:AV):Rd nu :=
 match x,y with
 | .cell x,.cell y=>match CZ e x y with
  | some q=>zM uid e q
  | none=>(zL e x).bind λa=>(AW e y).bind λb=>(Rd.need (mP (a.2.2++b.2.2))).bind λ_ =>
   match yM a.2.1 b.2.1 with
   | some m=>.opt (app a.1 b.1) λzs=>r9 (.cell (.own uid)) [(uid,.root e m zs)] (a.2.2++b.2.2)
   | none=>.fail
 | _,_=>.fail
def r7:Option AV->Option Int->Rd Int
 | none,some d=>.ret d
 | some (.cell (.int _ n)),_=>.ret n
 | _,_=>.fail
def w3 (t:n7) (x:AV) (lo hi:Option AV):Rd nu :=
 match t.agg,t.cs,x with
 | false,.one .str,.cell (.str s)=>(r7 lo (some 0)).bind λl=>(r7 hi (some s.length)).bind λh=>.opt (cut s l h) λr=>one (.str r)
 | false,.one (.sl e),.cell (.sh f xs)=>cond (nF f e) ((r7 lo (some 0)).bind λl=>(r7 hi (some xs.length)).bind λh=>.opt (cut xs l h) λr=>one (.sh f r)) .fail
 | false,.one (.sl e),.cell (.own r)=>.get r fun
  | some (.root f _ xs)=>cond (nF f e) ((r7 lo (some 0)).bind λl=>(r7 hi (some xs.length)).bind λh=>.opt (vY xs.length l h) λp=>one (.win r p.1 p.2)) .fail
  | some (.fwd f xs)=>cond (nF f e) ((r7 lo (some 0)).bind λl=>(r7 hi (some xs.length)).bind λh=>.opt (cut xs l h) λr=>one (.sh f r)) .fail
  | _=>.fail
 | _,_,_=>.fail
def qj (flds:List (Nat×Nat)) (sz:Nat->Nat):List Cell->List (Nat×AV)->Option (List Cell)
 | cs,[]=>some cs
 | cs,(i,v)::r=>match flds[i]? with|some f=>cond (Nat.beq v.cells.length (sz f.1)&&Nat.ble (f.2+v.cells.length) cs.length&&oq v.cells) (qj flds sz (setSub cs f.2 v.cells) r) none|none=>none
def w4 (e:Cs) (parts:List (Nat×AV)) (i:Nat):List Cell:=match mG parts i with|some v=>v.cells|none=>e.zeroCells
def ux (e:Cs) (m:Bool) (parts:List (Nat×AV)):Nat->Nat->Rd (List e.den×List (mF×Entry))
 | 0,_=>.ret ([],[])
 | n+1,i=>(e.into m true (w4 e parts i)).bind λa=>(ux e m parts n (i+1)).bind λb=>.ret (a.1::b.1,a.2++b.2)
def Gq:Cell->Bool | .sh ..=>false | .win ..=>false | .kid ..=>false|_=>true
def w5 (parts:List (Nat×AV)):Bool:=parts.all λp=>p.2.cells.all Gq
def rn (n:Nat):Nat->List (Nat×AV)->Bool
 | _,[]=>true
 | i,(j,_)::r=>Nat.ble i j&&Nat.blt j n&&rn n (j+1) r
def rP (uid:mF) (e:Cs) (n:Nat) (parts:List (Nat×AV)):Rd nu:=cond (Nat.ble (n*e.len) 16777216&&rn n 0 parts&&parts.all λp=>Nat.beq p.2.cells.length e.len&&oq p.2.cells) (
 (ux e (w5 parts) parts n 0).bind λr=>(Rd.need (mP r.2)).bind λ_=>r9 (.cell (.own uid)) [(uid,.root e (w5 parts) r.1)] r.2) .fail
def ra (G:o9) (t:Nat):Bool:=match mG G.ti t with|some j=>(match j.agg,j.cs with|false,.one (.int .u8)=>true|_,_=>false)|none=>false
def se (uid:mF) (src:n7) (sb:Bool) (dst:n7) (db:Bool) (x:AV):Rd nu :=
 match dst.agg,dst.cs,x with
 | false,.one (.int k),.cell (.int _ n)=>one (.int k (k.wrap n))
 | false,.one .str,.cell (.str s)=>one (.str s)
 | false,.one .str,.cell c=>(match src.agg,src.cs with
  | false,.one (.sl (.one (.int .u8)))=>cond sb ((sc (.one (.int .u8)) c).bind λxs=>one (.str (qV xs))) .fail
  | _,_=>.fail)
 | false,.one (.sl (.one (.int .u8))),.cell (.str s)=>(match src.agg,src.cs with
  | false,.one .str=>cond db (r9 (.cell (.own uid)) [(uid,.root (.one (.int .u8)) true (vp s))] []) .fail
  | _,_=>.fail)
 | _,_,_=>.fail
def AX (uid:mF) (r:mF):Rd nu:=.get r fun
 | some (.root e m xs)=>(match Cs.same e (.one (.int .u8)),xs with
  | some _,x::l=>r9 (.cell (.own uid)) [(uid,.root e m (x::l))] [(r,.gone)]
  | _,_=>.fail)
 | _=>.fail
def D1 (i:n7):AV->Option mF
 | .cell (.own r)=>(match i.agg,i.cs with|false,.one (.sl (.one (.int .u8)))=>some r|_,_=>none)
 | _=>none
structure w6 (ps:List Cs) where
 args:mI ps
 used:List (mF×Entry)
 ptrs:List mF
 ro : List mF
def Cell.names:Cell->List mF | .own r=>[r] | .win r _ _=>[r]|_=>[]
def sf:Option Bool->Bool|some true=>false|_=>true
def nB.sh:nB->Bool | .ptr c o=>sf o&&c.hasSl|_=>false
def ob.sh:ob->Bool | .val _ c o=>sf o&&c.hasSl | .ptr c o=>sf o&&c.hasSl | .cold ..=>false
def Cs.intoO (o:Option Bool) (c:Cs) (xs:List Cell):Rd (c.den×List (mF×Entry)):=match o with|none=>c.into false true xs|some m=>c.into m false xs
def pG (ps:List nB) (rs:List ob):Bool:=ps.any nB.sh||rs.any ob.sh
def qM:Bool->AV->Bool|false,.cell _=>true|true,.agg _=>true|_,_=>false
def nT (sl:Bool):(ps:List nB)->List AV->Rd (w6 (mY ps))
 | [],[]=>.ret ⟨(),[],[],[]⟩
 | .val agg c false::ps,v::vs=>(Rd.need (qM agg v)).bind λ_=>(cond sl (c.into false true v.cells) ((c.read v.cells).bind λa=>.ret (a,[]))).bind λa=>(nT sl ps vs).bind λb=>.ret ⟨mI.mk _ _ a.1 b.args,a.2++b.used,b.ptrs,cond sl [] (v.cells.flatMap Cell.names)++b.ro⟩
 | .val agg c true::ps,v::vs=>(Rd.need (qM agg v)).bind λ_=>(c.into true false v.cells).bind λa=>(nT sl ps vs).bind λb=>.ret ⟨mI.mk _ _ a.1 b.args,a.2++b.used,b.ptrs,b.ro⟩
 | .ptr c own::ps,.cell (.box n 0)::vs=>.get n fun
  | some (.box cs)=>(c.intoO own cs).bind λa=>(nT sl ps vs).bind λb=>.ret ⟨mI.mk _ _ a.1 b.args,(n,.gone)::(a.2++b.used),n::b.ptrs,b.ro⟩
  | _=>.fail
 | _,_=>.fail
structure D2 where
 vals:List AV
 news:List (mF×Entry)
 upds:List (mF×Entry)
def oL (own:Option Bool) (n:mF) (c:Cs) (x:c.den):List Cell×List (mF×Entry):=match own with|some m=>Cs.give m n c x|none=>(c.cells x,[])
def pb:Bool->List Cell->AV|false,[c]=>.cell c|_,cs=>.agg cs
def mZ (n:mF):(rs:List ob)->mI (nr rs)->D2
 | [],_=>⟨[],[],[]⟩
 | .val agg c own::rs,x =>
  let g:=oL own n c (mI.hd c (nr rs) x)
  let r:=mZ (n+64) rs (mI.tl c (nr rs) x)
  ⟨pb agg g.1::r.vals,g.2++r.news,r.upds⟩
 | .ptr c own::rs,x =>
  let g:=oL own (n+1) c (mI.hd c (nr rs) x)
  let r:=mZ (n+64) rs (mI.tl c (nr rs) x)
  ⟨AV.cell (.box n 0)::r.vals,(n,.box g.1)::(g.2++r.news),r.upds⟩
 | .cold agg c::rs,x =>
  let g:=Cs.giveF n c (mI.hd c (nr rs) x)
  let r:=mZ (n+64) rs (mI.tl c (nr rs) x)
  ⟨pb agg g.1::r.vals,g.2++r.news,r.upds⟩
def mN (n:mF):(ps:List nB)->(rs:List ob)->List mF->mI (nS ps rs)->D2
 | [],rs,_,x=>mZ n rs x
 | .val .. :: ps,rs,bs,x=>mN n ps rs bs x
 | .ptr c own::ps,rs,b::bs,x =>
  let g:=oL own n c (mI.hd c (nS ps rs) x)
  let r:=mN (n+64) ps rs bs (mI.tl c (nS ps rs) x)
  ⟨r.vals,g.2++r.news,(b,.box g.1)::r.upds⟩
 | .ptr .. :: _,_,[],_=>⟨[],[],[]⟩
def vu (uid:mF) (F:Fn) (args:List AV):Rd nu :=
 (nT (pG F.ps F.rs) F.ps args).bind λb=>(Rd.need (mP b.used&&b.ro.all λn=>(mG b.used n).isNone)).bind λ_=>.opt (F.den b.args) λr =>
  let g:=mN uid F.ps F.rs b.ptrs r
  r9 (match g.vals with | [v]=>v|vs=>.tup vs) g.news (g.upds++b.used)
def yN (e:Cs):Cell->Rd (List e.den)
 | .sh f xs=>match Cs.same f e with|some ⟨h⟩=>.ret (oc h xs)|none=>.fail
 | .nil=>.ret []
 | .own r=>.get r fun
  | some (.tree f xs)=>match Cs.same f e with|some ⟨h⟩=>.ret (oc h xs)|none=>.fail
  | _=>.fail
 | _=>.fail
def CT.lend:(c:CT)->Cell->Rd c.den
 | .sl e,x=>yN e x
 | .int k,x=>CT.read (.int k) x
 | .bool,x=>CT.read .bool x
 | .str,x=>CT.read .str x
 | .err,x=>CT.read .err x
def Cs.lend:(e:Cs)->List Cell->Rd e.den
 | .one c,[x]=>c.lend x
 | .cons c r,x::xs=>(c.lend x).bind λa=>(r.lend xs).bind λb=>.ret (a,b)
 | _,_=>.fail
def w7:(ps:List nB)->List AV->Rd (mI (mY ps))
 | [],[]=>.ret ()
 | .val agg c false::ps,v::vs=>(Rd.need (qM agg v)).bind λ_=>(c.lend v.cells).bind λa=>(w7 ps vs).bind λb=>.ret (mI.mk _ _ a b)
 | _,_=>.fail
def oo (ps:List nB):Bool:=ps.all fun | .val _ _ false=>true|_=>false
def vv (rs:List ob):Bool:=rs.all fun | .val _ c own=>!(sf own)||!c.hasSl | .ptr ..=>false | .cold ..=>false
def Entry.plant:Entry->Entry | .root e true xs=>.tree e xs|E=>E
def nv (l:List (mF×Entry)):List (mF×Entry):=l.map λp=>(p.1,p.2.plant)
def tT (uid:mF) (F:Fn) (args:List AV):Rd nu :=
 cond (oo F.ps&&vv F.rs) ((w7 F.ps args).bind λx=>.opt (F.den x) λr =>
  let g:=mN uid F.ps F.rs [] r
  r9 (match g.vals with | [v]=>v|vs=>.tup vs) (nv g.news) []) .fail
def yO:List Cell->Rd (List (mF×Entry))
 | []=>.ret []
 | .own r::l=>.get r fun
  | some (.tree e xs)=>(yO l).bind λb=>.ret ((r,.fwd e xs)::b)
  | _=>.fail
 | _::l=>yO l
def He (rs:List ob):Bool:=rs.all fun | .val _ c own=>(match own with|none=>true|some _=>!c.hasSl) | .ptr ..=>false | .cold ..=>false
def tU (uid:mF) (F:Fn) (args:List AV):Rd nu :=
 cond (oo F.ps&&He F.rs) ((w7 F.ps args).bind λx=>(yO (args.flatMap AV.cells)).bind λolds=>(Rd.need (mP olds)).bind λ_=>.opt (F.den x) λr =>
  let g:=mN uid F.ps F.rs [] r
  r9 (match g.vals with | [v]=>v|vs=>.tup vs) g.news olds) .fail
def tV (uid:mF) (F:Fn) (args:List AV):Rd nu:=cond (oo F.ps&&vv F.rs) (tT uid F args) (tU uid F args)
def Cs.slice (e:Cs):(f:Cs)->Nat->f.den->Option (List e.den)
 | .one (.sl e'),0,x=>match Cs.same e' e with|some ⟨h⟩=>some (oc h x)|none=>none
 | .cons (.sl e') _,0,x=>match Cs.same e' e with|some ⟨h⟩=>some (oc h x.1)|none=>none
 | .cons _ r,j+1,x=>Cs.slice e r j x.2
 | _,_,_=>none
def Cs.setSlice (e:Cs):(f:Cs)->Nat->f.den->List e.den->Option f.den
 | .one (.sl e'),0,_,ys=>match Cs.same e e' with|some ⟨h⟩=>some (oc h ys)|none=>none
 | .cons (.sl e') _,0,x,ys=>match Cs.same e e' with|some ⟨h⟩=>some (oc h ys,x.2)|none=>none
 | .cons _ r,j+1,x,ys=>match Cs.setSlice e r j x.2 ys with|some y=>some (x.1,y)|none=>none
 | _,_,_,_=>none
def D3 (e:Cs):Cell->Rd (List e.den)
 | .own r=>.get r fun
  | some (.tree f xs)=>match Cs.same f e with|some ⟨h⟩=>.ret (oc h xs)|none=>.fail
  | _=>.fail
 | _=>.fail
def CT.hold:(c:CT)->Cell->Rd c.den
 | .sl e,x=>D3 e x
 | .int k,x=>CT.read (.int k) x
 | .bool,x=>CT.read .bool x
 | .str,x=>CT.read .str x
 | .err,x=>CT.read .err x
def Cs.hold:(e:Cs)->List Cell->Rd e.den
 | .one c,[x]=>c.hold x
 | .cons c r,x::xs=>(c.hold x).bind λa=>(r.hold xs).bind λb=>.ret (a,b)
 | _,_=>.fail
def CT.held:(c:CT)->Cell->c.den->List (mF×Entry)
 | .sl e,.own r,ys=>[(r,.tree e ys)]
 | _,_,_=>[]
def Cs.held:(e:Cs)->List Cell->e.den->List (mF×Entry)
 | .one c,[x],y=>c.held x y
 | .cons c r,x::xs,y=>c.held x y.1++r.held xs y.2
 | _,_,_=>[]
def tP (M:q9):List AV->Rd nu
 | [.cell (.sub r i j),.cell (.int .i64 n)]=>(match M with
  | ⟨false,.one (.sl e),den⟩=>.get r fun
   | some (.tree f xs)=>.opt xs[i]? λx=>.opt (Cs.slice e f j x) λys=>.opt (den ys n) λz=>.opt (Cs.setSlice e f j x z.1) λx'=>.ret ⟨.cell (.int .i64 z.2),[(r,.tree f (xs.set i x'))]⟩
   | _=>.fail
  | _=>.fail)
 | [v,.cell (.int .i64 n)]=>(Rd.need (qM M.agg v)).bind λ_=>(M.cs.hold v.cells).bind λx=>.opt (M.den x n) λz =>
  (Rd.need (mP (M.cs.held v.cells z.1))).bind λ_=>.ret ⟨.cell (.int .i64 z.2),M.cs.held v.cells z.1⟩
 | _=>.fail
def vw (op:Int->Int->Int):List AV->Rd nu
 | [.cell (.int k a),.cell (.int j b)]=>cond (Nat.beq (nK j) (nK k)) (one (.int k (op a b))) .fail
 | _=>.fail
def min2 (a b:Int):Int:=if b<a then b else a
def max2 (a b:Int):Int:=if b>a then b else a
def rp (G:o9) (t:Nat):Nat:=match mG G.ti t with|some i=>i.cs.len|none=>0
def ti (G:o9) (t:Nat) (k:n7->Rd nu):Rd nu:=match mG G.ti t with|some i=>k i|none=>.fail
def zN (i:n7) (k:Rd nu):Rd nu:=match i.agg,i.cs with|false,.one (.sl _)=>k|_,_=>.fail
def qk:List AV->Option (List mF)
 | []=>some []
 | .cell (.box n 0)::l=>match qk l with|some ns=>some (n::ns)|none=>none
 | _=>none
def pc (G:o9) (uid:mF) (ρ:Operand->AV):Op->Rd nu
 | .move x | .assign x=>.ret ⟨ρ x,[]⟩
 | .pick c a b=>match ρ c,ρ a,ρ b with | .cell (.bool c),.cell (.bool a),.cell (.bool b)=>one (.bool (cond c a b))|_,_,_=>.fail
 | .alloc t=>ti G t λi=>r9 (.cell (.box uid 0)) [(uid,.box i.cs.zeroCells)] []
 | .box t x=>ti G t λi=>cond (Nat.beq (ρ x).cells.length i.cs.len&&oq (ρ x).cells) (r9 (.cell (.box uid 0)) [(uid,.box (ρ x).cells)] []) .fail
 | .build t parts=>ti G t λi=>cond i.agg (match qj i.flds (rp G) i.cs.zeroCells (parts.toList.map λp=>(p.1,ρ p.2))with|some cs=>.ret ⟨.agg cs,[]⟩|none=>.fail) .fail
 | .buildSlice t n parts=>ti G t λi=>zN i <| ti G i.elem λj=>rP uid j.cs n (parts.toList.map λp=>(p.1,ρ p.2))
 | .load t a=>ti G t λi=>xE uid i (ρ a)
 | .store t a v=>ti G t λi=>vZ i (ρ a) (ρ v)
 | .nilCheck x=>match ρ x with | .cell (.box n o)=>one (.box n o) | .cell (.elem r i o)=>one (.elem r i o) | .cell (.shel e x o)=>one (.shel e x o)|_=>.fail
 | .binOp op t x y _=>ti G t λi=>pC i op (s0 y) (ρ x) (ρ y)
 | .unOp .not _ x=>match ρ x with | .cell (.bool b)=>one (.bool (!b))|_=>.fail
 | .unOp .neg _ x=>match ρ x with | .cell (.int k n)=>one (.int k (k.wrap (0-n)))|_=>.fail
 | .convert s d x=>ti G s λj=>ti G d λi=>match D1 i (ρ x)with|some r=>cond (Nat.beq s d&&ra G i.elem) (AX uid r) .fail|none=>se uid j (ra G j.elem) i (ra G i.elem) (ρ x)
 | .makeSlice t (.tmp n) (.tmp m)=>ti G t λi=>zN i <| ti G i.elem λj=>cond (Nat.beq n m) (match ρ (.tmp n)with | .cell (.int _ n)=>.opt (r6 n) λm=>r9 (.cell (.own uid)) [(uid,.root j.cs true (List.replicate m j.cs.zero))] []|_=>.fail) .fail
 | .slice t x lo hi none=>ti G t λi=>w3 i (ρ x) (lo.map ρ) (hi.map ρ)
 | .fieldAddr s x f=>ti G s λi=>cond i.agg (match i.flds[f]?,ρ x with
  | some o,.cell (.box n off)=>one (.box n (off+o.2))
  | some o,.cell (.elem r j off)=>one (.elem r j (off+o.2))
  | some o,.cell (.shel e x off)=>one (.shel e x (off+o.2))
  | _,_=>.fail) .fail
 | .indexAddr t x i=>ti G t λj=>match j.agg,j.cs with|false,.one (.sl e)=>sd e (ρ x) (ρ i)|_,_=>.fail
 | .index t x i=>ti G t λj=>match j.agg,j.cs,ρ x,ρ i with|false,.one .str,.cell (.str s),.cell (.int _ i)=>.opt (at? s i) λb=>one (.int .u8 (b.toNat:Int))|_,_,_,_=>.fail
 | .extract x i=>match ρ x with | .tup vs=>(match vs[i]? with|some v=>.ret ⟨v,[]⟩|none=>.fail)|_=>.fail
 | .makeFunc (.func f) ⟨[]⟩ caps=>match qk (caps.toList.map ρ)with|some ns=>one (.fn f ns)|none=>.fail
 | .call { callee:=.builtin .len,args:=⟨[x]⟩,argTypes:=⟨[t]⟩ }=>ti G t λi=>cond (yL i (ρ x)) (wX (ρ x)) .fail
 | .call { callee:=.builtin .append,args:=⟨[x,y]⟩,argTypes:=⟨[t,t']⟩ }=>ti G t λi=>zN i <| ti G t' λi'=>zN i' <| ti G i.elem λj=>uw uid j.cs (ρ x) (ρ y)
 | .call { callee:=.builtin .min,args:=⟨[x,y]⟩,.. }=>vw min2 [ρ x,ρ y]
 | .call { callee:=.builtin .max,args:=⟨[x,y]⟩,.. }=>vw max2 [ρ x,ρ y]
 | .call { callee:=.value f,args,.. }=>match ρ f with
  | .cell (.fn g caps)=>(match mG G.fns g with
   | some F=>cond G.trees (match caps with | []=>tV uid F (args.toList.map ρ)|_=>.fail) (vu uid F (args.toList.map ρ++caps.map λn=>AV.cell (.box n 0)))
   | none=>match mG G.marks g,caps with|some M,[]=>tP M (args.toList.map ρ)|_,_=>.fail)
  | _=>.fail
 | _=>.fail
def St.put (S:St) (dst:Option Tmp) (e:nu):St:=⟨match dst with|some d=>(d,e.val)::S.tm|none=>S.tm,e.ents++S.en⟩

end Go.V
namespace Go.V

def AO (rid i:Nat):mF:=(rid*256+i+1)*1024
def qd (all:List Oper) (j:Nat):Option Tmp:=match all[j]? with|some o=>o.dst|none=>none
def w8:Bool->Bool->Bool|true,b=>b|false,b=>!b
def qK (t:Tmp):List (Nat×Oper)->Option (List (Nat×Oper)×(Nat×Oper)×List (Nat×Oper))
 | []=>none
 | (i,o)::r =>
  let next:=match qK t r with|some (a,b,c)=>some ((i,o)::a,b,c)|none=>none
  match o.op with
  | .pick (.tmp u) _ _=>cond (Nat.beq u t) (some ([],(i,o),r)) next
  | _=>next
def okGroup (all:List Oper) (j:Nat) (want:Bool) (t:Tmp) (grp:List (Nat×Oper)):Bool :=
 okFrom [] grp
where
 okFrom:List Nat->List (Nat×Oper)->Bool
  | _,[]=>true
  | seen,(k,o)::r=>(match o.guard with
   | some (i,w)=>(Nat.beq i j&&w8 w want)||(seen.any (λq=>Nat.beq q i)&&(match qd all i with|some _=>true|none=>false))
   | none=>false)&&((match o.dst with|some d=>!(Nat.beq d t)|none=>true)&&okFrom (k::seen) r)
def yP (all:List Oper) (kn:List (Nat×Bool)) (p:Oper):Bool :=
 match p.guard with
 | none=>true
 | some (i,w)=>match qd all i with|some t=>(match mG kn t with|some c=>w8 c w|none=>false)|none=>false
def Cw (G:o9) (ρ:Operand->AV):Op->Bool
 | .store ..=>false
 | .call { callee:=.builtin .append,.. }=>false
 | .call { callee:=.value f,.. }=>match ρ f with
  | .cell (.fn g _)=>(match mG G.fns g with|some F=>F.ps.all (fun | .val _ _ false=>true|_=>false)|none=>false)
  | _=>false
 | _=>true
def p6:List (Nat×Oper)->List (Nat×AV)
 | []=>[]
 | (_,o)::r=>match o.dst with|some d=>(d,.undef)::p6 r|none=>p6 r
def rb:AV->Option Bool | .cell (.bool b)=>some b|_=>none
def re (old new:List (mF×Entry)):Bool:=(new.take (new.length-old.length)).all λp=>match mG old p.1 with|none=>true|some _=>false
def s3 (c x y:AV):Rd nu :=
 match c,x,y with
 | .cell (.bool c),.cell (.bool a),.cell (.bool b)=>one (.bool (cond c a b))
 | .cell (.bool c),x,y=>cond c (.ret ⟨x,[]⟩) (.ret ⟨y,[]⟩)
 | _,_,_=>.fail
def sU (G:o9) (uid:mF) (ρ:Operand->AV):Op->Rd nu
 | .pick c a b=>s3 (ρ c) (ρ a) (ρ b)
 | op=>pc G uid ρ op
def oH:Nat->List Oper->List (Nat×Oper)
 | _,[]=>[]
 | i,o::r=>(i,o)::oH (i+1) r

def oz (B:List Nat) (i:Nat):Nat:=match B[i]? with|some b=>b|none=>0
def vz (acc:List Nat) (o:Oper):Nat:=o.after.toList.foldl (λs e=>cond (Region.binds .any e) (Nat.lor (Nat.lor s (Nat.shiftLeft 1 e.on)) (oz acc e.on)) s) 0
def rJ:List Oper->List Nat->List Nat
 | [],acc=>acc
 | o::r,acc=>rJ r (acc++[vz acc o])
def oW (b i:Nat):Bool:=Nat.beq (Nat.land 1 (Nat.shiftRight b i)) 1
def forward (p:Nat×Oper):Bool:=p.2.after.toList.all λe=>!(Region.binds .any e)||Nat.blt e.on p.1
def w9 (ops:Array Oper) (B:List Nat):List (Nat×Oper)->Bool
 | []=>true
 | (i,x)::r=>r.all (λq=>oW (oz B q.1) i||Oper.apart ops x q.2)&&w9 ops B r
def tW:Nat->List Nat->Bool|_,[]=>true|i,b::l=>Nat.blt b (Nat.shiftLeft 1 i)&&tW (i+1) l
def AY (ops:Array Oper) (B:List Nat):Bool:=Nat.blt ops.size 256&&(oH 0 ops.toList).all forward&&w9 ops B (oH 0 ops.toList)
abbrev pT:=List (Nat×Option (List mF×List mF))
def sK (rid i:Nat) (n:mF):Bool:=Nat.beq (n/1024) (rid*256+i+1)
def xF (rid b i:Nat) (n:mF):Bool :=
 let q:=n/1024
 cond (Nat.ble (rid*256+1) q&&Nat.ble q (rid*256+256)) (let k:=q-(rid*256+1);Nat.beq k i||oW b k) true
def yQ (l m:List mF):Bool:=l.all λn=>m.all λk=>!(Nat.beq n k)
def wY (rid b i:Nat) (grp:Bool) (L W:List mF) (acc:pT):Bool :=
 L.all (xF rid b i)&&(W.all (xF rid b i)&&((!grp||W.all (sK rid i)) &&
  acc.all λp=>match p.2 with
   | none=>L.all (λn=>!(sK rid p.1 n))&&(W.all (λn=>!(sK rid p.1 n))&&(oW b p.1||W.all (sK rid i)))
   | some (L',W')=>oW b p.1||(yQ W L'&&(yQ W' L&&yQ W W'))))
def yR (n:Nat):List Nat:=(List.range n).map λi=>2^i-1
def Cx (o:Oper):Bool:=match o.guard with|some _=>true|none=>false
def AZ (all:List Oper) (grp r:List (Nat×Oper)):Bool :=
 r.all λq=>grp.all λp=>match p.2.dst with|some d=>!((q.2.looksAt all.toArray).contains d)|none=>true
def yS (grp:List (Nat×Oper)):Operand->Bool | .tmp u=>grp.all (λp=>match p.2.dst with|some d=>!(Nat.beq d u)|none=>true)|_=>true
def oU (kn:List (Nat×Bool)):Option Tmp->Bool|some d=>(match mG kn d with|none=>true|some _=>false)|none=>true
def B0 (B:List Nat) (grp r:List (Nat×Oper)):Bool :=
 r.all λq=>match q.2.op with | .store ..=>grp.all (λp=>oW (oz B q.1) p.1)|_=>true
def oJ {A:Type} (G:o9) (rid:Nat) (all:List Oper) (dr:Option (List Nat)):Bool->Nat->List (Nat×Bool)->List (Nat×Oper)->St->pT->(St->pT->Option A)->Option A
 | _,0,_,_,_,_,_=>none
 | _,_+1,_,[],S,acc,k=>k S acc
 | grp,f+1,kn,(i,o)::r,S,acc,k =>
  cond (oU kn o.dst)
  (match dr with
  | none=>match o.guard with
   | none=>(sU G (AO rid i) S.eval o.op).run S.ent λe=>oJ G rid all dr grp f kn r (S.put o.dst e) acc k
   | some _=>none
  | some B =>
   let go:=(sU G (AO rid i) S.eval o.op).runL S.ent [] λe L=>cond (wY rid (oz B i) i grp L (e.ents.map Prod.fst) acc) (oJ G rid all dr grp f kn r (S.put o.dst e) ((i,some (L,e.ents.map Prod.fst))::acc) k) none
   let skip:=oJ G rid all dr grp f kn r (S.put o.dst ⟨.cell .void,[]⟩) acc k
   match o.guard with
   | none=>go
   | some (j,want) =>
    match qd all j with
    | none=>none
    | some t =>
     match mG kn t with
     | some c=>cond (w8 c want) go skip
     | none =>
      match S.tmp t with
      | .cell .void=>skip
      | .cell (.bool b) =>
       match qK t ((i,o)::r)with
       | some (grp',(pi,p),r') =>
        cond (okGroup all j want t grp'&&((grp'.all λq=>Cw G S.eval q.2.op)&&B0 B grp' r'))
         (match p.op,p.dst with
         | .pick _ x y,some d =>
          let X:=oJ G rid all dr true f ((t,want)::kn) grp' S acc λS' _=>cond (re S.en S'.en) (rb (S'.eval (cond want x y))) none
          let D:=rb (S.eval (cond want y x))
          cond (yP all kn p&&AZ all grp' r'&&(yS grp' (cond want y x)&&(grp'.all (λq=>oU kn q.2.dst)&&oU kn p.dst)))
           ((cond b (cond want X D) (cond want D X)).bind λv=>oJ G rid all dr grp f kn r' ⟨(d,.cell (.bool v))::(p6 grp'++S.tm),S.en⟩ ((pi,some ([],[]))::(grp'.map λq=>(q.1,none))++acc) k) none
         | _,_=>none)
         (cond b (oJ G rid all dr grp f ((t,true)::kn) ((i,o)::r) ⟨(t,.cell (.bool true))::S.tm,S.en⟩ acc k) (oJ G rid all dr grp f ((t,false)::kn) ((i,o)::r) ⟨(t,.cell (.bool false))::S.tm,S.en⟩ acc k))
       | none=>none
      | _=>none) none

inductive nZ where
 | dat (c:CT)|own (n:mF)|same (r:mF)|box (n:mF) (off:Nat)|nil|undef|fn (f:FuncId) (caps:List mF)|kid (r:mF) (j:Nat) (e:Cs)
inductive pq where
 | root (e:Cs) (m:Bool)|keep (e:Cs) (m:Bool)|box (cs:List nZ)|tree (e:Cs)|pop (e:Cs)
structure nN where
 tm:List (Nat×Bool×List nZ)
 en:List (mF×pq)
def nI:List nZ->List Cs->List Cs
 | [],R=>R
 | .dat c::l,R=>.one c::nI l R
 | .kid _ _ e::l,R=>.one (.sl e)::nI l R
 | _::l,R=>nI l R
def rQ:List (Nat×Bool×List nZ)->List Cs->List Cs
 | [],R=>R
 | (_,_,ss)::l,R=>nI ss (rQ l R)
def nP:List (mF×pq)->List Cs
 | []=>[]
 | (_,.root e _)::l=>.one (.sl e)::nP l
 | (_,.keep e _)::l=>.one (.sl e)::nP l
 | (_,.box ss)::l=>nI ss (nP l)
 | (_,.tree e)::l=>.one (.sl e)::nP l
 | (_,.pop e)::l=>.one (.sl (.cons .bool e))::nP l
def nN.cs (s:nN):List Cs:=rQ s.tm (nP s.en)
abbrev nN.den (s:nN):Type:=mI s.cs
def nA:(l:List nZ)->(R:List Cs)->mI (nI l R)->List Cell×mI R
 | [],_,x=>([],x)
 | .dat c::l,R,x=>(c.cell (mI.hd (.one c) (nI l R) x)::(nA l R (mI.tl (.one c) (nI l R) x)).1,(nA l R (mI.tl (.one c) (nI l R) x)).2)
 | .own n::l,R,x=>(.own n::(nA l R x).1,(nA l R x).2)
 | .same n::l,R,x=>(.own n::(nA l R x).1,(nA l R x).2)
 | .box n o::l,R,x=>(.box n o::(nA l R x).1,(nA l R x).2)
 | .nil::l,R,x=>(.nil::(nA l R x).1,(nA l R x).2)
 | .undef::l,R,x=>(.undef::(nA l R x).1,(nA l R x).2)
 | .fn f cs::l,R,x=>(.fn f cs::(nA l R x).1,(nA l R x).2)
 | .kid r j e::l,R,x=>(.kid r j e (mI.hd (.one (.sl e)) (nI l R) x)::(nA l R (mI.tl (.one (.sl e)) (nI l R) x)).1,(nA l R (mI.tl (.one (.sl e)) (nI l R) x)).2)
def pH:(l:List (Nat×Bool×List nZ))->(R:List Cs)->mI (rQ l R)->List (Nat×AV)×mI R
 | [],_,x=>([],x)
 | (t,agg,ss)::l,R,x =>
  ((t,pb agg (nA ss (rQ l R) x).1)::(pH l R (nA ss (rQ l R) x).2).1,(pH l R (nA ss (rQ l R) x).2).2)
def oQ:(l:List (mF×pq))->mI (nP l)->List (mF×Entry)
 | [],_=>[]
 | (n,.root e m)::l,x=>(n,.root e m (mI.hd (.one (.sl e)) (nP l) x))::oQ l (mI.tl (.one (.sl e)) (nP l) x)
 | (n,.keep e m)::l,x=>(n,.root e m (mI.hd (.one (.sl e)) (nP l) x))::oQ l (mI.tl (.one (.sl e)) (nP l) x)
 | (n,.box ss)::l,x=>(n,.box (nA ss (nP l) x).1)::oQ l (nA ss (nP l) x).2
 | (n,.tree e)::l,x=>(n,.tree e (mI.hd (.one (.sl e)) (nP l) x))::oQ l (mI.tl (.one (.sl e)) (nP l) x)
 | (n,.pop e)::l,x=>(n,.pop e (mI.hd (.one (.sl (.cons .bool e))) (nP l) x))::oQ l (mI.tl (.one (.sl (.cons .bool e))) (nP l) x)
def nN.st (s:nN) (d:s.den):St:=⟨(pH s.tm (nP s.en) d).1,oQ s.en (pH s.tm (nP s.en) d).2⟩

def Rd.plain {α:Type} (S:mF->Option Entry):Rd α->Option α
 | .ret a=>some a
 | .fail=>none
 | .get n k=>(k (S n)).plain S
 | .opt _ _=>none
def rq:List nZ->List Cell->List (mF×Cell)
 | .own n::l,x::xs=>(n,x)::rq l xs
 | _::l,_::xs=>rq l xs
 | _,_=>[]
def sg (S:St):List (Nat×Bool×List nZ)->List (mF×Cell)
 | []=>[]
 | (t,_,ss)::l=>rq ss (S.tmp t).cells++sg S l
def qw (S:St):List (mF×pq)->List (mF×Cell)
 | []=>[]
 | (n,.box ss)::l=>(match S.ent n with|some (.box cs)=>rq ss cs|_=>[])++qw S l
 | _::l=>qw S l
def xG:Cell->Cell->Bool | .own r,.own s=>Nat.beq r s|_,_=>false
def pt:Cell->Option mF | .own r=>some r | .win r _ _=>some r|_=>none
def qN:Cell->Cell->Bool|x,y=>match pt x,pt y with|some r,some s=>!(Nat.beq r s)|_,_=>true
def pI:List (mF×Cell)->Bool
 | []=>true
 | (n,x)::l=>l.all (λp=>cond (Nat.beq p.1 n) (xG x p.2) (qN x p.2))&&pI l
def CT.quiet (c:CT) (S:mF->Option Entry) (x:Cell):Option c.den :=
 match (c.into false true x).plain S with|some (a,[])=>some a|_=>none
def vA (r:mF) (j:Nat) (e:Cs):Cell->Option (List e.den)
 | .kid s k f xs=>cond (Nat.beq r s&&Nat.beq j k) (match Cs.same f e with|some ⟨h⟩=>some (oc h xs)|none=>none) none
 | _=>none
def nQ (S:St):(l:List nZ)->(R:List Cs)->List Cell->Option (mI R)->Option (mI (nI l R))
 | [],_,[],y=>y
 | .dat c::l,R,x::xs,y=>match c.quiet S.ent x,nQ S l R xs y with|some a,some b=>some (mI.mk (.one c) (nI l R) a b)|_,_=>none
 | .own _::l,R,x::xs,y=>(match x with | .own _ | .win .. | .nil=>nQ S l R xs y|_=>none)
 | .same n::l,R,x::xs,y=>(match x with | .own m=>cond (Nat.beq n m) (nQ S l R xs y) none|_=>none)
 | .box n o::l,R,x::xs,y=>(match x with | .box m p=>cond (Nat.beq n m&&Nat.beq o p) (nQ S l R xs y) none|_=>none)
 | .nil::l,R,x::xs,y=>(match x with | .nil=>nQ S l R xs y|_=>none)
 | .undef::l,R,_::xs,y=>nQ S l R xs y
 | .fn f cs::l,R,x::xs,y=>(match x with | .fn g ds=>cond (Nat.beq f g&&(cs==ds)) (nQ S l R xs y) none|_=>none)
 | .kid r j e::l,R,x::xs,y=>(match vA r j e x,nQ S l R xs y with|some a,some b=>some (mI.mk (.one (.sl e)) (nI l R) a b)|_,_=>none)
 | _,_,_,_=>none
def tQ (S:St):(l:List (Nat×Bool×List nZ))->(R:List Cs)->Option (mI R)->Option (mI (rQ l R))
 | [],_,y=>y
 | (t,agg,ss)::l,R,y=>cond (qM agg (S.tmp t)) (nQ S ss (rQ l R) (S.tmp t).cells (tQ S l R y)) none
def A8 (m m':Bool):Bool:=cond m m' true
def pu (S:St) (e:Cs) (m:Bool):Cell->Option (List e.den)
 | .nil=>some []
 | .own r=>match S.ent r with
  | some (.root f m' xs)=>cond (A8 m m') (match Cs.same f e with|some ⟨h⟩=>some (oc h xs)|none=>none) none
  | _=>none
 | .win r lo hi=>match S.ent r with
  | some (.root f m' xs)=>cond (A8 m m') (match Cs.same f e with|some ⟨h⟩=>some (((oc h xs).take hi).drop lo)|none=>none) none
  | _=>none
 | _=>none
def tX (S:St) (e:Cs) (n:mF):Option (List e.den) :=
 match S.ent n with
 | some (.tree f xs)=>match Cs.same f e with|some ⟨h⟩=>some (oc h xs)|none=>none
 | _=>none
def zO (S:St) (e:Cs) (n:mF):Option (List (Bool×e.den)) :=
 match S.ent n with
 | some (.pop f ys)=>match Cs.same f e with|some ⟨h⟩=>some (h▸ys)|none=>none
 | _=>none
def pv (S:St) (σ:List (mF×Cell)):(l:List (mF×pq))->Option (mI (nP l))
 | []=>some ()
 | (n,.root e m)::l=>match mG σ n with
  | some x=>(match pu S e m x,pv S σ l with|some a,some b=>some (mI.mk (.one (.sl e)) (nP l) a b)|_,_=>none)
  | none=>none
 | (n,.keep e m)::l=>match pu S e m (.own n),pv S σ l with|some a,some b=>some (mI.mk (.one (.sl e)) (nP l) a b)|_,_=>none
 | (n,.box ss)::l=>match S.ent n with
  | some (.box cs)=>nQ S ss (nP l) cs (pv S σ l)
  | _=>none
 | (n,.tree e)::l=>match tX S e n,pv S σ l with|some a,some b=>some (mI.mk (.one (.sl e)) (nP l) a b)|_,_=>none
 | (n,.pop e)::l=>match zO S e n,pv S σ l with|some a,some b=>some (mI.mk (.one (.sl (.cons .bool e))) (nP l) a b)|_,_=>none
def tY:List (mF×pq)->List (mF×Cell)
 | []=>[]
 | (n,.keep ..)::l=>(n,.own n)::tY l
 | _::l=>tY l
def nN.sigma (s:nN) (S:St):List (mF×Cell):=sg S s.tm++qw S s.en
def nN.read (s:nN) (S:St):Option s.den :=
 cond (pI (s.sigma S++tY s.en)) (tQ S s.tm (nP s.en) (pv S (s.sigma S) s.en)) none

def pr {α β:Type} (step:α->Option (α⊕β)):Nat->α->Option β
 | 0,_=>none
 | k+1,a=>(step a).bind fun | .inl a'=>pr step k a' | .inr b=>some b
open Classical in
noncomputable def loop {α β:Type} (step:α->Option (α⊕β)) (a:α):Option β :=
 if h:∃k,(pr step k a).isSome then pr step (Classical.choose h) a else none
structure mO where
 head:nN
 out:nN
 back : Option nN := none
def rK:Code->List (Nat×AV)
 | .region _ ops _=>p6 (oH 0 ops.toList)
 | .seq a b=>rK a++rK b
 | .cond _ a b=>rK a++rK b
 | .block _ a=>rK a
 | .loop a=>rK a
 | _=>[]
def ot:List (mF×pq)->List (mF×Entry)
 | []=>[]
 | (n,.box _)::l=>(n,.gone)::ot l
 | (n,.keep ..)::l=>(n,.gone)::ot l
 | (n,.tree _)::l=>(n,.gone)::ot l
 | (n,.pop _)::l=>(n,.gone)::ot l
 | (_,.root ..)::l=>ot l
def ql:List (mF×Cell)->List (mF×Entry)
 | []=>[]
 | (_,x)::l=>match pt x with|some r=>(r,.gone)::ql l|none=>ql l
def A9:Option nN->List (mF×Entry)|none=>[]|some s=>ot s.en
def mO.mods (L:mO) (S:St):List (mF×Entry):=ot L.head.en++(ot L.out.en++(A9 L.back++ql (L.head.sigma S)))
def pB (S:St):List (mF×pq)->Bool
 | []=>true
 | (n,.root ..)::l=>(match S.ent n with|none=>true|some _=>false)&&pB S l
 | _::l=>pB S l
def mO.base (L:mO) (body:Code) (S:St):St:=⟨rK body++S.tm,L.mods S++S.en⟩
def nN.over (s:nN) (B:St) (d:s.den):St:=⟨(s.st d).tm++B.tm,(s.st d).en++B.en⟩
def freed (S:St) (M:List (mF×Entry)) (σ:List (mF×Cell)):Bool :=
 σ.all λp=>match pt p.2 with|none=>true|some r=>(match mG S.en r with|none=>true|some _=>(mG M r).isSome)
def qB (l:List (mF×pq)) (n:mF):Bool:=l.any λp=>Nat.beq p.1 n&&(match p.2 with | .root ..=>false|_=>true)
def B1 (l:List (mF×pq)) (n:mF):Bool:=l.any λp=>Nat.beq p.1 n&&(match p.2 with | .root ..=>true|_=>false)
def nZ.okIn (dm rt:mF->Bool):nZ->Bool
 | .own n=>rt n | .same n=>dm n | .box n _=>dm n | .fn _ cs=>cs.all dm | .kid r _ _=>dm r|_=>true
def vB:List (mF×pq)->Bool
 | []=>true
 | (n,_)::l=>l.all (λp=>!(Nat.beq p.1 n))&&vB l
def nN.okAt (s:nN) (S:St):Bool :=
 let dm:=λn=>(mG S.en n).isSome||qB s.en n
 let rt:=B1 s.en
 pB S s.en&&(vB s.en&&(s.tm.all (λp=>p.2.2.all (nZ.okIn dm rt))&&s.en.all λp=>match p.2 with | .box ss=>ss.all (nZ.okIn dm rt)|_=>true))
def mO.okAt (L:mO) (body:Code) (S:St):Bool :=
 L.head.okAt S&&(L.out.okAt S&&(L.head.tm.all (λp=>(mG (rK body) p.1).isSome)&&match L.back with|none=>true|some s=>s.okAt S))
def xH {α:Type} (old new:List (Nat×α)):List (Nat×α):=new.take (new.length-old.length)
def mO.okNew (L:mO) (body:Code) (S H S':St):Bool :=
 (xH H.en S'.en).all (λp=>match mG S.en p.1 with|none=>true|some _=>(mG (L.mods S) p.1).isSome)&&(xH H.tm S'.tm).all (λp=>(mG (rK body) p.1).isSome)
def St.more (S:St) (l:List (mF×Entry)):St:=⟨S.tm,l++S.en⟩
def qO (S:St):List nZ->List Cell->List (mF×Entry)
 | .dat (.sl _)::l,.own r::xs=>(match S.ent r with|some (.root e _ ys)=>[(r,Entry.fwd e ys)]|_=>[])++qO S l xs
 | _::l,_::xs=>qO S l xs
 | _,_=>[]
def Hf (S:St) (l:List (Nat×Bool×List nZ)):List (mF×Entry):=l.flatMap λp=>qO S p.2.2 (S.tmp p.1).cells
def Gr (S:St) (l:List (mF×pq)):List (mF×Entry):=l.flatMap λp=>match p.2 with | .box ss=>(match S.ent p.1 with|some (.box cs)=>qO S ss cs|_=>[])|_=>[]
def nN.seals (s:nN) (S:St):List (mF×Entry):=Hf S s.tm++Gr S s.en
def nN.shut (s:nN) (S:St):St:=S.more (s.seals S)
def mO.leave {A:Type} (L:mO) (body:Code) (S H:St) (s:nN) (S':St) (k:s.den->Option A):Option A :=
 cond (mP (s.seals S')&&(L.okNew body S H (s.shut S')&&freed S (L.mods S) (s.sigma (s.shut S')))) (match s.read (s.shut S')with|some d=>k d|none=>none) none
structure tD (A:Type) where
 n:St->Option A
 x:Nat->St->Option A
 r:St->Option A
def uy (ann:List (Nat×mO)) (id:Nat) (S:St):List (mF×Entry):=match mG ann id with|some L=>L.head.seals S|none=>[]
def St.cold (S:St) (l:List mF):List (mF×Entry):=l.flatMap λr=>match S.ent r with|some (.root e true xs)=>[(r,.frz e xs)]|_=>[]
def St.pops (S:St) (l:List mF):List (mF×Entry):=l.flatMap λr=>match S.ent r with|some (.root e true xs)=>[(r,.pop e (xs.map λx=>(true,x)))]|_=>[]
def rr (ann:List (Nat×mO)) (id:Nat) (S:St):List (mF×Entry):=match mG ann (id+1000000)with|some L=>S.cold (L.head.en.map Prod.fst)++S.pops (L.out.en.map Prod.fst)|none=>[]
noncomputable def yj {A:Type} (ann:List (Nat×mO)) (id:Nat) (body:Code) (E:{B:Type}->St->tD B->Option B) (S:St) (K:tD A):Option A :=
 match mG ann id with
 | none=>none
 | some L=>cond (L.okAt body S)
  (match L.head.read S with
  | none=>none
  | some d =>
   match L with
   | ⟨head,out,none⟩ =>
    (loop (λd:head.den=>let H:=head.over (mO.base ⟨head,out,none⟩ body S) d
     E H ⟨λS'=>mO.leave ⟨head,out,none⟩ body S H head S' λd=>some (.inl d),
      λi S'=>cond (Nat.beq i id) (mO.leave ⟨head,out,none⟩ body S H out S' λd=>some (.inr d)) none,λ_=>none⟩) d).bind
     λd=>K.n (out.over (mO.base ⟨head,out,none⟩ body S) d)
   | ⟨head,out,some back⟩ =>
    (loop (β:=out.den⊕back.den) (λd:head.den=>let H:=head.over (mO.base ⟨head,out,some back⟩ body S) d
     E H ⟨λS'=>mO.leave ⟨head,out,some back⟩ body S H head S' λd=>some (.inl d),
      λi S'=>cond (Nat.beq i id) (mO.leave ⟨head,out,some back⟩ body S H out S' λd=>some (.inr (.inl d))) none,
      λS'=>mO.leave ⟨head,out,some back⟩ body S H back S' λd=>some (.inr (.inr d))⟩) d).bind
     (Sum.elim (λd=>K.n (out.over (mO.base ⟨head,out,some back⟩ body S) d)) (λd=>K.r (back.over (mO.base ⟨head,out,some back⟩ body S) d)))) none
noncomputable def qg {A:Type} (G:o9) (ann:List (Nat×mO)):Code->St->tD A->Option A
 | .skip,S,K=>K.n S
 | .region id ops draw,S,K=>cond (draw||ops.toList.any Cx)
  (cond (Nat.blt ops.toList.length 256&&(tW 0 (cond draw (rJ ops.toList []) (yR ops.toList.length))&&cond draw (AY ops (rJ ops.toList [])) true))
   (oJ G id ops.toList (some (cond draw (rJ ops.toList []) (yR ops.toList.length))) false (4*ops.toList.length+4) [] (oH 0 ops.toList) S [] λS' _=>K.n S') none)
  (oJ G id ops.toList none false (4*ops.toList.length+4) [] (oH 0 ops.toList) S [] λS' _=>K.n S')
 | .seq a b,S,K=>qg G ann a S ⟨λS'=>qg G ann b S' K,K.x,K.r⟩
 | .cond c a b,S,K=>match S.eval c with | .cell (.bool t)=>cond t (qg G ann a S K) (qg G ann b S K)|_=>none
 | .block id (.loop body),S,K=>cond (mP (rr ann id S)) (cond (mP (uy ann id (S.more (rr ann id S)))) (yj ann id body (λS K=>qg G ann body S K) ((S.more (rr ann id S)).more (uy ann id (S.more (rr ann id S)))) K) none) none
 | .block id b,S,K=>qg G ann b S ⟨K.n,λi S'=>cond (Nat.beq i id) (K.n S') (K.x i S'),K.r⟩
 | .exit id,S,K=>K.x id S
 | .ret,S,K=>K.r S
 | _,_,_=>none

def entry (i:Nat):(ps:List nB)->mI (mY ps)->List (Nat×AV)×List (mF×Entry)
 | [],_=>([],[])
 | .val agg c false::ps,x =>
  let r:=entry (i+1) ps (mI.tl c (mY ps) x)
  ((i,pb agg (c.cells (mI.hd c (mY ps) x)))::r.1,r.2)
 | .val agg c true::ps,x =>
  let g:=Cs.give true (64*i+1) c (mI.hd c (mY ps) x)
  let r:=entry (i+1) ps (mI.tl c (mY ps) x)
  ((i,pb agg g.1)::r.1,g.2++r.2)
 | .ptr c own::ps,x =>
  let g:=oL own (64*i+2) c (mI.hd c (mY ps) x)
  let r:=entry (i+1) ps (mI.tl c (mY ps) x)
  ((i,.cell (.box (64*i+1) 0))::r.1,(64*i+1,.box g.1)::(g.2++r.2))
def Cs.slIs:Cs->Nat->Cs->Bool
 | .one (.sl e),0,f=>nF e f
 | .cons (.sl e) _,0,f=>nF e f
 | .cons _ r,j+1,f=>r.slIs j f
 | _,_,_=>false
def CT.chill:(c:CT)->Cell->Rd (c.den×List (mF×Option Nat))
 | .sl _,.nil=>.ret ([],[])
 | .sl e,.own r=>.get r fun
  | some (.frz f xs)=>match Cs.same f e with|some ⟨h⟩=>.ret (oc h xs,[(r,none)])|none=>.fail
  | _=>.fail
 | .sl e,.kid r j f xs=>match Cs.same f e with
  | some ⟨h⟩=>.get r fun
   | some (.frz q _)=>cond (q.slIs j e) (.ret (oc h xs,[(r,some j)])) .fail
   | _=>.fail
  | none=>.fail
 | .sl _,_=>.fail
 | .int k,x=>(CT.read (.int k) x).bind λa=>.ret (a,[])
 | .bool,x=>(CT.read .bool x).bind λa=>.ret (a,[])
 | .str,x=>(CT.read .str x).bind λa=>.ret (a,[])
 | .err,x=>(CT.read .err x).bind λa=>.ret (a,[])
def Cs.chill:(e:Cs)->List Cell->Rd (e.den×List (mF×Option Nat))
 | .one c,[x]=>c.chill x
 | .cons c r,x::xs=>(c.chill x).bind λa=>(r.chill xs).bind λb=>.ret ((a.1,b.1),a.2++b.2)
 | _,_=>.fail
def vC (r:mF):Nat->List (mF×Option Nat)->Bool
 | _,[]=>true
 | lo,(s,some j)::l=>Nat.beq s r&&Nat.ble lo j&&vC r (j+1) l
 | _,_=>false
def Cy:List (mF×Option Nat)->Bool
 | (r,some j)::l=>vC r (j+1) l
 | l=>l.all λp=>p.2.isNone
def si:List (mF×Option Nat)->List (mF×Entry)
 | (r,some _)::_=>[(r,.gone)]
 | l=>l.map λp=>(p.1,.gone)
def qm:List ob->List AV->List mF
 | .cold _ _::rs,v::vs=>(v.cells.filterMap fun | .own r=>some r|_=>none)++qm rs vs
 | _::rs,_::vs=>qm rs vs
 | _,_=>[]
def s4:(rs:List ob)->List AV->Rd (mI (nr rs)×List (mF×Entry))
 | [],[]=>.ret ((),[])
 | .val _ c own::rs,v::vs=>(c.intoO own v.cells).bind λa=>(s4 rs vs).bind λb=>.ret (mI.mk c (nr rs) a.1 b.1,a.2++b.2)
 | .ptr c own::rs,.cell (.box n 0)::vs=>.get n fun
  | some (.box cs)=>(c.intoO own cs).bind λa=>(s4 rs vs).bind λb=>.ret (mI.mk c (nr rs) a.1 b.1,(n,.gone)::(a.2++b.2))
  | _=>.fail
 | .cold _ c::rs,v::vs=>(c.chill v.cells).bind λa=>(Rd.need (Cy a.2)).bind λ_=>(s4 rs vs).bind λb=>.ret (mI.mk c (nr rs) a.1 b.1,si a.2++b.2)
 | _,_=>.fail
def sL (i:Nat):(ps:List nB)->(rs:List ob)->List AV->Rd (mI (nS ps rs)×List (mF×Entry))
 | [],rs,vs=>s4 rs vs
 | .val .. :: ps,rs,vs=>sL (i+1) ps rs vs
 | .ptr c own::ps,rs,vs=>.get (64*i+1) fun
  | some (.box cs)=>(c.intoO own cs).bind λa=>(sL (i+1) ps rs vs).bind λb=>.ret (mI.mk c (nS ps rs) a.1 b.1,(64*i+1,.gone)::(a.2++b.2))
  | _=>.fail
def sV (G:o9) (S:St):List ResultVar->Option (List AV)
 | []=>some []
 | .tmp t::l=>match sV G S l with|some vs=>some (S.tmp t::vs)|none=>none
 | .cell a t::l=>match mG G.ti t,S.tmp a with
  | some i,.cell (.box n 0)=>(match S.ent n,sV G S l with|some (.box cs),some vs=>cond (Nat.beq cs.length i.cs.len) (some (pb i.agg cs::vs)) none|_,_=>none)
  | _,_=>none
def sj:List ob->List AV->Bool
 | [],[]=>true
 | .val agg _ _::rs,v::vs=>qM agg v&&sj rs vs
 | .ptr .. :: rs,_::vs=>sj rs vs
 | .cold agg _::rs,v::vs=>qM agg v&&sj rs vs
 | _,_=>false
def leave (G:o9) (rv:List ResultVar) (ps:List nB) (rs:List ob) (S:St):Option (mI (nS ps rs)) :=
 match sV G S rv with
 | some vs=>cond (mP (S.cold (qm rs vs))&&sj rs vs) ((sL 0 ps rs vs).run (S.more (S.cold (qm rs vs))).ent λr=>cond (mP r.2) (some r.1) none) none
 | none=>none
def qe (n:Nat):Code->Bool
 | .region _ ops _=>ops.toList.all λo=>match o.dst with|some d=>Nat.blt d n|none=>true
 | .seq a b=>qe n a&&qe n b
 | .cond _ a b=>qe n a&&qe n b
 | .block _ a=>qe n a
 | .loop a=>qe n a
 | _=>true
noncomputable def xI (G:o9) (ann:List (Nat×mO)) (fn:Func) (c:Code) (ps:List nB) (rs:List ob) (x:mI (mY ps)):Option (mI (nS ps rs)) :=
 cond (qe fn.ntmps c&&(Nat.ble ps.length fn.ntmps&&mP (entry 0 ps x).2)) (qg G ann c ⟨(entry 0 ps x).1,(entry 0 ps x).2⟩ ⟨leave G fn.results.toList ps rs,λ_ _=>none,leave G fn.results.toList ps rs⟩) none

end Go.V
namespace Go.V

def mS {α:Type} (n:Nat) (R:α->List Value->List Nat->Prop):List α->List Value->List Nat->Prop
 | [],vs,F=>vs=[]/\F=[]
 | x::xs,vs,F=>∃v1 v2 F1 F2,vs=v1++v2/\v1.length=n/\F=F1++F2/\R x v1 F1/\mS n R xs v2 F2
def tZ (w:World) (b k:Nat):Prop:=∃c t fz,w.heap[b]?=some (.cells c t fz)/\k<=c.size
def row (w:World) (b off:Nat) (vs:List Value):Prop:=∃c t fz,w.heap[b]?=some (.cells c t fz)/\(c.toList.drop off).take vs.length=vs
def slRep {α:Type} (w:World) (n:Nat) (R:α->List Value->List Nat->Prop) (xs:List α) (v:Value) (F:List Nat):Prop :=
 ((∃a,v=.slice a 0 0)/\xs=[]/\F=[]) \/
 ∃b off cap vs F',v=.slice (some ⟨b,off,none⟩) xs.length cap/\F=b::F'/\xs.length<=cap/\tZ w b (off+cap*n)/\row w b off vs/\mS n R xs vs F'
mutual
def CT.Rep (w:World):(c:CT)->c.den->Value->List Nat->Prop
 | .int k,n,v,F=>v=.int k n/\F=[]
 | .bool,b,v,F=>v=.bool b/\F=[]
 | .str,s,v,F=>v=.string ⟨s.toArray⟩/\F=[]
 | .err,b,v,F=>F=[]/\((b=false/\v=.nilIface)\/(b=true/\∃t u,v=.iface t u))
 | .sl e,xs,v,F=>slRep w e.len (Cs.Rep w e) xs v F
def Cs.Rep (w:World):(e:Cs)->e.den->List Value->List Nat->Prop
 | .one c,x,vs,F=>∃v,vs=[v]/\CT.Rep w c x v F
 | .cons c r,x,vs,F=>∃v vs' F1 F2,vs=v::vs'/\F=F1++F2/\CT.Rep w c x.1 v F1/\Cs.Rep w r x.2 vs' F2
end
theorem Cs.len_pos (e:Cs):0<e.len:=by cases e<;>simp[Cs.len]
theorem Cs.Rep.length {w:World}:{e:Cs}->{x:e.den}->{vs:List Value}->{F:List Nat}->Cs.Rep w e x vs F->vs.length=e.len
 | .one _,_,_,_,h=>by simp only[Cs.Rep]at h;obtain⟨v,rfl,_⟩:=h;rfl
 | .cons _ r,_,_,_,h=>by
  simp only[Cs.Rep]at h;obtain⟨v,vs',F1,F2,rfl,_,_,h⟩:=h;simp[Cs.len,h.length]
theorem mS.length {α:Type} {n:Nat} {R:α->List Value->List Nat->Prop}:∀{xs:List α} {vs:List Value} {F:List Nat},mS n R xs vs F->vs.length=xs.length*n
 | [],_,_,h=>by obtain⟨rfl,_⟩:=h;simp
 | x::xs,_,_,h=>by
  obtain⟨v1,v2,F1,F2,rfl,h1,_,_,h⟩:=h;simp[h1,h.length,Nat.add_mul,Nat.add_comm]
theorem mS.imp {α:Type} {n:Nat} {R R':α->List Value->List Nat->Prop}:∀{xs:List α} {vs:List Value} {F:List Nat},
 (∀x v G,x∈xs->(∀b∈G,b∈F)->R x v G->R' x v G)->mS n R xs vs F->mS n R' xs vs F
 | [],_,_,_,h=>h
 | x::xs,_,_,hi,h=>by
  obtain⟨v1,v2,F1,F2,rfl,h1,rfl,hr,h⟩:=h;exact⟨v1,v2,F1,F2,rfl,h1,rfl,hi x v1 F1 (by simp) (by simp +contextual) hr,h.imp λy v G hy hG=>hi y v G (by simp[hy]) λb hb=>by simp[hG b hb]⟩
theorem tZ.of_same {w w':World} {b k:Nat} (h:tZ w b k) (hb:w'.heap[b]?=w.heap[b]?):tZ w' b k:=by
 obtain⟨c,t,fz,hc,hk⟩:=h;exact⟨c,t,fz,hb.trans hc,hk⟩
theorem row.of_same {w w':World} {b off:Nat} {vs:List Value} (h:row w b off vs) (hb:w'.heap[b]?=w.heap[b]?):row w' b off vs:=by
 obtain⟨c,t,fz,hc,hk⟩:=h;exact⟨c,t,fz,hb.trans hc,hk⟩
theorem slRep.of_same {α:Type} {w w':World} {n:Nat} {R R':α->List Value->List Nat->Prop} {xs:List α} {v:Value} {F:List Nat}
 (hR:∀x v G,x∈xs->(∀b∈G,b∈F)->R x v G->R' x v G) (hb:∀b∈F,w'.heap[b]?=w.heap[b]?) (h:slRep w n R xs v F):slRep w' n R' xs v F:=by
 rcases h with h|⟨b,off,cap,vs,F',hv,rfl,hl,hc,hr,hL⟩
 · exact .inl h
 · exact .inr ⟨b,off,cap,vs,F',hv,rfl,hl,hc.of_same (hb b (by simp)),hr.of_same (hb b (by simp)),hL.imp λx v G hx hG=>hR x v G hx λb hb=>by simp[hG b hb]⟩
mutual
theorem CT.Rep.of_same {w w':World}:{c:CT}->{x:c.den}->{v:Value}->{F:List Nat}->(∀b∈F,w'.heap[b]?=w.heap[b]?)->CT.Rep w c x v F->CT.Rep w' c x v F
 | .int _,_,_,_,_,h=>by simpa only[CT.Rep]using h
 | .bool,_,_,_,_,h=>by simpa only[CT.Rep]using h
 | .str,_,_,_,_,h=>by simpa only[CT.Rep]using h
 | .err,_,_,_,_,h=>by simpa only[CT.Rep]using h
 | .sl e,xs,v,F,hb,h=>by
  simp only[CT.Rep]at h ⊢;exact slRep.of_same (λx v G _ hG hr=>Cs.Rep.of_same (λb hb'=>hb b (hG b hb')) hr) hb h
theorem Cs.Rep.of_same {w w':World}:{e:Cs}->{x:e.den}->{vs:List Value}->{F:List Nat}->(∀b∈F,w'.heap[b]?=w.heap[b]?)->Cs.Rep w e x vs F->Cs.Rep w' e x vs F
 | .one c,x,vs,F,hb,h=>by
  simp only[Cs.Rep]at h ⊢;obtain⟨v,rfl,h⟩:=h;exact⟨v,rfl,CT.Rep.of_same hb h⟩
 | .cons c r,x,vs,F,hb,h=>by
  simp only[Cs.Rep]at h ⊢;obtain⟨v,vs',F1,F2,rfl,rfl,h1,h2⟩:=h;exact⟨v,vs',F1,F2,rfl,rfl,CT.Rep.of_same (λb hb'=>hb b (by simp[hb'])) h1,Cs.Rep.of_same (λb hb'=>hb b (by simp[hb'])) h2⟩
end
def mQ {α β:Type} (R:α->β->Prop):List α->List β->Prop
 | [],[]=>True
 | a::l,b::m=>R a b/\mQ R l m
 | _,_=>False
theorem mQ.length {α β:Type} {R:α->β->Prop}:∀{l:List α} {m:List β},mQ R l m->l.length=m.length
 | [],[],_=>rfl
 | _::_,_::_,h=>by simp[mQ.length h.2]
theorem mQ.get {α β:Type} {R:α->β->Prop}:∀{l:List α} {m:List β},mQ R l m->∀(i:Nat) (a:α),l[i]?=some a->∃b,m[i]?=some b/\R a b
 | [],[],_,i,a,h=>by simp at h
 | _::_,b::_,k,0,a,h=>⟨b,rfl,by simp at h;exact h▸k.1⟩
 | _::_,_::_,k,i+1,a,h=>by simpa using mQ.get k.2 i a (by simpa using h)
theorem mQ.append {α β:Type} {R:α->β->Prop}:∀{l:List α} {m:List β} {l':List α} {m':List β},mQ R l m->mQ R l' m'->mQ R (l++l') (m++m')
 | [],[],_,_,_,k=>k
 | _::_,_::_,_,_,h,k=>⟨h.1,mQ.append h.2 k⟩
theorem mQ.take {α β:Type} {R:α->β->Prop}:∀{l:List α} {m:List β} (n:Nat),mQ R l m->mQ R (l.take n) (m.take n)
 | _,_,0,_=>by simp[mQ]
 | [],[],n+1,_=>by simp[mQ]
 | _::_,_::_,n+1,h=>⟨h.1,mQ.take n h.2⟩
theorem mQ.drop {α β:Type} {R:α->β->Prop}:∀{l:List α} {m:List β} (n:Nat),mQ R l m->mQ R (l.drop n) (m.drop n)
 | _,_,0,h=>h
 | [],[],n+1,_=>by simp[mQ]
 | _::_,_::_,n+1,h=>mQ.drop n h.2

structure Gh where
 I : Nat->Prop
 loc : mF->Value
 esz:mF->Nat
 top : mF->Option Nat
 nest : mF->List Nat
 rows : mF->List Value
def sk (g:Gh) (w:World) (c:CT) (x:c.den) (v:Value):Prop:=∃F,CT.Rep w c x v F/\∀b∈F,g.I b
def mJ (D:mF->Prop) (g:Gh) (w:World):Cell->Value->Prop
 | .undef,_=>True
 | .void,v=>v=Go.undef
 | .nil,v=>v=.slice none 0 0
 | .int k n,v=>v=.int k n
 | .bool b,v=>v=.bool b
 | .str s,v=>v=.string ⟨s.toArray⟩
 | .err b,v=>(b=false/\v=.nilIface)\/(b=true/\∃t u,v=.iface t u)
 | .sh e xs,v=>sk g w (.sl e) xs v
 | .own r,v=>D r/\v=g.loc r
 | .win r lo hi,v=>D r/\lo<=hi/\∃a len cap,g.loc r=.slice a len cap/\hi<=len/\v=.slice (if cap=lo then a else a.map (·.add (lo*g.esz r))) (hi-lo) (cap-lo)
 | .box n off,v=>D n/\∃b,g.loc n=.pointer (some ⟨b,0,none⟩)/\v=.pointer (some ⟨b,off,none⟩)
 | .elem r i off,v=>D r/\∃b o len cap,g.loc r=.slice (some ⟨b,o,none⟩) len cap/\i<len/\v=.pointer (some ⟨b,o+i*g.esz r+off,none⟩)
 | .shel e x off,v=>∃b o vs F,row w b o vs/\Cs.Rep w e x vs F/\g.I b/\(∀b∈F,g.I b)/\v=.pointer (some ⟨b,o+off,none⟩)
 | .sub r i j,v=>D r/\(g.rows r)[i*g.esz r+j]?=some v/\v.oneCell'=true
 | .kid r j e xs,v=>sk g w (.sl e) xs v/\D r/\∃b o len cap i,g.loc r=.slice (some ⟨b,o,none⟩) len cap/\i<len/\g.I b/\row w b (o+(i*g.esz r+j)) [v]
 | .fn f caps,v=>∃vs:Array Value,v=.func (.func f) #[] vs/\mQ (λn u=>D n/\(∃b,g.loc n=.pointer (some ⟨b,0,none⟩))/\u=g.loc n) caps vs.toList
def nV (D:mF->Prop) (g:Gh) (w:World):AV->Value->Prop
 | .cell c,v=>mJ D g w c v
 | .agg cs,v=>∃vs:Array Value,v=.agg vs/\mQ (mJ D g w) cs vs.toList
 | .tup _,_=>False
def nc (D:mF->Prop) (g:Gh) (w:World):AV->Value->Prop
 | .tup l,v=>∃vs:Array Value,v=.tuple vs/\mQ (nV D g w) l vs.toList
 | x,v=>nV D g w x v

structure Le (D:mF->Prop) (g:Gh) (w:World) (D':mF->Prop) (g':Gh) (w':World):Prop where
 dom:∀n,D n->D' n
 loc:∀n,D n->g'.loc n=g.loc n
 esz:∀n,D n->g'.esz n=g.esz n
 imm:∀b,g.I b->g'.I b
 mem:∀b,g.I b->w'.heap[b]?=w.heap[b]?
 rows:∀n,D n->g'.rows n=g.rows n
theorem Le.refl (D:mF->Prop) (g:Gh) (w:World):Le D g w D g w:=⟨λ_ h=>h,λ_ _=>rfl,λ_ _=>rfl,λ_ h=>h,λ_ _=>rfl,λ_ _=>rfl⟩
theorem Le.trans {D D' D'':mF->Prop} {g g' g'':Gh} {w w' w'':World} (h:Le D g w D' g' w') (k:Le D' g' w' D'' g'' w''):Le D g w D'' g'' w'' :=
 ⟨λn hn=>k.dom n (h.dom n hn),λn hn=>(k.loc n (h.dom n hn)).trans (h.loc n hn),λn hn=>(k.esz n (h.dom n hn)).trans (h.esz n hn),λb hb=>k.imm b (h.imm b hb),λb hb=>(k.mem b (h.imm b hb)).trans (h.mem b hb),λn hn=>(k.rows n (h.dom n hn)).trans (h.rows n hn)⟩
section
variable {D D':mF->Prop} {g g':Gh} {w w':World}
theorem sk.mono (h:Le D g w D' g' w') {c:CT} {x:c.den} {v:Value} (k:sk g w c x v):sk g' w' c x v:=by
 obtain⟨F,hF,hI⟩:=k;exact⟨F,CT.Rep.of_same (λb hb=>h.mem b (hI b hb)) hF,λb hb=>h.imm b (hI b hb)⟩
theorem mQ.imp {α β:Type} {R R':α->β->Prop} (hi:∀a b,R a b->R' a b):∀{l:List α} {m:List β},mQ R l m->mQ R' l m
 | [],[],_=>trivial
 | _::_,_::_,h=>⟨hi _ _ h.1,mQ.imp hi h.2⟩
theorem mJ.mono (h:Le D g w D' g' w'):{c:Cell}->{v:Value}->mJ D g w c v->mJ D' g' w' c v
 | .undef,_,_=>trivial
 | .void,_,k=>k
 | .nil,_,k=>k
 | .int _ _,_,k=>k
 | .bool _,_,k=>k
 | .str _,_,k=>k
 | .err _,_,k=>k
 | .sh _ _,_,k=>sk.mono h k
 | .own r,_,⟨hd,k⟩=>⟨h.dom r hd,k.trans (h.loc r hd).symm⟩
 | .win r _ _,_,⟨hd,h1,a,len,cap,k,h2,e⟩=>⟨h.dom r hd,h1,a,len,cap,(h.loc r hd).trans k,h2,by rw[h.esz r hd];exact e⟩
 | .box n _,_,⟨hd,b,k,e⟩=>⟨h.dom n hd,b,(h.loc n hd).trans k,e⟩
 | .elem r _ _,_,⟨hd,b,o,len,cap,k,h1,e⟩=>⟨h.dom r hd,b,o,len,cap,(h.loc r hd).trans k,h1,by rw[h.esz r hd];exact e⟩
 | .shel _ _ _,_,⟨b,o,vs,F,hr,hx,hb,hF,e⟩=>⟨b,o,vs,F,hr.of_same (h.mem b hb),Cs.Rep.of_same (λb hb=>h.mem b (hF b hb)) hx,h.imm b hb,λb hb=>h.imm b (hF b hb),e⟩
 | .sub r _ _,_,⟨hd,e⟩=>⟨h.dom r hd,by rw[h.rows r hd,h.esz r hd];exact e⟩
 | .kid r _ _ _,_,⟨k,hd,b,o,len,cap,i,h1,h2,h3,h4⟩=>⟨sk.mono h k,h.dom r hd,b,o,len,cap,i,(h.loc r hd).trans h1,h2,h.imm b h3,by rw[h.esz r hd];exact h4.of_same (h.mem b h3)⟩
 | .fn _ _,_,⟨vs,e,k⟩=>⟨vs,e,mQ.imp (λn u ⟨hd,hb,he⟩=>⟨h.dom n hd,by rw[h.loc n hd];exact hb,by rw[h.loc n hd];exact he⟩) k⟩
theorem nV.mono (h:Le D g w D' g' w'):{c:AV}->{v:Value}->nV D g w c v->nV D' g' w' c v
 | .cell _,_,k=>mJ.mono h k
 | .agg _,_,⟨vs,e,k⟩=>⟨vs,e,mQ.imp (λ_ _=>mJ.mono h) k⟩
theorem nc.mono (h:Le D g w D' g' w'):{c:AV}->{v:Value}->nc D g w c v->nc D' g' w' c v
 | .cell _,_,k=>mJ.mono h k
 | .agg _,_,⟨vs,e,k⟩=>⟨vs,e,mQ.imp (λ_ _=>mJ.mono h) k⟩
 | .tup _,_,⟨vs,e,k⟩=>⟨vs,e,mQ.imp (λ_ _=>nV.mono h) k⟩
end

def yT (n lo hi:Nat):Prop:=lo<=hi/\∀o,o<n->¬(lo<=o/\o<hi)
def nG (w:World) (b:Nat) (vs:List Value):Prop:=∃c t lo hi,w.heap[b]?=some (.cells c t (lo,hi))/\c.toList=vs/\yT c.size lo hi
theorem nG.of_same {w w':World} {b:Nat} {vs:List Value} (h:nG w b vs) (hb:w'.heap[b]?=w.heap[b]?):nG w' b vs:=by
 obtain⟨c,t,lo,hi,hc,hv,hf⟩:=h;exact⟨c,t,lo,hi,hb.trans hc,hv,hf⟩
def oD (w:World) (e:Cs) (xs:List e.den) (v:Value) (tp:Option Nat) (F:List Nat):Prop :=
 (v=.slice none 0 0/\xs=[]/\tp=none/\F=[]) \/
 ∃b off cap us vs,v=.slice (some ⟨b,off,none⟩) xs.length cap/\tp=some b/\xs.length<=cap/\nG w b us/\off+cap*e.len<=us.length/\(us.drop off).take vs.length=vs/\mS e.len (Cs.Rep w e) xs vs F
def soft (w:World) (b:Nat):Prop:=∀c t lo hi,w.heap[b]?=some (.cells c t (lo,hi))->yT c.size lo hi
def Cs.slAt:Cs->Nat->Bool
 | .one c,0=>c.isSl
 | .cons c _,0=>c.isSl
 | .cons _ r,j+1=>r.slAt j
 | _,_=>false
def Jc (e:Cs) (n:Nat) (vs rows:List Value):Prop:=∀i j,i<n->e.slAt j=true->vs[i*e.len+j]?=rows[i*e.len+j]?
def pJ (w:World) (e:Cs) (xs:List e.den) (v:Value) (F:List Nat) (rows:List Value):Prop :=
 ((∃a,v=.slice a 0 0)/\xs=[]/\F=[]) \/
 ∃b off cap vs F',v=.slice (some ⟨b,off,none⟩) xs.length cap/\F=b::F'/\xs.length<=cap/\tZ w b (off+cap*e.len)/\row w b off vs/\mS e.len (Cs.Rep w e) xs vs F'/\Jc e xs.length vs rows
def isAgg (agg:Bool) (v:Value) (us:List Value):Prop:=(agg=false/\us=[v])\/(agg=true/\v=.agg us.toArray)
def CT.TRep (w:World):(c:CT)->c.den->Value->List Nat->List (List Value)->Prop
 | .sl e,xs,v,F,R=>∃rows,R=[rows]/\pJ w e xs v F rows
 | .int k,x,v,F,R=>R=[]/\CT.Rep w (.int k) x v F
 | .bool,x,v,F,R=>R=[]/\CT.Rep w .bool x v F
 | .str,x,v,F,R=>R=[]/\CT.Rep w .str x v F
 | .err,x,v,F,R=>R=[]/\CT.Rep w .err x v F
def Cs.TRep (w:World):(e:Cs)->e.den->List Value->List Nat->List (List Value)->Prop
 | .one c,x,vs,F,R=>∃v,vs=[v]/\CT.TRep w c x v F R
 | .cons c r,x,vs,F,R=>∃v vs' F1 F2 R1 R2,vs=v::vs'/\F=F1++F2/\R=R1++R2/\CT.TRep w c x.1 v F1 R1/\Cs.TRep w r x.2 vs' F2 R2
def vb (w:World) (e:Cs) (y:Bool×e.den) (v:List Value) (G:List Nat):Prop:=(y.1=true/\Cs.Rep w e y.2 v G)\/(y.1=false/\G=[])
def qT (D:mF->Prop) (g:Gh) (w:World) (n:mF):Entry->Prop
 | .gone=>True
 | .fwd e xs=>sk g w (.sl e) xs (g.loc n)
 | .box cs=>∃b us,g.top n=some b/\g.loc n=.pointer (some ⟨b,0,none⟩)/\nG w b us/\mQ (mJ D g w) cs us
 | .tree e xs=>g.esz n=e.len/\pJ w e xs (g.loc n) (g.nest n) (g.rows n)/\(g.nest n).Nodup
 | .root e m xs=>g.esz n=e.len/\oD w e xs (g.loc n) (g.top n) (g.nest n)/\(∀b∈g.nest n,g.I b)/\(m=true->(g.nest n).Nodup)
 | .frz e xs=>g.esz n=e.len/\g.top n=none/\CT.Rep w (.sl e) xs (g.loc n) (g.nest n)/\(∀b∈g.nest n,g.I b)/\(g.nest n).Nodup
 | .pop e ys=>g.esz n=e.len/\g.top n=none/\(∃F,slRep w e.len (vb w e) ys (g.loc n) F/\(∀b∈F,g.I b)/\F.tail=g.nest n)/\(g.nest n).Nodup
def Entry.alive:Entry->Bool | .box _=>true | .root ..=>true|_=>false
def Entry.deep:Entry->Bool | .root _ m _=>m | .frz ..=>true | .pop ..=>true|_=>false
def Entry.isTree:Entry->Bool | .tree ..=>true|_=>false
abbrev dom (en:List (mF×Entry)) (n:mF):Prop:=mG en n≠none
structure oA (en:List (mF×Entry)) (g:Gh) (w:World):Prop where
 rep:∀n e,mG en n=some e->qT (dom en) g w n e
 apart:∀n m e f b,mG en n=some e->mG en m=some f->e.alive=true->f.alive=true->g.top n=some b->g.top m=some b->n=m
 topI:∀n e b,mG en n=some e->e.alive=true->g.top n=some b->¬g.I b
 nests:∀n m e f,mG en n=some e->mG en m=some f->e.deep=true->f.deep=true->n≠m->∀b,b∈g.nest n->b∉g.nest m
 old:∀b,g.I b->b<w.heap.size
 one:∀n,dom en n->(g.loc n).oneCell'=true
 wood:∀n e b,mG en n=some e->e.isTree=true->b∈g.nest n->¬g.I b/\(∀m f,mG en m=some f->f.alive=true->g.top m≠some b)/\∀m f,m≠n->mG en m=some f->f.isTree=true->b∉g.nest m
def D4 (w0:World) (N:Nat->Prop) (b:Nat):Prop:=N (w0.heap.size+b)
structure FP (w0:World) (T N:Nat->Prop) (en:List (mF×Entry)) (g:Gh) (w:World):Prop where
 os:w.os=w0.os
 out:w.output=w0.output
 tape:w.tape=w0.tape
 size:w0.heap.size<=w.heap.size
 mem:∀b,b<w0.heap.size->¬T b->w.heap[b]?=w0.heap[b]?
 tops:∀n e b,mG en n=some e->e.alive=true->g.top n=some b->w0.heap.size<=b\/T b
 nests:∀n e b,mG en n=some e->e.deep=true->b∈g.nest n->w0.heap.size<=b\/T b\/N b
 imm:∀b,g.I b->w0.heap.size<=b\/T b\/D4 w0 N b
 born:∀n e b,mG en n=some e->e.isTree=true->b∈g.nest n->w0.heap.size<=b\/T b
 soft:∀b,w0.heap.size<=b\/T b->Go.V.soft w b
structure nk (w0:World) (T N:Nat->Prop) (S:St) (g:Gh) (w:World) (a:Act):Prop where
 mem:oA S.en g w
 since:FP w0 T N S.en g w
 tmps:∀t,nc (dom S.en) g w (S.tmp t) (a.tmps.getD t undef)
 plain:a.defers=[]

end Go.V
namespace Go.V

theorem mR {α:Type} (j i:Nat) (x:α) (l:List (Nat×α)):mG ((j,x)::l) i=if j=i then some x else mG l i:=by
 simp only[mG];by_cases h:j=i
 · subst h;simp
 · have:Nat.beq j i=false:=by cases hb:Nat.beq j i with|true=>exact absurd (Nat.eq_of_beq_eq_true hb) h|false=>rfl
   simp[this,h]
theorem p7 {α:Type} (j:Nat) (x:α) (l:List (Nat×α)):mG ((j,x)::l) j=some x:=by rw[mR,if_pos rfl]
theorem ni {α:Type} {j i:Nat} (h:j≠i) (x:α) (l:List (Nat×α)):mG ((j,x)::l) i=mG l i:=by rw[mR,if_neg h]
theorem nJ {n m:mF} {e:Entry} {en:List (mF×Entry)}:dom ((n,e)::en) m↔m=n\/dom en m:=by
 unfold dom;rw[mR];by_cases h:n=m
 · simp[h]
 · simp[h,Ne.symm h]

structure MS (w0:World) (T N:Nat->Prop) (en:List (mF×Entry)) (g:Gh) (w:World):Prop where
 mem:oA en g w
 since:FP w0 T N en g w
variable {w0:World} {T N:Nat->Prop} {en:List (mF×Entry)} {g g':Gh} {w w':World}

theorem vb.of_same {w w':World} {e:Cs} {y:Bool×e.den} {v:List Value} {G:List Nat} (hb:∀b∈G,w'.heap[b]?=w.heap[b]?) (h:vb w e y v G):vb w' e y v G :=
 h.imp (λ⟨h1,h2⟩=>⟨h1,Cs.Rep.of_same hb h2⟩) id
theorem nG.lt {b:Nat} {us:List Value} (h:nG w b us):b<w.heap.size:=by
 obtain⟨c,t,lo,hi,hc,_⟩:=h;rcases Nat.lt_or_ge b w.heap.size with h|h
 · exact h
 · simp[Array.getElem?_eq_none h]at hc
theorem qT.top_lt {D:mF->Prop} {n:mF} {e:Entry} (h:qT D g w n e) (ha:e.alive=true) {b:Nat} (hb:g.top n=some b):b<w.heap.size:=by
 cases e with
 | gone=>simp[Entry.alive]at ha
 | fwd=>simp[Entry.alive]at ha
 | box cs=>obtain⟨b',us,ht,_,ho,_⟩:=h;rw[hb]at ht;cases ht;exact ho.lt
 | tree=>simp[Entry.alive]at ha
 | frz=>simp[Entry.alive]at ha
 | pop=>simp[Entry.alive]at ha
 | root e m xs =>
  obtain⟨_,hr,_⟩:=h;rcases hr with ⟨_,_,ht,_⟩|⟨b',off,cap,us,vs,_,ht,_,ho,_⟩
  · rw[hb]at ht;cases ht
  · rw[hb]at ht;cases ht;exact ho.lt

theorem ta {b:Nat} {o:Obj} (h:w.heap[b]?=some o):b<w.heap.size:=by
 rcases Nat.lt_or_ge b w.heap.size with h'|h'
 · exact h'
 · simp[Array.getElem?_eq_none h']at h
theorem soft.of_same {b:Nat} (h:soft w b) (hb:w'.heap[b]?=w.heap[b]?):soft w' b:=λc t lo hi hc=>h c t lo hi (hb▸hc)
theorem nG.soft {b:Nat} {us:List Value} (h:nG w b us):Go.V.soft w b:=by
 obtain⟨c,t,lo,hi,hc,_,hf⟩:=h;intro c' t' lo' hi' hc';rw[hc]at hc';cases hc';exact hf
theorem mS.lt {α:Type} {n:Nat} {R:α->List Value->List Nat->Prop}:∀{xs:List α} {vs:List Value} {F:List Nat},(∀x v G,R x v G->∀b∈G,b<w.heap.size)->mS n R xs vs F->∀b∈F,b<w.heap.size
 | [],vs,F,_,h,b,hb=>by obtain⟨_,rfl⟩:=h;simp at hb
 | x::xs,vs,F,hR,h,b,hb=>by
  obtain⟨v1,v2,F1,F2,rfl,h1,rfl,hr,h⟩:=h;rcases mem_append.1 hb with hb|hb
  · exact hR _ _ _ hr b hb
  · exact mS.lt hR h b hb
mutual
theorem CT.Rep.lt:{c:CT}->{x:c.den}->{v:Value}->{F:List Nat}->CT.Rep w c x v F->∀b∈F,b<w.heap.size
 | .int _,_,_,_,h,b,hb=>by simp only[CT.Rep]at h;rw[h.2]at hb;simp at hb
 | .bool,_,_,_,h,b,hb=>by simp only[CT.Rep]at h;rw[h.2]at hb;simp at hb
 | .str,_,_,_,h,b,hb=>by simp only[CT.Rep]at h;rw[h.2]at hb;simp at hb
 | .err,_,_,_,h,b,hb=>by simp only[CT.Rep]at h;rw[h.1]at hb;simp at hb
 | .sl e,xs,v,F,h,b,hb=>by
  simp only[CT.Rep]at h;rcases h with ⟨_,_,rfl⟩|⟨b',off,cap,vs,F',_,rfl,_,⟨c,t,fz,hc,_⟩,_,hL⟩
  · simp at hb
  · rcases mem_cons.1 hb with rfl|hb
    · exact ta hc
    · exact mS.lt (λx v G hr=>Cs.Rep.lt hr) hL b hb
theorem Cs.Rep.lt:{e:Cs}->{x:e.den}->{vs:List Value}->{F:List Nat}->Cs.Rep w e x vs F->∀b∈F,b<w.heap.size
 | .one c,x,vs,F,h,b,hb=>by
  simp only[Cs.Rep]at h;obtain⟨v,rfl,h⟩:=h;exact CT.Rep.lt h b hb
 | .cons c r,x,vs,F,h,b,hb=>by
  simp only[Cs.Rep]at h;obtain⟨v,vs',F1,F2,rfl,rfl,h1,h2⟩:=h;rcases mem_append.1 hb with hb|hb
  · exact CT.Rep.lt h1 b hb
  · exact Cs.Rep.lt h2 b hb
end
theorem pJ.slRep {e:Cs} {xs:List e.den} {v:Value} {F:List Nat} {rows:List Value} (h:pJ w e xs v F rows):CT.Rep w (.sl e) xs v F:=by
 simp only[CT.Rep];rcases h with h|⟨b,off,cap,vs,F',h1,h2,h3,h4,h5,h6,_⟩
 · exact .inl h
 · exact .inr ⟨b,off,cap,vs,F',h1,h2,h3,h4,h5,h6⟩
theorem pJ.of_same {e:Cs} {xs:List e.den} {v:Value} {F:List Nat} {rows:List Value} (hb:∀b∈F,w'.heap[b]?=w.heap[b]?) (h:pJ w e xs v F rows):pJ w' e xs v F rows:=by
 rcases h with h|⟨b,off,cap,vs,F',h1,rfl,h3,h4,h5,h6,h7⟩
 · exact .inl h
 · exact .inr ⟨b,off,cap,vs,F',h1,rfl,h3,h4.of_same (hb b (by simp)),h5.of_same (hb b (by simp)),h6.imp λx v G _ hG hr=>Cs.Rep.of_same (λc hc=>hb c (by simp[hG c hc])) hr,h7⟩
theorem qh {D:mF->Prop} {n:mF} {e:Entry} (h:qT D g w n e) (ht:e.isTree=true) {b:Nat} (hb:b∈g.nest n):b<w.heap.size:=by
 cases e with
 | tree e xs=>exact CT.Rep.lt h.2.1.slRep b hb
 | _=>cases ht
theorem qT.mono {D D':mF->Prop} (h:Le D g w D' g' w') {n:mF} {e:Entry} (hn:D n) (ht:g'.top n=g.top n) (hs:g'.nest n=g.nest n)
 (hb:e.alive=true->∀b,g.top n=some b->w'.heap[b]?=w.heap[b]?) (hw:e.isTree=true->∀b∈g.nest n,w'.heap[b]?=w.heap[b]?) (k:qT D g w n e):qT D' g' w' n e:=by
 cases e with
 | tree e xs =>
  obtain⟨h1,h2,h3⟩:=k;refine⟨(h.esz n hn).trans h1,?_,by rw[hs];exact h3⟩;rw[h.loc n hn,hs,h.rows n hn];exact h2.of_same (hw rfl)
 | gone=>trivial
 | frz e xs =>
  obtain⟨h1,h2,h3,h4,h5⟩:=k;refine⟨(h.esz n hn).trans h1,ht.trans h2,?_,by rw[hs];exact λb hb=>h.imm b (h4 b hb),by rw[hs];exact h5⟩;rw[h.loc n hn,hs];exact CT.Rep.of_same (λb hb=>h.mem b (h4 b hb)) h3
 | pop e ys =>
  obtain⟨h1,h2,⟨F,h3,h4,h5⟩,h6⟩:=k;refine⟨(h.esz n hn).trans h1,ht.trans h2,⟨F,?_,λb hb=>h.imm b (h4 b hb),by rw[hs];exact h5⟩,by rw[hs];exact h6⟩;rw[h.loc n hn];exact slRep.of_same (λx v G _ hG hr=>vb.of_same (λb hb=>h.mem b (h4 b (hG b hb))) hr) (λb hb=>h.mem b (h4 b hb)) h3
 | fwd e xs=>simp only[qT]at k ⊢;rw[h.loc n hn];exact sk.mono h k
 | box cs =>
  obtain⟨b,us,h1,h2,h3,h4⟩:=k;exact⟨b,us,ht.trans h1,(h.loc n hn).trans h2,h3.of_same (hb rfl b h1),mQ.imp (λ_ _=>mJ.mono h) h4⟩
 | root e m xs =>
  obtain⟨h1,h2,h3,h4⟩:=k;refine⟨(h.esz n hn).trans h1,?_,by rw[hs];exact λb hb=>h.imm b (h3 b hb),by rw[hs];exact h4⟩;rw[h.loc n hn,ht,hs];rcases h2 with h2|⟨b,off,cap,us,vs,e1,e2,e3,e4,e5,e6,e7⟩
  · exact .inl h2
  · exact .inr ⟨b,off,cap,us,vs,e1,e2,e3,e4.of_same (hb rfl b e2),e5,e6,e7.imp λx v G _ hG hr=>Cs.Rep.of_same (λb hb=>h.mem b (h3 b (hG b hb))) hr⟩

theorem MS.world (h:MS w0 T N en g w) (hi:∀b,g.I b->w'.heap[b]?=w.heap[b]?) (ht:∀n e b,mG en n=some e->e.alive=true->g.top n=some b->w'.heap[b]?=w.heap[b]?)
 (hos:w'.os=w.os) (hout:w'.output=w.output) (htape:w'.tape=w.tape) (hsize:w.heap.size<=w'.heap.size) (hold:∀b,b<w0.heap.size->¬T b->w'.heap[b]?=w.heap[b]?)
 (hw:∀n e b,mG en n=some e->e.isTree=true->b∈g.nest n->w'.heap[b]?=w.heap[b]?) (hsoft:∀b,w0.heap.size<=b\/T b->Go.V.soft w' b) :
 MS w0 T N en g w'/\Le (dom en) g w (dom en) g w':=by
 have hle:Le (dom en) g w (dom en) g w':=⟨λ_ h=>h,λ_ _=>rfl,λ_ _=>rfl,λ_ h=>h,hi,λ_ _=>rfl⟩;refine⟨⟨⟨λn e hn=>?_,h.mem.apart,h.mem.topI,h.mem.nests,λb hb=>Nat.lt_of_lt_of_le (h.mem.old b hb) hsize,h.mem.one,h.mem.wood⟩,
  ⟨hos.trans h.since.os,hout.trans h.since.out,htape.trans h.since.tape,Nat.le_trans h.since.size hsize,λb hb hT=>(hold b hb hT).trans (h.since.mem b hb hT),h.since.tops,h.since.nests,h.since.imm,h.since.born,hsoft⟩⟩,hle⟩
 exact (h.mem.rep n e hn).mono hle (by unfold dom;rw[hn];simp) rfl rfl (λha b hb=>ht n e b hn ha hb) λha b hb=>hw n e b hn ha hb

theorem MS.softs (h:MS w0 T N en g w) (hs:∀b,b<w.heap.size->w'.heap[b]?=w.heap[b]?) (hn:∀b,w.heap.size<=b->Go.V.soft w' b):∀b,w0.heap.size<=b\/T b->Go.V.soft w' b:=λb hb=>by
 rcases Nat.lt_or_ge b w.heap.size with hl|hl
 · exact (h.since.soft b hb).of_same (hs b hl)
 · exact hn b hl
theorem MS.drew (h:MS w0 T N en g w):MS w0 T N en g w.drew/\Le (dom en) g w (dom en) g w.drew :=
 h.world (λ_ _=>rfl) (λ_ _ _ _ _ _=>rfl) rfl rfl rfl (Nat.le_refl _) (λ_ _ _=>rfl) (λ_ _ _ _ _ _=>rfl) (λb hb=>(h.since.soft b hb).of_same rfl)
theorem sm (w:World) (o:Obj) (b:Nat) (h:b<w.heap.size):(w.alloc o).heap[b]?=w.heap[b]?:=by
 show (w.heap.push o)[b]?=_;rw[Array.getElem?_push,if_neg (by omega)]
theorem uz (w:World) (o:Obj):(w.alloc o).heap[w.heap.size]?=some o:=by show (w.heap.push o)[w.heap.size]?=_;simp
theorem MS.alloc (h:MS w0 T N en g w) (o:Obj) (ho:∀c t lo hi,o=.cells c t (lo,hi)->yT c.size lo hi:=by intro c t lo hi h;cases h;exact⟨Nat.le_refl _,λk _ hk=>by omega⟩):MS w0 T N en g (w.alloc o)/\Le (dom en) g w (dom en) g (w.alloc o) :=
 h.world (λb hb=>sm w o b (h.mem.old b hb)) (λn e b hn ha hb=>sm w o b ((h.mem.rep n e hn).top_lt ha hb)) rfl rfl rfl (by simp) (λb hb _=>sm w o b (Nat.lt_of_lt_of_le hb h.since.size))
  (λn e b hn ha hb=>sm w o b (qh (h.mem.rep n e hn) ha hb)) (λb hb=>by
   rcases Nat.lt_trichotomy b w.heap.size with hlt|rfl|hgt
   · exact (h.since.soft b hb).of_same (sm w o b hlt)
   · intro c t lo hi hc;rw[uz]at hc;exact ho c t lo hi (Option.some.inj hc)
   · intro c t lo hi hc;have:=ta hc
     simp at this;omega)

theorem MS.gone (h:MS w0 T N en g w) {n:mF} (hn:dom en n):MS w0 T N ((n,.gone)::en) g w/\Le (dom en) g w (dom ((n,.gone)::en)) g w:=by
 have hd:∀m,dom en m->dom ((n,.gone)::en) m:=λm hm=>nJ.2 (.inr hm);have hle:Le (dom en) g w (dom ((n,.gone)::en)) g w:=⟨hd,λ_ _=>rfl,λ_ _=>rfl,λ_ h=>h,λ_ _=>rfl,λ_ _=>rfl⟩
 have key:∀m e,mG ((n,.gone)::en) m=some e->e=.gone\/mG en m=some e:=λm e hm=>by
  rw[mR]at hm;split at hm
  · exact .inl (Option.some.inj hm).symm
  · exact .inr hm
 have keyA:∀m e,mG ((n,.gone)::en) m=some e->e.alive=true->mG en m=some e:=λm e hm ha=>by
  rcases key m e hm with rfl|h
  · simp[Entry.alive]at ha
  · exact h
 have keyD:∀m e,mG ((n,.gone)::en) m=some e->e.deep=true->mG en m=some e:=λm e hm ha=>by
  rcases key m e hm with rfl|h
  · simp[Entry.deep]at ha
  · exact h
 have keyT:∀m e,mG ((n,.gone)::en) m=some e->e.isTree=true->mG en m=some e:=λm e hm ha=>by
  rcases key m e hm with rfl|h
  · simp[Entry.isTree]at ha
  · exact h
 refine⟨⟨⟨λm e hm=>?_,λa b e f c ha hb h1 h2=>h.mem.apart a b e f c (keyA a e ha h1) (keyA b f hb h2) h1 h2,λm e b hm ha=>h.mem.topI m e b (keyA m e hm ha) ha,
  λa b e f ha hb h1 h2=>h.mem.nests a b e f (keyD a e ha h1) (keyD b f hb h2) h1 h2,h.mem.old,λm hm=>h.mem.one m ((nJ.1 hm).elim (λe=>e▸hn) id),λm e b hm ht hb=>?_⟩,
  ⟨h.since.os,h.since.out,h.since.tape,h.since.size,h.since.mem,λm e b hm ha=>h.since.tops m e b (keyA m e hm ha) ha,λm e b hm ha=>h.since.nests m e b (keyD m e hm ha) ha,h.since.imm,λm e b hm ha=>h.since.born m e b (keyT m e hm ha) ha,h.since.soft⟩⟩,hle⟩
 · rcases key m e hm with rfl|h'
   · trivial
   · exact (h.mem.rep m e h').mono hle (by unfold dom;rw[h'];simp) rfl rfl (λ_ _ _=>rfl) λ_ _ _=>rfl
 · obtain⟨k1,k2,k3⟩:=h.mem.wood m e b (keyT m e hm ht) ht hb;exact⟨k1,λa f ha hf=>k2 a f (keyA a f ha hf) hf,λa f han ha hf=>k3 a f han (keyT a f ha hf) hf⟩

structure NI where
 loc:Value
 esz:Nat
 top:Option Nat
 nest:List Nat
def Gh.set (g:Gh) (n:mF) (i:NI):Gh :=
 ⟨g.I,λm=>if m=n then i.loc else g.loc m,λm=>if m=n then i.esz else g.esz m,λm=>if m=n then i.top else g.top m,λm=>if m=n then i.nest else g.nest m,g.rows⟩
theorem Gh.set_le {n:mF} (e:Entry) (i:NI) (hn:dom en n->i.loc=g.loc n/\i.esz=g.esz n):Le (dom en) g w (dom ((n,e)::en)) (g.set n i) w :=
 ⟨λm hm=>nJ.2 (.inr hm),
  λm hm => show (if m=n then i.loc else g.loc m)=g.loc m from by
   by_cases he : m=n
   · subst he;rw[if_pos rfl];exact (hn hm).1
   · rw[if_neg he],
  λm hm => show (if m=n then i.esz else g.esz m)=g.esz m from by
   by_cases he : m=n
   · subst he;rw[if_pos rfl];exact (hn hm).2
   · rw[if_neg he],
  λ_ h=>h,λ_ _=>rfl,λ_ _=>rfl⟩

theorem MS.put (h:MS w0 T N en g w) {n:mF} {e:Entry} {i:NI} (hn:dom en n->i.loc=g.loc n/\i.esz=g.esz n) (hone:i.loc.oneCell'=true) (hr:qT (dom ((n,e)::en)) (g.set n i) w n e)
 (htop:e.alive=true->∀b,i.top=some b->¬g.I b/\(∀m f,m≠n->mG en m=some f->f.alive=true->g.top m≠some b)/\(w0.heap.size<=b\/T b)/\∀m f,m≠n->mG en m=some f->f.isTree=true->b∉g.nest m)
 (hnest:e.deep=true->∀b,b∈i.nest->(∀m f,m≠n->mG en m=some f->f.deep=true->b∉g.nest m)/\(w0.heap.size<=b\/T b\/N b))
 (hwood:e.isTree=true->∀b,b∈i.nest->¬g.I b/\(∀m f,m≠n->mG en m=some f->f.alive=true->g.top m≠some b)/\(∀m f,m≠n->mG en m=some f->f.isTree=true->b∉g.nest m)/\(w0.heap.size<=b\/T b):=by intro h;cases h) :
 MS w0 T N ((n,e)::en) (g.set n i) w/\Le (dom en) g w (dom ((n,e)::en)) (g.set n i) w:=by
 have hle:=Gh.set_le (g:=g) (w:=w) e i hn;have key:∀m f,mG ((n,e)::en) m=some f->(m=n/\f=e)\/(m≠n/\mG en m=some f):=λm f hm=>by
  rw[mR]at hm;split at hm
  · rename_i h;exact .inl ⟨h.symm,(Option.some.inj hm).symm⟩
  · rename_i h;exact .inr ⟨λe=>h e.symm,hm⟩
 have t1:(g.set n i).top n=i.top:=by simp[Gh.set]
 have t2:∀m,m≠n->(g.set n i).top m=g.top m:=λm hm=>by simp[Gh.set,hm]
 have s1:(g.set n i).nest n=i.nest:=by simp[Gh.set]
 have s2:∀m,m≠n->(g.set n i).nest m=g.nest m:=λm hm=>by simp[Gh.set,hm]
 refine⟨⟨⟨λm f hm=>?_,λa b f f' c ha hb h1 h2 hta htb=>?_,λm f b hm ha hb=>?_,λa b f f' ha hb h1 h2 hab c hc=>?_,h.mem.old,λm hm=>?_,λm f b hm ha hb=>?_⟩,
  ⟨h.since.os,h.since.out,h.since.tape,h.since.size,h.since.mem,λm f b hm ha hb=>?_,λm f b hm ha hb=>?_,h.since.imm,λm f b hm ha hb=>?_,h.since.soft⟩⟩,hle⟩
 · rcases key m f hm with ⟨rfl,rfl⟩|⟨hmn,hm⟩
   · exact hr
   · exact (h.mem.rep m f hm).mono hle (by unfold dom;rw[hm];simp) (t2 m hmn) (s2 m hmn) (λ_ _ _=>rfl) λ_ _ _=>rfl
 · rcases key a f ha with ⟨rfl,rfl⟩|⟨han,ka⟩<;>rcases key b f' hb with ⟨hb1,hb2⟩|⟨hbn,kb⟩
   · exact hb1.symm
   · rw[t1]at hta;rw[t2 b hbn]at htb;exact absurd htb ((htop h1 c hta).2.1 b f' hbn kb h2)
   · subst hb1 hb2;rw[t1]at htb;rw[t2 a han]at hta;exact absurd hta ((htop h2 c htb).2.1 a f han ka h1)
   · rw[t2 a han]at hta;rw[t2 b hbn]at htb;exact h.mem.apart a b f f' c ka kb h1 h2 hta htb
 · rcases key m f hm with ⟨rfl,rfl⟩|⟨hmn,km⟩
   · rw[t1]at hb;exact (htop ha b hb).1
   · rw[t2 m hmn]at hb;exact h.mem.topI m f b km ha hb
 · rcases key a f ha with ⟨rfl,rfl⟩|⟨han,ka⟩<;>rcases key b f' hb with ⟨hb1,hb2⟩|⟨hbn,kb⟩
   · exact absurd hb1.symm hab
   · rw[s1]at hc;rw[s2 b hbn];exact (hnest h1 c hc).1 b f' hbn kb h2
   · subst hb1 hb2;rw[s2 a han]at hc;rw[s1];exact λhc'=>(hnest h2 c hc').1 a f han ka h1 hc
   · rw[s2 a han]at hc;rw[s2 b hbn];exact h.mem.nests a b f f' ka kb h1 h2 hab c hc
 · show (if m=n then i.loc else g.loc m).oneCell'=true;by_cases he:m=n
   · rw[if_pos he];exact hone
   · rw[if_neg he];exact h.mem.one m ((nJ.1 hm).resolve_left he)
 · rcases key m f hm with ⟨rfl,rfl⟩|⟨hmn,km⟩
   · rw[s1]at hb;obtain⟨k1,k2,k3,_⟩:=hwood ha b hb;refine⟨k1,λa f' ha' hf'=>?_,λa f' han ha' hf'=>?_⟩
     · rcases key a f' ha' with ⟨rfl,rfl⟩|⟨han,ka⟩
       · exfalso;cases f'<;>simp[Entry.isTree,Entry.alive]at ha hf'
       · rw[t2 a han];exact k2 a f' han ka hf'
     · rcases key a f' ha' with ⟨rfl,rfl⟩|⟨han',ka⟩
       · exact absurd rfl han
       · rw[s2 a han'];exact k3 a f' han' ka hf'
   · rw[s2 m hmn]at hb;obtain⟨k1,k2,k3⟩:=h.mem.wood m f b km ha hb;refine⟨k1,λa f' ha' hf'=>?_,λa f' han ha' hf'=>?_⟩
     · rcases key a f' ha' with ⟨rfl,rfl⟩|⟨han,ka⟩
       · rw[t1];exact λht=>(htop hf' b ht).2.2.2 m f hmn km ha hb
       · rw[t2 a han];exact k2 a f' ka hf'
     · rcases key a f' ha' with ⟨rfl,rfl⟩|⟨han',ka⟩
       · rw[s1];exact λhb'=>(hwood hf' b hb').2.2.1 m f hmn km ha hb
       · rw[s2 a han'];exact k3 a f' han ka hf'
 · rcases key m f hm with ⟨rfl,rfl⟩|⟨hmn,km⟩
   · rw[t1]at hb;exact (htop ha b hb).2.2.1
   · rw[t2 m hmn]at hb;exact h.since.tops m f b km ha hb
 · rcases key m f hm with ⟨rfl,rfl⟩|⟨hmn,km⟩
   · rw[s1]at hb;exact (hnest ha b hb).2
   · rw[s2 m hmn]at hb;exact h.since.nests m f b km ha hb
 · rcases key m f hm with ⟨rfl,rfl⟩|⟨hmn,km⟩
   · rw[s1]at hb;exact (hwood ha b hb).2.2.2
   · rw[s2 m hmn]at hb;exact h.since.born m f b km ha hb

theorem MS.freeze (h:MS w0 T N en g w) (J:Nat->Prop) (hJ:∀b,J b->b<w.heap.size) (ht:∀n e b,mG en n=some e->e.alive=true->g.top n=some b->¬J b) (hw:∀n e b,mG en n=some e->e.isTree=true->b∈g.nest n->¬J b) (hJ0:∀b,J b->w0.heap.size<=b\/T b\/D4 w0 N b) :
 MS w0 T N en { g with I:=λb=>g.I b\/J b } w/\Le (dom en) g w (dom en) { g with I:=λb=>g.I b\/J b } w:=by
 have hle:Le (dom en) g w (dom en) { g with I:=λb=>g.I b\/J b } w:=⟨λ_ h=>h,λ_ _=>rfl,λ_ _=>rfl,λ_ h=>.inl h,λ_ _=>rfl,λ_ _=>rfl⟩;refine⟨⟨⟨λn e hn=>(h.mem.rep n e hn).mono hle (by unfold dom;rw[hn];simp) rfl rfl (λ_ _ _=>rfl) λ_ _ _=>rfl,h.mem.apart,λn e b hn ha hb hI=>?_,h.mem.nests,λb hb=>?_,h.mem.one,λn e b hn ha hb=>⟨λhI=>hI.elim (h.mem.wood n e b hn ha hb).1 (hw n e b hn ha hb),(h.mem.wood n e b hn ha hb).2⟩⟩,
  ⟨h.since.os,h.since.out,h.since.tape,h.since.size,h.since.mem,h.since.tops,h.since.nests,λb hb=>hb.elim (h.since.imm b) (hJ0 b),h.since.born,h.since.soft⟩⟩,hle⟩
 · exact hI.elim (h.mem.topI n e b hn ha hb) (ht n e b hn ha hb)
 · exact hb.elim (h.mem.old b) (hJ b)

theorem MS.fwd (h:MS w0 T N en g w) {n:mF} {e:Cs} {m:Bool} {xs:List e.den} (hn:mG en n=some (.root e m xs)) :
 ∃g',MS w0 T N ((n,.fwd e xs)::en) g' w/\Le (dom en) g w (dom ((n,.fwd e xs)::en)) g' w/\g'.loc=g.loc/\g'.esz=g.esz/\g'.top=g.top/\g'.nest=g.nest/\(∀b,g'.I b↔g.I b\/g.top n=some b):=by
 obtain⟨h1,hle1⟩:=h.gone (n:=n) (by unfold dom;rw[hn];simp);have hrep:=h.mem.rep n _ hn
 obtain⟨h2,hle2⟩:=h1.freeze (λb=>g.top n=some b) (λb hb=>hrep.top_lt rfl hb) (λm f b hm ha hb hc=>by
  have hmn:m≠n:=λhe=>by subst he;rw[p7]at hm;cases hm;simp[Entry.alive]at ha
  rw[ni (Ne.symm hmn)]at hm;exact hmn (h.mem.apart m n f _ b hm hn ha rfl hb hc)) (λm f b hm ha hb hc=>by
   have hmn:m≠n:=λhe=>by subst he;rw[p7]at hm;cases hm;simp[Entry.isTree]at ha
   rw[ni (Ne.symm hmn)]at hm;exact (h.mem.wood m f b hm ha hb).2.1 n _ hn rfl hc) (λb hb=>(h.since.tops n _ b hn rfl hb).imp id .inl)
 refine⟨{ g with I:=λb=>g.I b\/g.top n=some b },?_,?_,rfl,rfl,rfl,rfl,λb=>Iff.rfl⟩
 · have hd:∀m,dom ((n,.gone)::en) m↔dom ((n,.fwd e xs)::en) m:=λm=>by rw[nJ,nJ]
   have hle3:Le (dom ((n,.gone)::en)) { g with I:=λb=>g.I b\/g.top n=some b } w (dom ((n,.fwd e xs)::en)) { g with I:=λb=>g.I b\/g.top n=some b } w :=
    ⟨λm=>(hd m).1,λ_ _=>rfl,λ_ _=>rfl,λ_ h=>h,λ_ _=>rfl,λ_ _=>rfl⟩
   have key:∀m f,mG ((n,.fwd e xs)::en) m=some f->(m=n/\f=.fwd e xs)\/mG ((n,.gone)::en) m=some f:=λm f hm=>by
    rw[mR]at hm;split at hm
    · rename_i h;exact .inl ⟨h.symm,(Option.some.inj hm).symm⟩
    · rename_i h;exact .inr (by rw[ni h];exact hm)
   have keyA:∀m f,mG ((n,.fwd e xs)::en) m=some f->f.alive=true->mG ((n,.gone)::en) m=some f:=λm f hm ha=>by
    rcases key m f hm with ⟨_,rfl⟩|h
    · simp[Entry.alive]at ha
    · exact h
   have keyD:∀m f,mG ((n,.fwd e xs)::en) m=some f->f.deep=true->mG ((n,.gone)::en) m=some f:=λm f hm ha=>by
    rcases key m f hm with ⟨_,rfl⟩|h
    · simp[Entry.deep]at ha
    · exact h
   have keyT:∀m f,mG ((n,.fwd e xs)::en) m=some f->f.isTree=true->mG ((n,.gone)::en) m=some f:=λm f hm ha=>by
    rcases key m f hm with ⟨_,rfl⟩|h
    · simp[Entry.isTree]at ha
    · exact h
   refine⟨⟨λm f hm=>?_,λa b f f' c ha hb k1 k2=>h2.mem.apart a b f f' c (keyA a f ha k1) (keyA b f' hb k2) k1 k2,λm f b hm ha=>h2.mem.topI m f b (keyA m f hm ha) ha,
    λa b f f' ha hb k1 k2=>h2.mem.nests a b f f' (keyD a f ha k1) (keyD b f' hb k2) k1 k2,h2.mem.old,λm hm=>h2.mem.one m ((hd m).2 hm),λm f b hm ht hb=>?_⟩,
    ⟨h2.since.os,h2.since.out,h2.since.tape,h2.since.size,h2.since.mem,λm f b hm ha=>h2.since.tops m f b (keyA m f hm ha) ha,λm f b hm ha=>h2.since.nests m f b (keyD m f hm ha) ha,h2.since.imm,λm f b hm ha=>h2.since.born m f b (keyT m f hm ha) ha,h2.since.soft⟩⟩
   rotate_left
   · obtain⟨k1,k2,k3⟩:=h2.mem.wood m f b (keyT m f hm ht) ht hb;exact⟨k1,λa f' ha hf=>k2 a f' (keyA a f' ha hf) hf,λa f' han ha hf=>k3 a f' han (keyT a f' ha hf) hf⟩
   rcases key m f hm with ⟨rfl,rfl⟩|hm
   · obtain⟨_,hr,hI,_⟩:=hrep;rcases hr with ⟨h1,rfl,_,_⟩|⟨b,off,cap,us,vs,h1,h2,h3,h4,h5,h6,h7⟩
     · exact⟨[],by simp only[CT.Rep];exact .inl ⟨⟨_,h1⟩,rfl,rfl⟩,by simp⟩
     · refine⟨b::g.nest m,?_,λb' hb'=>?_⟩
       · simp only[CT.Rep];obtain⟨c,t,lo,hi,hc,rfl,_⟩:=h4;exact .inr ⟨b,off,cap,vs,g.nest m,h1,rfl,h3,⟨c,t,_,hc,by simpa using h5⟩,⟨c,t,_,hc,h6⟩,h7⟩
       · rcases mem_cons.1 hb' with rfl|hb'
         · exact .inr h2
         · exact .inl (hI b' hb')
   · exact (h2.mem.rep m f hm).mono hle3 (by unfold dom;rw[hm];simp) rfl rfl (λ_ _ _=>rfl) λ_ _ _=>rfl
 · exact⟨λm hm=>nJ.2 (.inr hm),λ_ _=>rfl,λ_ _=>rfl,λ_ h=>.inl h,λ_ _=>rfl,λ_ _=>rfl⟩

theorem MS.refwd {g2:Gh} {n:mF} (h2:MS w0 T N ((n,.gone)::en) g2 w) {e:Cs} {xs:List e.den} (hsh:sk g2 w (.sl e) xs (g2.loc n)) :
 MS w0 T N ((n,.fwd e xs)::en) g2 w/\Le (dom ((n,.gone)::en)) g2 w (dom ((n,.fwd e xs)::en)) g2 w:=by
 have hd:∀m,dom ((n,.gone)::en) m↔dom ((n,.fwd e xs)::en) m:=λm=>by rw[nJ,nJ]
 have hle3:Le (dom ((n,.gone)::en)) g2 w (dom ((n,.fwd e xs)::en)) g2 w:=⟨λm=>(hd m).1,λ_ _=>rfl,λ_ _=>rfl,λ_ h=>h,λ_ _=>rfl,λ_ _=>rfl⟩;have key:∀m f,mG ((n,.fwd e xs)::en) m=some f->(m=n/\f=.fwd e xs)\/mG ((n,.gone)::en) m=some f:=λm f hm=>by
  rw[mR]at hm;split at hm
  · rename_i h;exact .inl ⟨h.symm,(Option.some.inj hm).symm⟩
  · rename_i h;exact .inr (by rw[ni h];exact hm)
 have keyA:∀m f,mG ((n,.fwd e xs)::en) m=some f->f.alive=true->mG ((n,.gone)::en) m=some f:=λm f hm ha=>by
  rcases key m f hm with ⟨_,rfl⟩|h
  · simp[Entry.alive]at ha
  · exact h
 have keyD:∀m f,mG ((n,.fwd e xs)::en) m=some f->f.deep=true->mG ((n,.gone)::en) m=some f:=λm f hm ha=>by
  rcases key m f hm with ⟨_,rfl⟩|h
  · simp[Entry.deep]at ha
  · exact h
 have keyT:∀m f,mG ((n,.fwd e xs)::en) m=some f->f.isTree=true->mG ((n,.gone)::en) m=some f:=λm f hm ha=>by
  rcases key m f hm with ⟨_,rfl⟩|h
  · simp[Entry.isTree]at ha
  · exact h
 refine⟨⟨⟨λm f hm=>?_,λa b f f' c ha hb k1 k2=>h2.mem.apart a b f f' c (keyA a f ha k1) (keyA b f' hb k2) k1 k2,λm f b hm ha=>h2.mem.topI m f b (keyA m f hm ha) ha,
  λa b f f' ha hb k1 k2=>h2.mem.nests a b f f' (keyD a f ha k1) (keyD b f' hb k2) k1 k2,h2.mem.old,λm hm=>h2.mem.one m ((hd m).2 hm),λm f b hm ht hb=>?_⟩,
  ⟨h2.since.os,h2.since.out,h2.since.tape,h2.since.size,h2.since.mem,λm f b hm ha=>h2.since.tops m f b (keyA m f hm ha) ha,λm f b hm ha=>h2.since.nests m f b (keyD m f hm ha) ha,h2.since.imm,λm f b hm ha=>h2.since.born m f b (keyT m f hm ha) ha,h2.since.soft⟩⟩,hle3⟩
 · rcases key m f hm with ⟨rfl,rfl⟩|hm
   · exact hsh
   · exact (h2.mem.rep m f hm).mono hle3 (by unfold dom;rw[hm];simp) rfl rfl (λ_ _ _=>rfl) λ_ _ _=>rfl
 · obtain⟨k1,k2,k3⟩:=h2.mem.wood m f b (keyT m f hm ht) ht hb;exact⟨k1,λa f' ha hf=>k2 a f' (keyA a f' ha hf) hf,λa f' han ha hf=>k3 a f' han (keyT a f' ha hf) hf⟩
theorem pD {en':List (mF×Entry)} (h:∀n,mG en n=mG en' n):dom en=dom en':=by funext n;simp only[dom,h]
theorem MS.congr {en':List (mF×Entry)} (h:MS w0 T N en g w) (he:∀n,mG en n=mG en' n):MS w0 T N en' g w:=by
 have hd:=pD he;refine⟨⟨λn e hn=>?_,λn m e f b hn hm=>h.mem.apart n m e f b ((he n).trans hn) ((he m).trans hm),λn e b hn=>h.mem.topI n e b ((he n).trans hn),
  λn m e f hn hm=>h.mem.nests n m e f ((he n).trans hn) ((he m).trans hm),h.mem.old,λn hn=>h.mem.one n (by rw[hd];exact hn),λn e b hn ht hb=>?_⟩,
  ⟨h.since.os,h.since.out,h.since.tape,h.since.size,h.since.mem,λn e b hn=>h.since.tops n e b ((he n).trans hn),λn e b hn=>h.since.nests n e b ((he n).trans hn),h.since.imm,λn e b hn=>h.since.born n e b ((he n).trans hn),h.since.soft⟩⟩
 rotate_left
 · obtain⟨k1,k2,k3⟩:=h.mem.wood n e b ((he n).trans hn) ht hb;exact⟨k1,λm f hm=>k2 m f ((he m).trans hm),λm f hmn hm=>k3 m f hmn ((he m).trans hm)⟩
 rw[←hd];exact h.mem.rep n e ((he n).trans hn)
theorem MS.fwdZ (h:MS w0 T N en g w) {n:mF} {e:Cs} {xs:List e.den} (hn:mG en n=some (.frz e xs)) :
 MS w0 T N ((n,.fwd e xs)::en) g w/\Le (dom en) g w (dom ((n,.fwd e xs)::en)) g w:=by
 obtain⟨h1,hle1⟩:=h.gone (n:=n) (by unfold dom;rw[hn];simp);obtain⟨_,_,k3,k4,_⟩:=h.mem.rep n _ hn;obtain⟨h2,hle2⟩:=h1.refwd (e:=e) (xs:=xs) ⟨_,k3,k4⟩;exact⟨h2,hle1.trans hle2⟩
theorem FQ {D:mF->Prop} {n:mF} {e:Cs} {ys:List (Bool×e.den)} (h:qT D g w n (.pop e ys)):∀b∈g.nest n,g.I b:=by
 obtain⟨_,_,⟨F,_,hI,ht⟩,_⟩:=h;intro b hb;rw[←ht]at hb;exact hI b (List.mem_of_mem_tail hb)
theorem MS.frz (h:MS w0 T N en g w) {n:mF} {e:Cs} {xs:List e.den} (hn:mG en n=some (.root e true xs)) :
 ∃g',MS w0 T N ((n,.frz e xs)::en) g' w/\Le (dom en) g w (dom ((n,.frz e xs)::en)) g' w/\(∀m,m≠n->g'.top m=g.top m)/\(∀m,m≠n->g'.nest m=g.nest m)/\g'.loc=g.loc/\g'.esz=g.esz:=by
 obtain⟨g1,h1,hle1,e1,e2,e3,e4,hI⟩:=h.fwd hn;obtain⟨r1,r2,r3,r4⟩:=h.mem.rep n _ hn;have hne:dom ((n,.fwd e xs)::en) n:=nJ.2 (.inl rfl)
 have hrep:CT.Rep w (.sl e) xs (g.loc n) ((g.top n).toList++g.nest n):=by
  simp only[CT.Rep];rcases r2 with ⟨k1,rfl,k2,k3⟩|⟨b,off,cap,us,vs,k1,k2,k3,⟨c,t,lo,hi,hc,rfl,_⟩,k5,k6,k7⟩
  · rw[k2,k3];exact .inl ⟨⟨_,k1⟩,rfl,rfl⟩
  · rw[k2];exact .inr ⟨b,off,cap,vs,g.nest n,k1,rfl,k3,⟨c,t,_,hc,by simpa using k5⟩,⟨c,t,_,hc,k6⟩,k7⟩
 have hIall:∀b∈(g.top n).toList++g.nest n,g1.I b:=λb hb=>(hI b).2 ((mem_append.1 hb).elim (λh=>.inr (by simpa using h)) λh=>.inl (r3 b h));have hnd:((g.top n).toList++g.nest n).Nodup:=by
  rw[nodup_append];refine⟨by cases g.top n<;>simp,r4 rfl,λb hb c hc hbc=>?_⟩;subst hbc;exact h.mem.topI n _ b hn rfl (by simpa using hb) (r3 b hc)
 obtain⟨hM,hle⟩:=h1.put (n:=n) (e:=.frz e xs) (i:=⟨g.loc n,e.len,none,(g.top n).toList++g.nest n⟩) (λ_=>⟨(congrFun e1 n).symm,by show e.len=g1.esz n;rw[e2];exact r1.symm⟩) (by have:=h.mem.one n (by unfold dom;rw[hn];simp);exact this)
  ⟨by simp[Gh.set],by simp[Gh.set],by simpa[Gh.set]using hrep,by simpa[Gh.set]using hIall,by simpa[Gh.set]using hnd⟩
  (λha=>by cases ha)
  (λ_ b hb=>by
   refine⟨λm f hmn hm hd hbm=>?_,?_⟩
   · rw[ni (Ne.symm hmn)]at hm;have hbm:b∈g.nest m:=by rw[←e4];exact hbm
     rcases mem_append.1 hb with hb|hb
     · have hbt:g.top n=some b:=by simpa using hb
       have hbI:g.I b:=by
        cases f with
        | root f m' ys=>exact (h.mem.rep m _ hm).2.2.1 b hbm
        | frz f ys=>exact (h.mem.rep m _ hm).2.2.2.1 b hbm
        | pop f ys=>exact FQ (h.mem.rep m _ hm) b hbm
        | _=>cases hd
       exact h.mem.topI n _ b hn rfl hbt hbI
     · exact h.mem.nests n m _ f hn hm rfl hd (Ne.symm hmn) b hb hbm
   · rcases mem_append.1 hb with hb|hb
     · exact (h.since.tops n _ b hn rfl (by simpa using hb)).imp id .inl
     · exact h.since.nests n _ b hn rfl hb)
 have hcong:∀m,mG ((n,.frz e xs)::(n,.fwd e xs)::en) m=mG ((n,.frz e xs)::en) m:=λm=>by
  rw[mR,mR,mR];split<;>rfl
 refine⟨_,hM.congr hcong,?_,λm hm=>?_,λm hm=>?_,?_,?_⟩
 · have hd:∀m,dom ((n,.frz e xs)::(n,.fwd e xs)::en) m↔dom ((n,.frz e xs)::en) m:=λm=>by unfold dom;rw[hcong m]
   have:=hle1.trans hle;exact⟨λm hm=>(hd m).1 (this.dom m hm),this.loc,this.esz,this.imm,this.mem,this.rows⟩
 · simp[Gh.set,hm,e3]
 · simp[Gh.set,hm,e4]
 · funext m;by_cases hm:m=n
   · subst hm;simp[Gh.set]
   · simp[Gh.set,hm,e1]
 · funext m;by_cases hm:m=n
   · subst hm;simp[Gh.set,r1]
   · simp[Gh.set,hm,e2]
theorem mS.pops {e:Cs}:∀{xs:List e.den} {vs:List Value} {F:List Nat},mS e.len (Cs.Rep w e) xs vs F->mS e.len (vb w e) (xs.map λx=>(true,x)) vs F
 | [],vs,F,h=>h
 | x::xs,vs,F,h=>by
  obtain⟨v1,v2,F1,F2,h1,h2,h3,h4,h5⟩:=h;exact⟨v1,v2,F1,F2,h1,h2,h3,.inl ⟨rfl,h4⟩,mS.pops h5⟩
theorem MS.pop (h:MS w0 T N en g w) {n:mF} {e:Cs} {xs:List e.den} (hn:mG en n=some (.root e true xs)) :
 ∃g',MS w0 T N ((n,.pop e (xs.map λx=>(true,x)))::en) g' w/\Le (dom en) g w (dom ((n,.pop e (xs.map λx=>(true,x)))::en)) g' w:=by
 obtain⟨g1,h1,hle1,e1,e2,e3,e4,hI⟩:=h.fwd hn;obtain⟨r1,r2,r3,r4⟩:=h.mem.rep n _ hn;have hrep:∃F,slRep w e.len (vb w e) (xs.map λx=>(true,x)) (g.loc n) F/\(∀b∈F,g1.I b)/\F.tail=g.nest n:=by
  rcases r2 with ⟨k1,rfl,k2,k3⟩|⟨b,off,cap,us,vs,k1,k2,k3,⟨c,t,lo,hi,hc,rfl,_⟩,k5,k6,k7⟩
  · exact⟨[],.inl ⟨⟨_,k1⟩,rfl,rfl⟩,by simp,by rw[k3];rfl⟩
  · refine⟨b::g.nest n,.inr ⟨b,off,cap,vs,g.nest n,by rw[List.length_map];exact k1,rfl,by rw[List.length_map];exact k3,⟨c,t,_,hc,by simpa using k5⟩,⟨c,t,_,hc,k6⟩,mS.pops k7⟩,λq hq=>?_,rfl⟩;rcases mem_cons.1 hq with rfl|hq
    · exact (hI q).2 (.inr k2)
    · exact (hI q).2 (.inl (r3 q hq))
 obtain⟨F,f1,f2,f3⟩:=hrep;obtain⟨hM,hle⟩:=h1.put (n:=n) (e:=.pop e (xs.map λx=>(true,x))) (i:=⟨g.loc n,e.len,none,g.nest n⟩) (λ_=>⟨(congrFun e1 n).symm,by show e.len=g1.esz n;rw[e2];exact r1.symm⟩) (by have:=h.mem.one n (by unfold dom;rw[hn];simp);exact this)
  ⟨by simp[Gh.set],by simp[Gh.set],⟨F,by simpa[Gh.set]using f1,by simpa[Gh.set]using f2,by simpa[Gh.set]using f3⟩,by simpa[Gh.set]using r4 rfl⟩
  (λha=>by cases ha)
  (λ_ b hb=>by
   refine⟨λm f hmn hm hd hbm=>?_,?_⟩
   · rw[ni (Ne.symm hmn)]at hm;have hbm:b∈g.nest m:=by rw[←e4];exact hbm
     exact h.mem.nests n m _ f hn hm rfl hd (Ne.symm hmn) b hb hbm
   · exact h.since.nests n _ b hn rfl hb)
 have hcong:∀m,mG ((n,Entry.pop e (xs.map λx=>(true,x)))::(n,.fwd e xs)::en) m=mG ((n,.pop e (xs.map λx=>(true,x)))::en) m:=λm=>by
  rw[mR,mR,mR];split<;>rfl
 refine⟨_,hM.congr hcong,?_⟩;have hd:∀m,dom ((n,Entry.pop e (xs.map λx=>(true,x)))::(n,.fwd e xs)::en) m↔dom ((n,.pop e (xs.map λx=>(true,x)))::en) m:=λm=>by unfold dom;rw[hcong m]
 have:=hle1.trans hle;exact⟨λm hm=>(hd m).1 (this.dom m hm),this.loc,this.esz,this.imm,this.mem,this.rows⟩
theorem MS.shutTree (h:MS w0 T N en g w) {n:mF} {e:Cs} {xs:List e.den} (hn:mG en n=some (.tree e xs)) :
 ∃g',MS w0 T N ((n,.fwd e xs)::en) g' w/\Le (dom en) g w (dom ((n,.fwd e xs)::en)) g' w/\g'.nest=g.nest:=by
 have hdn:dom en n:=by unfold dom;rw[hn];simp
 obtain⟨h1,hle1⟩:=h.gone (n:=n) hdn;obtain⟨_,htr,_⟩:=h.mem.rep n _ hn;obtain⟨h2,hle2⟩:=h1.freeze (λb=>b∈g.nest n) (λb hb=>qh (h.mem.rep n _ hn) rfl hb) (λm f b hm ha hb hc=>by
  have hmn:m≠n:=λhe=>by subst he;rw[p7]at hm;cases hm;simp[Entry.alive]at ha
  rw[ni (Ne.symm hmn)]at hm;exact (h.mem.wood n _ b hn rfl hc).2.1 m f hm ha hb) (λm f b hm ha hb hc=>by
   have hmn:m≠n:=λhe=>by subst he;rw[p7]at hm;cases hm;simp[Entry.isTree]at ha
   rw[ni (Ne.symm hmn)]at hm;exact (h.mem.wood m f b hm ha hb).2.2 n _ (Ne.symm hmn) hn rfl hc) (λb hb=>(h.since.born n _ b hn rfl hb).imp id .inl)
 obtain⟨h3,hle3⟩:=h2.refwd (e:=e) (xs:=xs) ⟨_,htr.slRep,λb hb=>.inr hb⟩;exact⟨_,h3,(hle1.trans hle2).trans hle3,rfl⟩

end Go.V
namespace Go.V

namespace Rd
def Runs {α:Type} (S:mF->Option Entry):Rd α->α->List mF->Prop
 | ret a,b,L=>b=a/\L=[]
 | fail,_,_=>False
 | get n f,b,L=>∃L',L=n::L'/\(f (S n)).Runs S b L'
 | opt o f,b,L=>∃x,o=some x/\(f x).Runs S b L
theorem run_some {α A:Type} {S:mF->Option Entry} {k:α->Option A} {r:A}:∀{x:Rd α},x.run S k=some r->∃a L,x.Runs S a L/\k a=some r
 | ret a,h=>⟨a,[],⟨rfl,rfl⟩,h⟩
 | fail,h=>by simp[run]at h
 | get n f,h=>by
  simp only[run]at h;obtain⟨a,L,h1,h2⟩:=run_some h;exact⟨a,n::L,⟨L,rfl,h1⟩,h2⟩
 | opt o f,h=>by
  simp only[run]at h;cases o with
  | none=>simp at h
  | some b =>
   simp only[Option.bind_some]at h;obtain⟨a,L,h1,h2⟩:=run_some h;exact⟨a,L,⟨b,rfl,h1⟩,h2⟩
theorem runs_bind {α β:Type} {S:mF->Option Entry} {f:α->Rd β} {b:β}:∀{x:Rd α} {L:List mF},(x.bind f).Runs S b L->∃a L1 L2,L=L1++L2/\x.Runs S a L1/\(f a).Runs S b L2
 | ret a,L,h=>⟨a,[],L,rfl,⟨rfl,rfl⟩,h⟩
 | fail,L,h=>h.elim
 | get n k,L,h=>by
  obtain⟨L',rfl,h⟩:=h;obtain⟨a,L1,L2,rfl,h1,h2⟩:=runs_bind h;exact⟨a,n::L1,L2,rfl,⟨L1,rfl,h1⟩,h2⟩
 | opt o k,L,h=>by
  obtain⟨x,hx,h⟩:=h;obtain⟨a,L1,L2,rfl,h1,h2⟩:=runs_bind h;exact⟨a,L1,L2,rfl,⟨x,hx,h1⟩,h2⟩
theorem runs_local {α:Type} {S S':mF->Option Entry} {a:α}:∀{x:Rd α} {L:List mF},(∀n∈L,S' n=S n)->x.Runs S a L->x.Runs S' a L
 | ret _,_,_,h=>h
 | fail,_,_,h=>h
 | get n f,L,hl,h=>by
  obtain⟨L',rfl,h⟩:=h;refine⟨L',rfl,?_⟩;rw[hl n (by simp)];exact runs_local (λm hm=>hl m (by simp[hm])) h
 | opt o f,L,hl,h=>by
  obtain⟨x,hx,h⟩:=h;exact⟨x,hx,runs_local hl h⟩
theorem runs_need {S:mF->Option Entry} {b:Bool} {u:Unit} {L:List mF} (h:(need b).Runs S u L):b=true/\L=[]:=by
 cases b with
 | true=>exact⟨rfl,h.2⟩
 | false=>exact h.elim
theorem runs_fresh {S:mF->Option Entry}:∀{l:List (mF×Entry)} {u:Unit} {L:List mF},(fresh l).Runs S u L->∀p∈l,S p.1=none
 | [],_,_,_,p,hp=>by simp at hp
 | (n,e)::l,u,L,h,p,hp=>by
  obtain⟨L',rfl,h⟩:=h;cases hn:S n with
  | some x=>rw[hn]at h;exact h.elim
  | none =>
   rw[hn]at h;rcases mem_cons.1 hp with rfl|hp
   · exact hn
   · exact runs_fresh h p hp
end Rd

section lists
variable {α:Type} {n:Nat} {R:α->List Value->List Nat->Prop}
theorem mS.take:∀(k:Nat) {xs:List α} {vs:List Value} {F:List Nat},mS n R xs vs F->∃G,mS n R (xs.take k) (vs.take (k*n)) G/\∀b∈G,b∈F
 | 0,xs,vs,F,h=>⟨[],by simp[mS],by simp⟩
 | k+1,[],vs,F,h=>by obtain⟨rfl,rfl⟩:=h;exact⟨[],by simp[mS],by simp⟩
 | k+1,x::xs,vs,F,h=>by
  obtain⟨v1,v2,F1,F2,rfl,h1,rfl,hr,h⟩:=h;obtain⟨G,hG,hs⟩:=mS.take k h;refine⟨F1++G,⟨v1,v2.take (k*n),F1,G,?_,h1,rfl,hr,hG⟩,λb hb=>?_⟩
  · rw[List.take_append,h1,List.take_of_length_le (by rw[h1,Nat.add_mul];omega)]
    congr 2;rw[Nat.add_mul];omega
  · rcases mem_append.1 hb with hb|hb
    · exact mem_append.2 (.inl hb)
    · exact mem_append.2 (.inr (hs b hb))
theorem mS.drop:∀(k:Nat) {xs:List α} {vs:List Value} {F:List Nat},mS n R xs vs F->∃G,mS n R (xs.drop k) (vs.drop (k*n)) G/\∀b∈G,b∈F
 | 0,xs,vs,F,h=>⟨F,by simpa using h,λ_ h=>h⟩
 | k+1,[],vs,F,h=>by obtain⟨rfl,rfl⟩:=h;exact⟨[],by simp[mS],by simp⟩
 | k+1,x::xs,vs,F,h=>by
  obtain⟨v1,v2,F1,F2,rfl,h1,rfl,hr,h⟩:=h;obtain⟨G,hG,hs⟩:=mS.drop k h;refine⟨G,?_,λb hb=>mem_append.2 (.inr (hs b hb))⟩;have e:((v1++v2).drop ((k+1)*n))=v2.drop (k*n):=by
   rw[List.drop_append,h1,drop_of_length_le (by rw[h1,Nat.add_mul];omega)];simp only[List.nil_append];congr 1;rw[Nat.add_mul];omega
  rw[e];exact hG
theorem mS.append:∀{xs ys:List α} {vs us:List Value} {F G:List Nat},mS n R xs vs F->mS n R ys us G->mS n R (xs++ys) (vs++us) (F++G)
 | [],ys,vs,us,F,G,h,k=>by obtain⟨rfl,rfl⟩:=h;simpa using k
 | x::xs,ys,vs,us,F,G,h,k=>by
  obtain⟨v1,v2,F1,F2,rfl,h1,rfl,hr,h⟩:=h;exact⟨v1,v2++us,F1,F2++G,by simp,h1,by simp,hr,mS.append h k⟩
theorem mS.get:∀(i:Nat) {xs:List α} {vs:List Value} {F:List Nat} {x:α},mS n R xs vs F->xs[i]?=some x->∃G,R x ((vs.drop (i*n)).take n) G/\∀b∈G,b∈F
 | i,[],vs,F,x,h,hx=>by simp at hx
 | 0,y::xs,vs,F,x,h,hx=>by
  obtain⟨v1,v2,F1,F2,rfl,h1,rfl,hr,h⟩:=h;simp at hx;subst hx;exact⟨F1,by rw[Nat.zero_mul,List.drop_zero,List.take_append,List.take_of_length_le (by omega)];simpa[h1]using hr,λb hb=>mem_append.2 (.inl hb)⟩
 | i+1,y::xs,vs,F,x,h,hx=>by
  obtain⟨v1,v2,F1,F2,rfl,h1,rfl,hr,h⟩:=h;obtain⟨G,hG,hs⟩:=mS.get i h (by simpa using hx);refine⟨G,?_,λb hb=>mem_append.2 (.inr (hs b hb))⟩;have e:((v1++v2).drop ((i+1)*n))=v2.drop (i*n):=by
   rw[List.drop_append,h1,drop_of_length_le (by rw[h1,Nat.add_mul];omega)];simp only[List.nil_append];congr 1;rw[Nat.add_mul];omega
  rw[e];exact hG
end lists
theorem vD (cs vs:List Value) (off k m:Nat) (h:(cs.drop off).take vs.length=vs) (hk:k<=m) (hm:m<=vs.length) :
 (cs.drop (off+k)).take ((vs.take m).drop k).length=(vs.take m).drop k:=by
 have hl:((vs.take m).drop k).length=m-k:=by rw[List.length_drop,length_take];omega
 have e:(vs.take m).drop k=(cs.drop (off+k)).take (m-k):=by
  rw[←h,List.take_take,Nat.min_eq_left hm,List.drop_take,List.drop_drop]
 rw[hl];exact e.symm
theorem oI (b off n:Nat):(⟨b,off,none⟩:Addr).add n=⟨b,off+n,none⟩:=by unfold Addr.add;split<;>simp_all
theorem slRep.cut2 {α:Type} {w:World} {n:Nat} {R:α->List Value->List Nat->Prop} {xs:List α} {a:Option Addr} {len cap lo hi:Nat} {F:List Nat}
 (h:slRep w n R xs (.slice a len cap) F) (h1:lo<=hi) (h2:hi<=len) :
 ∃G,slRep w n R ((xs.take hi).drop lo) (.slice (if cap=lo then a else a.map (·.add (lo*n))) (hi-lo) (cap-lo)) G/\(∀b∈G,b∈F)/\∀b∈G.tail,b∈F.tail:=by
 rcases h with ⟨⟨a',e⟩,rfl,rfl⟩|⟨b,off,cap',vs,F',e,rfl,hl,hc,hr,hL⟩
 · cases e;obtain rfl:hi=0:=by omega
   obtain rfl:lo=0:=by omega
   exact⟨[],.inl ⟨⟨_,rfl⟩,by simp,rfl⟩,by simp,by simp⟩
 · cases e;have hlen:((xs.take hi).drop lo).length=hi-lo:=by simp;omega
   obtain⟨G1,hG1,hs1⟩:=hL.take hi;obtain⟨G,hG,hs⟩:=hG1.drop lo;have hvs:=hL.length
   obtain⟨c,t,fz,hcell,hsize⟩:=hc;obtain⟨c',t',fz',hcell',hrow⟩:=hr;rw[hcell]at hcell';cases hcell';refine⟨b::G,.inr ⟨b,if cap=lo then off else off+lo*n,cap-lo,(vs.take (hi*n)).drop (lo*n),G,?_,rfl,?_,⟨c,t,fz,hcell,?_⟩,⟨c,t,fz,hcell,?_⟩,hG⟩,λb' hb'=>?_,λb' hb'=>hs1 b' (hs b' hb')⟩
   · rw[hlen];split
     · rfl
     · simp only[Option.map_some,oI]
   · omega
   · split
     · rename_i e;subst e;simp;omega
     · have:(cap-lo)*n+lo*n=cap*n:=by rw[←Nat.add_mul];congr 1;omega
       omega
   · have key:=vD c.toList vs off (lo*n) (hi*n) hrow (Nat.mul_le_mul_right n h1) (by rw[hvs];exact Nat.mul_le_mul_right n h2);split
     · rename_i e;subst e;obtain rfl:hi=cap:=by omega
       have e0:(vs.take (hi*n)).drop (hi*n)=[]:=drop_of_length_le (by rw[length_take];omega);rw[e0];simp
     · exact key
   · rcases mem_cons.1 hb' with rfl|hb'
     · simp
     · exact mem_cons_of_mem _ (hs1 b' (hs b' hb'))
theorem slRep.cut {α:Type} {w:World} {n:Nat} {R:α->List Value->List Nat->Prop} {xs:List α} {a:Option Addr} {len cap lo hi:Nat} {F:List Nat}
 (h:slRep w n R xs (.slice a len cap) F) (h1:lo<=hi) (h2:hi<=len) :
 ∃G,slRep w n R ((xs.take hi).drop lo) (.slice (if cap=lo then a else a.map (·.add (lo*n))) (hi-lo) (cap-lo)) G/\∀b∈G,b∈F:=by
 obtain⟨G,k1,k2,_⟩:=h.cut2 h1 h2;exact⟨G,k1,k2⟩
end Go.V
namespace Go.V
variable {w0:World} {T N:Nat->Prop} {en:List (mF×Entry)} {g:Gh} {w:World}

def qA (en:List (mF×Entry)) (g:Gh) (b:Nat) (ns:List mF):Prop:=∃n∈ns,∃f,mG en n=some f/\f.alive=true/\g.top n=some b
theorem oD.slRep {e:Cs} {xs:List e.den} {v:Value} {tp:Option Nat} {F:List Nat} (h:oD w e xs v tp F):slRep w e.len (Cs.Rep w e) xs v (tp.toList++F):=by
 rcases h with ⟨h1,rfl,rfl,rfl⟩|⟨b,off,cap,us,vs,h1,rfl,h3,⟨c,t,lo,hi,hc,rfl,_⟩,h5,h6,h7⟩
 · exact .inl ⟨⟨_,h1⟩,rfl,rfl⟩
 · exact .inr ⟨b,off,cap,vs,F,h1,rfl,h3,⟨c,t,_,hc,by simpa using h5⟩,⟨c,t,_,hc,h6⟩,h7⟩
theorem nX (h:oA en g w) {n:mF} {e:Cs} {m:Bool} {xs:List e.den} (hn:mG en n=some (.root e m xs)) :
 g.esz n=e.len/\oD w e xs (g.loc n) (g.top n) (g.nest n)/\(∀b∈g.nest n,g.I b)/\(m=true->(g.nest n).Nodup):=h.rep n _ hn
theorem oD.shape {e:Cs} {xs:List e.den} {v:Value} {tp:Option Nat} {F:List Nat} (h:oD w e xs v tp F):∃a cap,v=.slice a xs.length cap:=by
 rcases h with ⟨h1,rfl,rfl,rfl⟩|⟨b,off,cap,us,vs,h1,_⟩
 · exact⟨_,_,h1⟩
 · exact⟨_,_,h1⟩
theorem oM {e:Cs} {xs:List e.den} {v:Value} {F:List Nat}:CT.Rep w (.sl e) xs v F↔slRep w e.len (Cs.Rep w e) xs v F:=by simp only[CT.Rep]
theorem Aa {e:Cs} (h:e=e) (xs:List e.den):oc h xs=xs:=rfl

theorem vc (hm:oA en g w) {e:Cs} {c:Cell} {v:Value} {xs:List e.den} {L:List mF} (hc:mJ (dom en) g w c v) (hr:(sc e c).Runs (mG en) xs L) :
 ∃F,CT.Rep w (.sl e) xs v F/\∀b∈F,g.I b\/qA en g b c.names:=by
 cases c with
 | sub=>exact hr.elim
 | kid _ _ f ys =>
  simp only[sc]at hr;split at hr
  · rename_i h _;subst h;obtain⟨rfl,_⟩:=hr;obtain⟨⟨F,hF,hI⟩,_⟩:=hc;exact⟨F,hF,λb hb=>.inl (hI b hb)⟩
  · exact hr.elim
 | sh f ys =>
  simp only[sc]at hr;split at hr
  · rename_i h _;subst h;obtain⟨rfl,_⟩:=hr;obtain⟨F,hF,hI⟩:=hc;exact⟨F,hF,λb hb=>.inl (hI b hb)⟩
  · exact hr.elim
 | nil =>
  obtain⟨rfl,_⟩:=hr;exact⟨[],oM.2 (.inl ⟨⟨_,hc⟩,rfl,rfl⟩),by simp⟩
 | own r =>
  obtain⟨L',rfl,hr⟩:=hr;obtain⟨_,rfl⟩:=hc;cases hn:mG en r with
  | none=>rw[hn]at hr;exact hr.elim
  | some f =>
   rw[hn]at hr;cases f with
   | tree=>exact hr.elim
   | gone=>exact hr.elim
   | box _=>exact hr.elim
   | fwd f ys =>
    simp only at hr;split at hr
    · rename_i h _;subst h;obtain⟨rfl,_⟩:=hr;obtain⟨F,hF,hI⟩:=hm.rep r _ hn;exact⟨F,hF,λb hb=>.inl (hI b hb)⟩
    · exact hr.elim
   | pop _ _=>exact hr.elim
   | frz f ys =>
    simp only at hr;split at hr
    · rename_i h _;subst h;obtain⟨rfl,_⟩:=hr;obtain⟨_,_,hF,hI,_⟩:=hm.rep r _ hn;exact⟨_,hF,λb hb=>.inl (hI b hb)⟩
    · exact hr.elim
   | root f m ys =>
    simp only at hr;split at hr
    · rename_i h _;subst h;obtain⟨rfl,_⟩:=hr;obtain⟨_,h2,h3,_⟩:=nX hm hn;refine⟨_,oM.2 h2.slRep,λb hb=>?_⟩;rcases mem_append.1 hb with hb|hb
      · exact .inr ⟨r,by simp[Cell.names],_,hn,rfl,by simpa using hb⟩
      · exact .inl (h3 b hb)
    · exact hr.elim
 | win r lo hi =>
  obtain⟨L',rfl,hr⟩:=hr;obtain⟨_,h1,a,len,cap,hl,h2,rfl⟩:=hc;cases hn:mG en r with
  | none=>rw[hn]at hr;exact hr.elim
  | some f =>
   rw[hn]at hr;cases f with
   | tree=>exact hr.elim
   | gone=>exact hr.elim
   | box _=>exact hr.elim
   | fwd f ys=>exact hr.elim
   | pop _ _=>exact hr.elim
   | frz _ _=>exact hr.elim
   | root f m ys =>
    simp only at hr;split at hr
    · rename_i h _;subst h;obtain⟨rfl,_⟩:=hr;obtain⟨he,h3,h4,_⟩:=nX hm hn;have h5:=h3.slRep
      rw[hl]at h5;obtain⟨G,hG,hs⟩:=h5.cut h1 h2;refine⟨G,oM.2 (by rw[he];exact hG),λb hb=>?_⟩;rcases mem_append.1 (hs b hb)with hb|hb
      · exact .inr ⟨r,by simp[Cell.names],_,hn,rfl,by simpa using hb⟩
      · exact .inl (h4 b hb)
    · exact hr.elim
 | undef=>exact hr.elim
 | void=>exact hr.elim
 | int=>exact hr.elim
 | bool=>exact hr.elim
 | str=>exact hr.elim
 | err=>exact hr.elim
 | box=>exact hr.elim
 | elem=>exact hr.elim
 | shel=>exact hr.elim
 | fn=>exact hr.elim

theorem CT.read_sound (hm:oA en g w) {c:CT} {x:Cell} {v:Value} {y:c.den} {L:List mF} (hc:mJ (dom en) g w x v) (hr:(c.read x).Runs (mG en) y L) :
 ∃F,CT.Rep w c y v F/\∀b∈F,g.I b\/qA en g b x.names:=by
 cases c with
 | sl e=>exact vc hm hc hr
 | int k =>
  cases x<;>try exact hr.elim
  rename_i j n;simp only[CT.read]at hr;cases hk:Nat.beq (nK j) (nK k)with
  | false=>rw[hk]at hr;exact hr.elim
  | true =>
   rw[hk]at hr;obtain rfl:=pV (Nat.eq_of_beq_eq_true hk);obtain⟨rfl,_⟩:=hr;exact⟨[],by simp only[CT.Rep];exact⟨hc,trivial⟩,by simp⟩
 | bool =>
  cases x<;>try exact hr.elim
  obtain⟨rfl,_⟩:=hr;exact⟨[],by simp only[CT.Rep];exact⟨hc,trivial⟩,by simp⟩
 | str =>
  cases x<;>try exact hr.elim
  obtain⟨rfl,_⟩:=hr;exact⟨[],by simp only[CT.Rep];exact⟨hc,trivial⟩,by simp⟩
 | err =>
  cases x<;>try exact hr.elim
  obtain⟨rfl,_⟩:=hr;exact⟨[],by simp only[CT.Rep];exact⟨trivial,hc⟩,by simp⟩

theorem qA.mono {b:Nat} {ns ms:List mF} (h:qA en g b ns) (hs:∀n∈ns,n∈ms):qA en g b ms:=by
 obtain⟨n,hn,k⟩:=h;exact⟨n,hs n hn,k⟩
theorem Cs.read_sound (hm:oA en g w):{e:Cs}->{xs:List Cell}->{vs:List Value}->{y:e.den}->{L:List mF}->mQ (mJ (dom en) g w) xs vs->(e.read xs).Runs (mG en) y L ->
 ∃F,Cs.Rep w e y vs F/\∀b∈F,g.I b\/qA en g b (xs.flatMap Cell.names)
 | .one c,[],_,_,_,_,hr=>hr.elim
 | .one c,[x],[v],y,L,hc,hr=>by
  obtain⟨F,hF,hI⟩:=CT.read_sound hm hc.1 hr;exact⟨F,by simp only[Cs.Rep];exact⟨v,rfl,hF⟩,by simpa using hI⟩
 | .one c,_::_::_,_,_,_,_,hr=>hr.elim
 | .cons c r,[],_,_,_,_,hr=>hr.elim
 | .cons c r,x::xs,v::vs,y,L,hc,hr=>by
  simp only[Cs.read]at hr;obtain⟨a,L1,L2,rfl,h1,hr⟩:=Rd.runs_bind hr;obtain⟨b,L3,L4,rfl,h2,hr⟩:=Rd.runs_bind hr;obtain⟨rfl,_⟩:=hr;obtain⟨F1,hF1,hI1⟩:=CT.read_sound hm hc.1 h1;obtain⟨F2,hF2,hI2⟩:=Cs.read_sound hm hc.2 h2;refine⟨F1++F2,by simp only[Cs.Rep];exact⟨v,vs,F1,F2,rfl,rfl,hF1,hF2⟩,λb hb=>?_⟩;rcases mem_append.1 hb with hb|hb
  · exact (hI1 b hb).imp id λh=>h.mono (by simp +contextual)
  · exact (hI2 b hb).imp id λh=>h.mono (by simp +contextual)

def ol (g:Gh) (n:mF):List Nat:=(g.top n).toList++g.nest n
def CT.Own (kp:Bool) (g:Gh) (w:World):(c:CT)->c.den->Value->List mF->Prop
 | .sl e,xs,v,ns=>(ns=[]/\v=.slice none 0 0/\xs=[])\/∃n,ns=[n]/\v=g.loc n/\(oD w e xs (g.loc n) (g.top n) (g.nest n)\/(kp=true/\CT.Rep w (.sl e) xs (g.loc n) (ol g n)))
 | c,x,v,ns=>ns=[]/\CT.Rep w c x v []
def Cs.Own (kp:Bool) (g:Gh) (w:World):(e:Cs)->e.den->List Value->List mF->Prop
 | .one c,x,vs,ns=>∃v,vs=[v]/\CT.Own kp g w c x v ns
 | .cons c r,x,vs,ns=>∃v vs' n1 n2,vs=v::vs'/\ns=n1++n2/\CT.Own kp g w c x.1 v n1/\Cs.Own kp g w r x.2 vs' n2
theorem CT.Own.rep {kp:Bool} {c:CT} {x:c.den} {v:Value} {ns:List mF} (h:CT.Own kp g w c x v ns):CT.Rep w c x v (ns.flatMap (ol g)):=by
 cases c with
 | sl e =>
  rcases h with ⟨rfl,rfl,rfl⟩|⟨n,rfl,rfl,h⟩
  · exact oM.2 (.inl ⟨⟨_,rfl⟩,rfl,rfl⟩)
  · simp only[List.flatMap_cons,List.flatMap_nil,List.append_nil];exact h.elim (λh=>oM.2 h.slRep) λh=>h.2
 | int=>obtain⟨rfl,h⟩:=h;exact h
 | bool=>obtain⟨rfl,h⟩:=h;exact h
 | str=>obtain⟨rfl,h⟩:=h;exact h
 | err=>obtain⟨rfl,h⟩:=h;exact h
theorem Cs.Own.rep {kp:Bool}:{e:Cs}->{x:e.den}->{vs:List Value}->{ns:List mF}->Cs.Own kp g w e x vs ns->Cs.Rep w e x vs (ns.flatMap (ol g))
 | .one c,x,_,_,h=>by obtain⟨v,rfl,h⟩:=h;simp only[Cs.Rep];exact⟨v,rfl,h.rep⟩
 | .cons c r,x,_,_,h=>by
  obtain⟨v,vs',n1,n2,rfl,rfl,h1,h2⟩:=h;simp only[Cs.Rep,List.flatMap_append];exact⟨v,vs',_,_,rfl,rfl,h1.rep,h2.rep⟩
def nb (en:List (mF×Entry)) (deep kp:Bool) (used:List (mF×Entry)):Prop :=
 ∀p∈used,(∃e m xs,mG en p.1=some (.root e m xs)/\(deep=true->m=true)/\p.2=(cond kp (Entry.fwd e xs) Entry.gone))\/(kp=true/\∃e xs,mG en p.1=some (.frz e xs)/\p.2=.fwd e xs)
theorem nb.append {deep kp:Bool} {u v:List (mF×Entry)} (h:nb en deep kp u) (k:nb en deep kp v):nb en deep kp (u++v) :=
 λp hp=>(mem_append.1 hp).elim (h p) (k p)

theorem C2 (hm:oA en g w) {kp:Bool} {e:Cs} {c:Cell} {v:Value} {y:List e.den×List (mF×Entry)} {L:List mF} (hc:mJ (dom en) g w c v) (hr:(AM kp e c).Runs (mG en) y L) :
 CT.Own kp g w (.sl e) y.1 v (y.2.map (·.1))/\nb en true kp y.2:=by
 cases c<;>try exact hr.elim
 case nil =>
  obtain⟨rfl,_⟩:=hr;exact⟨.inl ⟨rfl,hc,rfl⟩,λp hp=>by simp at hp⟩
 case own r =>
  obtain⟨L',rfl,hr⟩:=hr;obtain⟨_,rfl⟩:=hc;cases hn:mG en r with
  | none=>rw[hn]at hr;exact hr.elim
  | some f =>
   rw[hn]at hr;cases f with
   | tree=>exact hr.elim
   | gone=>exact hr.elim
   | box _=>exact hr.elim
   | fwd f ys=>exact hr.elim
   | pop _ _=>exact hr.elim
   | frz f ys =>
    cases kp with
    | false=>exact hr.elim
    | true =>
     simp only[cT]at hr;split at hr
     · rename_i h _;subst h;obtain⟨rfl,_⟩:=hr;obtain⟨_,h1,h2,_⟩:=hm.rep r _ hn;refine⟨.inr ⟨r,rfl,rfl,.inr ⟨rfl,by rw[show ol g r=g.nest r by simp[ol,h1]];exact h2⟩⟩,λp hp=>?_⟩;simp only[mem_singleton]at hp;subst hp;exact .inr ⟨rfl,f,ys,hn,rfl⟩
     · exact hr.elim
   | root f m ys =>
    cases m with
    | false=>exact hr.elim
    | true =>
     simp only at hr;split at hr
     · rename_i h _;subst h;obtain⟨rfl,_⟩:=hr;obtain⟨_,h2,_⟩:=nX hm hn;refine⟨.inr ⟨r,rfl,rfl,.inl h2⟩,λp hp=>?_⟩;simp only[mem_singleton]at hp;subst hp;exact .inl ⟨f,true,ys,hn,λ_=>rfl,by cases kp<;>rfl⟩
     · exact hr.elim
theorem C3 (hm:oA en g w) {e:Cs} {c:Cell} {v:Value} {y:List e.den×List (mF×Entry)} {L:List mF} (hc:mJ (dom en) g w c v) (hr:(tB e c).Runs (mG en) y L) :
 (∃F,CT.Rep w (.sl e) y.1 v F/\∀b∈F,g.I b\/qA en g b (y.2.map (·.1)))/\nb en false true y.2:=by
 cases c<;>try exact hr.elim
 case nil =>
  obtain⟨rfl,_⟩:=hr;exact⟨⟨[],oM.2 (.inl ⟨⟨_,hc⟩,rfl,rfl⟩),by simp⟩,λp hp=>by simp at hp⟩
 case sh f ys =>
  simp only[tB]at hr;split at hr
  · rename_i h _;subst h;obtain⟨rfl,_⟩:=hr;obtain⟨F,hF,hI⟩:=hc;exact⟨⟨F,hF,λb hb=>.inl (hI b hb)⟩,λp hp=>by simp at hp⟩
  · exact hr.elim
 case kid _ _ f ys =>
  simp only[tB]at hr;split at hr
  · rename_i h _;subst h;obtain⟨rfl,_⟩:=hr;obtain⟨⟨F,hF,hI⟩,_⟩:=hc;exact⟨⟨F,hF,λb hb=>.inl (hI b hb)⟩,λp hp=>by simp at hp⟩
  · exact hr.elim
 case own r =>
  obtain⟨L',rfl,hr⟩:=hr;obtain⟨_,rfl⟩:=hc;cases hn:mG en r with
  | none=>rw[hn]at hr;exact hr.elim
  | some f =>
   rw[hn]at hr;cases f with
   | tree=>exact hr.elim
   | gone=>exact hr.elim
   | box _=>exact hr.elim
   | fwd f ys =>
    simp only at hr;split at hr
    · rename_i h _;subst h;obtain⟨rfl,_⟩:=hr;obtain⟨F,hF,hI⟩:=hm.rep r _ hn;exact⟨⟨F,hF,λb hb=>.inl (hI b hb)⟩,λp hp=>by simp at hp⟩
    · exact hr.elim
   | pop _ _=>exact hr.elim
   | frz f ys =>
    simp only at hr;split at hr
    · rename_i h _;subst h;obtain⟨rfl,_⟩:=hr;obtain⟨_,_,hF,hI,_⟩:=hm.rep r _ hn;exact⟨⟨_,hF,λb hb=>.inl (hI b hb)⟩,λp hp=>by simp at hp⟩
    · exact hr.elim
   | root f m ys =>
    simp only at hr;split at hr
    · rename_i h _;subst h;obtain⟨rfl,_⟩:=hr;obtain⟨_,h2,h3,_⟩:=nX hm hn;refine⟨⟨_,oM.2 h2.slRep,λb hb=>?_⟩,λp hp=>?_⟩
      · rcases mem_append.1 hb with hb|hb
        · exact .inr ⟨r,by simp,_,hn,rfl,by simpa using hb⟩
        · exact .inl (h3 b hb)
      · simp only[mem_singleton]at hp;subst hp;exact .inl ⟨f,m,ys,hn,(λh=>by cases h),rfl⟩
    · exact hr.elim
 case win r lo hi =>
  obtain⟨L',rfl,hr⟩:=hr;obtain⟨_,h1,a,len,cap,hl,h2,rfl⟩:=hc;cases hn:mG en r with
  | none=>rw[hn]at hr;exact hr.elim
  | some f =>
   rw[hn]at hr;cases f with
   | tree=>exact hr.elim
   | gone=>exact hr.elim
   | box _=>exact hr.elim
   | fwd f ys=>exact hr.elim
   | pop _ _=>exact hr.elim
   | frz _ _=>exact hr.elim
   | root f m ys =>
    simp only at hr;split at hr
    · rename_i h _;subst h;obtain⟨rfl,_⟩:=hr;obtain⟨he,h3,h4,_⟩:=nX hm hn;have h5:=h3.slRep
      rw[hl]at h5;obtain⟨G,hG,hs⟩:=h5.cut h1 h2;refine⟨⟨G,oM.2 (by rw[he];exact hG),λb hb=>?_⟩,λp hp=>?_⟩
      · rcases mem_append.1 (hs b hb)with hb|hb
        · exact .inr ⟨r,by simp,_,hn,rfl,by simpa using hb⟩
        · exact .inl (h4 b hb)
      · simp only[mem_singleton]at hp;subst hp;exact .inl ⟨f,m,ys,hn,(λh=>by cases h),rfl⟩
    · exact hr.elim

theorem CT.Own_of_rep {kp:Bool} {c:CT} {x:c.den} {v:Value} (hs:c.isSl=false) (h:∃F,CT.Rep w c x v F):CT.Own kp g w c x v []:=by
 obtain⟨F,h⟩:=h;cases c with
 | sl e=>simp[CT.isSl]at hs
 | int=>simp only[CT.Rep]at h;obtain⟨h,rfl⟩:=h;exact⟨rfl,by simp only[CT.Rep];exact⟨h,trivial⟩⟩
 | bool=>simp only[CT.Rep]at h;obtain⟨h,rfl⟩:=h;exact⟨rfl,by simp only[CT.Rep];exact⟨h,trivial⟩⟩
 | str=>simp only[CT.Rep]at h;obtain⟨h,rfl⟩:=h;exact⟨rfl,by simp only[CT.Rep];exact⟨h,trivial⟩⟩
 | err=>simp only[CT.Rep]at h;obtain⟨rfl,h⟩:=h;exact⟨rfl,by simp only[CT.Rep];exact⟨trivial,h⟩⟩
theorem CT.into_scalar {m kp:Bool} {c:CT} {x:Cell} {y:c.den×List (mF×Entry)} {L:List mF} (hs:c.isSl=false) (hr:(c.into m kp x).Runs (mG en) y L) :
 y.2=[]/\∃L,(c.read x).Runs (mG en) y.1 L:=by
 cases c with
 | sl e=>simp[CT.isSl]at hs
 | int=>simp only[CT.into]at hr;obtain⟨a,L1,L2,rfl,h1,rfl,_⟩:=Rd.runs_bind hr;exact⟨rfl,L1,h1⟩
 | bool=>simp only[CT.into]at hr;obtain⟨a,L1,L2,rfl,h1,rfl,_⟩:=Rd.runs_bind hr;exact⟨rfl,L1,h1⟩
 | str=>simp only[CT.into]at hr;obtain⟨a,L1,L2,rfl,h1,rfl,_⟩:=Rd.runs_bind hr;exact⟨rfl,L1,h1⟩
 | err=>simp only[CT.into]at hr;obtain⟨a,L1,L2,rfl,h1,rfl,_⟩:=Rd.runs_bind hr;exact⟨rfl,L1,h1⟩
theorem CT.into_own (hm:oA en g w) {kp:Bool} {c:CT} {x:Cell} {v:Value} {y:c.den×List (mF×Entry)} {L:List mF} (hc:mJ (dom en) g w x v) (hr:(c.into true kp x).Runs (mG en) y L) :
 CT.Own kp g w c y.1 v (y.2.map (·.1))/\nb en true kp y.2:=by
 cases hs:c.isSl with
 | true =>
  cases c with
  | sl e=>exact C2 hm hc hr
  | int=>simp[CT.isSl]at hs
  | bool=>simp[CT.isSl]at hs
  | str=>simp[CT.isSl]at hs
  | err=>simp[CT.isSl]at hs
 | false =>
  obtain⟨h1,L',h2⟩:=CT.into_scalar hs hr;obtain⟨F,hF,_⟩:=CT.read_sound hm hc h2;rw[h1];exact⟨CT.Own_of_rep hs ⟨F,hF⟩,λp hp=>by simp at hp⟩
theorem CT.into_shared (hm:oA en g w) {c:CT} {x:Cell} {v:Value} {y:c.den×List (mF×Entry)} {L:List mF} (hc:mJ (dom en) g w x v) (hr:(c.into false true x).Runs (mG en) y L) :
 (∃F,CT.Rep w c y.1 v F/\∀b∈F,g.I b\/qA en g b (y.2.map (·.1)))/\nb en false true y.2:=by
 cases hs:c.isSl with
 | true =>
  cases c with
  | sl e=>exact C3 hm hc hr
  | int=>simp[CT.isSl]at hs
  | bool=>simp[CT.isSl]at hs
  | str=>simp[CT.isSl]at hs
  | err=>simp[CT.isSl]at hs
 | false =>
  obtain⟨h1,L',h2⟩:=CT.into_scalar hs hr;obtain⟨F,hF,_⟩:=CT.read_sound hm hc h2;rw[h1];refine⟨⟨F,hF,λb hb=>?_⟩,λp hp=>by simp at hp⟩;exfalso;cases c with
  | sl e=>simp[CT.isSl]at hs
  | int=>simp only[CT.Rep]at hF;rw[hF.2]at hb;simp at hb
  | bool=>simp only[CT.Rep]at hF;rw[hF.2]at hb;simp at hb
  | str=>simp only[CT.Rep]at hF;rw[hF.2]at hb;simp at hb
  | err=>simp only[CT.Rep]at hF;rw[hF.1]at hb;simp at hb
theorem Cs.into_own (hm:oA en g w) {kp:Bool}:{e:Cs}->{xs:List Cell}->{vs:List Value}->{y:e.den×List (mF×Entry)}->{L:List mF}->mQ (mJ (dom en) g w) xs vs->(e.into true kp xs).Runs (mG en) y L ->
 Cs.Own kp g w e y.1 vs (y.2.map (·.1))/\nb en true kp y.2
 | .one c,[],_,_,_,_,hr=>hr.elim
 | .one c,[x],[v],y,L,hc,hr=>by
  obtain⟨h1,h2⟩:=CT.into_own hm hc.1 hr;exact⟨⟨v,rfl,h1⟩,h2⟩
 | .one c,_::_::_,_,_,_,_,hr=>hr.elim
 | .cons c r,[],_,_,_,_,hr=>hr.elim
 | .cons c r,x::xs,v::vs,y,L,hc,hr=>by
  simp only[Cs.into]at hr;obtain⟨a,L1,L2,rfl,h1,hr⟩:=Rd.runs_bind hr;obtain⟨b,L3,L4,rfl,h2,hr⟩:=Rd.runs_bind hr;obtain⟨rfl,_⟩:=hr;obtain⟨k1,k2⟩:=CT.into_own hm hc.1 h1;obtain⟨k3,k4⟩:=Cs.into_own hm hc.2 h2;exact⟨⟨v,vs,_,_,rfl,by simp,k1,k3⟩,k2.append k4⟩
theorem Cs.into_shared (hm:oA en g w):{e:Cs}->{xs:List Cell}->{vs:List Value}->{y:e.den×List (mF×Entry)}->{L:List mF}->mQ (mJ (dom en) g w) xs vs->(e.into false true xs).Runs (mG en) y L ->
 (∃F,Cs.Rep w e y.1 vs F/\∀b∈F,g.I b\/qA en g b (y.2.map (·.1)))/\nb en false true y.2
 | .one c,[],_,_,_,_,hr=>hr.elim
 | .one c,[x],[v],y,L,hc,hr=>by
  obtain⟨⟨F,h1,h3⟩,h2⟩:=CT.into_shared hm hc.1 hr;exact⟨⟨F,by simp only[Cs.Rep];exact⟨v,rfl,h1⟩,h3⟩,h2⟩
 | .one c,_::_::_,_,_,_,_,hr=>hr.elim
 | .cons c r,[],_,_,_,_,hr=>hr.elim
 | .cons c r,x::xs,v::vs,y,L,hc,hr=>by
  simp only[Cs.into]at hr;obtain⟨a,L1,L2,rfl,h1,hr⟩:=Rd.runs_bind hr;obtain⟨b,L3,L4,rfl,h2,hr⟩:=Rd.runs_bind hr;obtain⟨rfl,_⟩:=hr;obtain⟨⟨F1,k1,k5⟩,k2⟩:=CT.into_shared hm hc.1 h1;obtain⟨⟨F2,k3,k6⟩,k4⟩:=Cs.into_shared hm hc.2 h2;refine⟨⟨F1++F2,by simp only[Cs.Rep];exact⟨v,vs,F1,F2,rfl,rfl,k1,k3⟩,λb hb=>?_⟩,k2.append k4⟩;rcases mem_append.1 hb with hb|hb
  · exact (k5 b hb).imp id λh=>h.mono (by simp +contextual)
  · exact (k6 b hb).imp id λh=>h.mono (by simp +contextual)

theorem CT.cell_rep {D:mF->Prop} {c:CT} {x:c.den} {v:Value} {F:List Nat} (h:CT.Rep w c x v F) (hF:∀b∈F,g.I b):mJ D g w (c.cell x) v:=by
 cases c with
 | sl e=>exact⟨F,h,hF⟩
 | int=>simp only[CT.Rep]at h;exact h.1
 | bool=>simp only[CT.Rep]at h;exact h.1
 | str=>simp only[CT.Rep]at h;exact h.1
 | err=>simp only[CT.Rep]at h;exact h.2
theorem Cs.cells_rep {D:mF->Prop}:{e:Cs}->{x:e.den}->{vs:List Value}->{F:List Nat}->Cs.Rep w e x vs F->(∀b∈F,g.I b)->mQ (mJ D g w) (e.cells x) vs
 | .one c,x,_,F,h,hF=>by simp only[Cs.Rep]at h;obtain⟨v,rfl,h⟩:=h;exact⟨CT.cell_rep h hF,trivial⟩
 | .cons c r,x,_,F,h,hF=>by
  simp only[Cs.Rep]at h;obtain⟨v,vs',F1,F2,rfl,rfl,h1,h2⟩:=h;exact⟨CT.cell_rep h1 λb hb=>hF b (by simp[hb]),Cs.cells_rep h2 λb hb=>hF b (by simp[hb])⟩
end Go.V
namespace Go.V

def zeroOk:Cs->List Value->Bool
 | .one c,[v]=>one c v
 | .cons c r,v::vs=>one c v&&zeroOk r vs
 | _,_=>false
where one:CT->Value->Bool
 | .int k,.int j n=>Nat.beq (nK j) (nK k)&&decide (n=0)
 | .bool,.bool b=>!b
 | .str,.string s=>s.data.toList.isEmpty
 | .err,.nilIface=>true
 | .sl _,.slice none 0 0=>true
 | _,_=>false
def og (ti:List (Nat×n7)) (c:CT) (elem:Nat):TypeDesc->Bool
 | .int k=>match c with | .int j=>Nat.beq (nK j) (nK k)|_=>false
 | .bool=>match c with | .bool=>true|_=>false
 | .string=>match c with | .str=>true|_=>false
 | .interface _=>match c with | .err=>true|_=>false
 | .slice e=>match c with | .sl f=>Nat.beq e elem&&(match mG ti elem with|some j=>(Cs.same j.cs f).isSome|none=>false)|_=>false
 | _=>false
def oZ (ti:List (Nat×n7)):List Field->List (Nat×Nat)->Bool
 | [],[]=>true
 | f::fs,(t,o)::l=>Nat.beq f.type t&&Nat.beq f.offset o&&(mG ti t).isSome&&oZ ti fs l
 | _,_=>false
def EW (P:Program) (ti:List (Nat×n7)) (p:Nat×n7):Bool :=
 match P.info? p.1,P.underlying p.1 with
 | some d,some u=>Nat.beq d.size p.2.cs.len&&Nat.ble d.bytes 8192&&(match d.zero with|some z=>zeroOk p.2.cs z.cells.toList|none=>false) &&
  (match p.2.agg,u,p.2.cs with
  | true,.struct fs,_=>oZ ti fs.toList p.2.flds
  | false,u,.one c=>og ti c p.2.elem u
  | _,_,_=>false)
 | _,_=>false
def oG (P:Program) (ti:List (Nat×n7)):Prop:=∀t i,mG ti t=some i->EW P ti (t,i)=true
theorem sM {α:Type}:∀{l:List (Nat×α)} {n:Nat} {x:α},mG l n=some x->(n,x)∈l
 | [],_,_,h=>by simp[mG]at h
 | (j,y)::l,n,x,h=>by
  rw[mR]at h;split at h
  · rename_i e;subst e;cases h;simp
  · exact mem_cons_of_mem _ (sM h)
theorem oG.of_all {P:Program} {ti:List (Nat×n7)} (h:ti.all (EW P ti)=true):oG P ti:=λt i hi=>List.all_eq_true.1 h _ (sM hi)

theorem ru {w:World}:∀{e:Cs} {vs:List Value},zeroOk e vs=true->Cs.Rep w e e.zero vs []
 | .one c,[v],h=>by simp only[Cs.Rep];exact⟨v,rfl,one c v h⟩
 | .cons c r,v::vs,h=>by
  simp only[zeroOk,aT]at h;simp only[Cs.Rep,Cs.zero];exact⟨v,vs,[],[],rfl,rfl,one c v h.1,ru h.2⟩
 | .one c,[],h=>by simp[zeroOk]at h
 | .one c,_::_::_,h=>by simp[zeroOk]at h
 | .cons c r,[],h=>by simp[zeroOk]at h
where one:∀(c:CT) (v:Value),zeroOk.one c v=true->CT.Rep w c c.zero v []
 | .int k,v,h=>by
  cases v<;>simp[zeroOk.one]at h;rename_i j n;obtain⟨h1,rfl⟩:=h;obtain rfl:=pV h1;simp only[CT.Rep,CT.zero];exact⟨trivial,trivial⟩
 | .bool,v,h=>by cases v<;>simp[zeroOk.one]at h;subst h;simp only[CT.Rep,CT.zero];exact⟨trivial,trivial⟩
 | .str,v,h=>by
  cases v<;>simp[zeroOk.one]at h;rename_i s;simp only[CT.Rep,CT.zero];exact⟨by rw[show s=⟨#[]⟩from by cases s;simp_all],trivial⟩
 | .err,v,h=>by cases v<;>simp[zeroOk.one]at h;simp only[CT.Rep,CT.zero];exact⟨trivial,.inl ⟨trivial,trivial⟩⟩
 | .sl e,v,h=>by
  cases v<;>simp[zeroOk.one]at h;rename_i a len cap;cases a with
  | some a=>simp[zeroOk.one]at h
  | none => 
   cases len<;>cases cap<;>simp[zeroOk.one]at h;exact oM.2 (.inl ⟨⟨_,rfl⟩,rfl,rfl⟩)
structure qn (P:Program) (ti:List (Nat×n7)) (t:Nat) (i:n7) (d:TypeInfo) (u:TypeDesc) (z:Value):Prop where
 info:P.info? t=some d
 und:P.underlying t=some u
 size:d.size=i.cs.len
 bytes:d.bytes<=8192
 zero:d.zero=some z
 zrep:∀w,Cs.Rep w i.cs i.cs.zero z.cells.toList []
 zok:zeroOk i.cs z.cells.toList=true
 agg:i.agg=true->∃fs,u=.struct fs/\oZ ti fs.toList i.flds=true
 plain:i.agg=false->∃c,i.cs=.one c/\og ti c i.elem u=true
theorem oG.facts {P:Program} {ti:List (Nat×n7)} (h:oG P ti) {t:Nat} {i:n7} (hi:mG ti t=some i):∃d u z,qn P ti t i d u z:=by
 have hk:=h t i hi;simp only[EW]at hk;cases hd:P.info? t with
 | none=>rw[hd]at hk;simp at hk
 | some d =>
  cases hu:P.underlying t with
  | none=>rw[hd,hu]at hk;simp at hk
  | some u =>
   rw[hd,hu]at hk;simp only[aT]at hk;obtain⟨⟨⟨h1,h2⟩,h3⟩,h4⟩:=hk;cases hz:d.zero with
   | none=>rw[hz]at h3;simp at h3
   | some z =>
    rw[hz]at h3;refine⟨d,u,z,hd,hu,Nat.eq_of_beq_eq_true h1,Nat.le_of_ble_eq_true h2,hz,λw=>ru h3,h3,λha=>?_,λha=>?_⟩
    · rw[ha]at h4;cases u<;>try (simp at h4;done)
      exact⟨_,rfl,h4⟩
    · rw[ha]at h4;cases hc:i.cs with
      | one c=>rw[hc]at h4;exact⟨c,rfl,h4⟩
      | cons c r=>rw[hc]at h4;simp at h4
theorem qn.agg_run {P:Program} {ti:List (Nat×n7)} {t:Nat} {i:n7} {d:TypeInfo} {u:TypeDesc} {z:Value} (h:qn P ti t i d u z) (w:World):(Go.isAgg t).run P w=.ok i.agg w:=by
 unfold Go.isAgg;simp only[Sem.run_bind,run_underlying h.und,Result.andThen];cases ha:i.agg with
 | true=>obtain⟨fs,rfl,_⟩:=h.agg ha;rfl
 | false =>
  obtain⟨c,hc,hs⟩:=h.plain ha;cases u<;>first|rfl | (simp[og]at hs)
theorem qn.size_run {P:Program} {ti:List (Nat×n7)} {t:Nat} {i:n7} {d:TypeInfo} {u:TypeDesc} {z:Value} (h:qn P ti t i d u z) (w:World):(sizeOf t).run P w=.ok i.cs.len w:=by
 simp[sizeOf,typeInfo,h.info,h.size]
theorem qn.zero_run {P:Program} {ti:List (Nat×n7)} {t:Nat} {i:n7} {d:TypeInfo} {u:TypeDesc} {z:Value} (h:qn P ti t i d u z) (w:World):(zeroValue t).run P w=.ok z w:=by
 simp[zeroValue,typeInfo,h.info,h.zero]
end Go.V
namespace Go.V
variable {P:Program} {w0:World} {T N:Nat->Prop} {S:St} {g:Gh} {w:World} {a:Act} {o:Oper} {G:o9} {uid:mF}

def IW (P:Program) (o:Oper) (a:Act) (w:World) (v:Value) (w':World):Prop :=
 (execOp a.eval o).run P w=.ok (.value v) w'\/(v=undef/\(execOp a.eval o).run P w=.ok .skip w')
def nd (P:Program) (w0:World) (T N:Nat->Prop) (S:St) (g:Gh) (w:World) (a:Act) (o:Oper) (e:nu):Prop :=
 ∃v w' g',IW P o a w v w'/\MS w0 T N (e.ents++S.en) g' w'/\Le (dom S.en) g w (dom (e.ents++S.en)) g' w'/\nc (dom (e.ents++S.en)) g' w' e.val v
theorem nk.ms (h:nk w0 T N S g w a):MS w0 T N S.en g w:=⟨h.mem,h.since⟩
theorem nd.pure (h:nk w0 T N S g w a) {x:AV} {v:Value} (hr:(execOp a.eval o).run P w=.ok (.value v) w) (hv:nc (dom S.en) g w x v):nd P w0 T N S g w a o ⟨x,[]⟩ :=
 ⟨v,w,g,.inl hr,h.ms,Le.refl _ _ _,hv⟩
theorem DX {D:mF->Prop} (v:Value):nc D g w (vq v) v:=by
 unfold vq;split<;>simp[nc,nV,mJ,AV.undef]
theorem nx (h:nk w0 T N S g w a) (x:Operand):nc (dom S.en) g w (S.eval x) (a.eval x):=by
 cases x with
 | tmp t=>exact h.tmps t
 | const v=>exact DX v
 | global n=>simp[St.eval,nc,nV,mJ,AV.undef]
 | func f=>exact⟨#[],rfl,trivial⟩
theorem u0 {D:mF->Prop} {c:Cell} {v:Value} (h:nc D g w (.cell c) v):mJ D g w c v:=h
theorem s5 (h:nk w0 T N S g w a) {x:Operand} {c:Cell} (hx:S.eval x=.cell c):mJ (dom S.en) g w c (a.eval x):=by
 have:=nx h x;rw[hx]at this;exact this
theorem nc.cells {D:mF->Prop} {x:AV} {v:Value} (h:nc D g w x v) (hx:x.cells≠[]\/∃cs,x=.agg cs):mQ (mJ D g w) x.cells v.cells.toList\/(∃c,x=.cell c):=by
 cases x with
 | cell c=>exact .inr ⟨c,rfl⟩
 | agg cs=>obtain⟨vs,rfl,h⟩:=h;exact .inl (by simpa[AV.cells,Value.cells]using h)
 | tup _=>rcases hx with hx|⟨cs,hx⟩<;>simp[AV.cells]at hx

theorem Cz (h:nk w0 T N S g w a) {x:Operand} (ho:o.op=.move x\/o.op=.assign x):nd P w0 T N S g w a o ⟨S.eval x,[]⟩:=by
 refine nd.pure h (v:=a.eval x) ?_ (nx h x);rcases ho with ho|ho<;>simp[execOp,ho]
theorem Gt (h:nk w0 T N S g w a) {c x y:Operand} (ho:o.op=.pick c x y) {e:nu} {L:List mF} (hr:(s3 (S.eval c) (S.eval x) (S.eval y)).Runs (mG S.en) e L):nd P w0 T N S g w a o e:=by
 have hc:=nx h c;have hx:=nx h x
 have hy:=nx h y;unfold s3 at hr;split at hr
 · rename_i c' x' y' e1 e2 e3;rw[e1]at hc;rw[e2]at hx;rw[e3]at hy;obtain⟨rfl,_⟩:=hr;have hc:a.eval c=.bool c':=hc
   have hx:a.eval x=.bool x':=hx;have hy:a.eval y=.bool y':=hy
   refine nd.pure h (v:=.bool (cond c' x' y')) ?_ rfl;simp only[execOp,ho,hc,hx,hy,asBool];cases c'<;>simp
 · rename_i e1 e2;rename_i c';rw[e1]at hc;have hc:a.eval c=.bool c':=hc
   cases c' with
   | true =>
    obtain⟨rfl,_⟩:=hr;refine nd.pure h (v:=a.eval x) ?_ hx;simp[execOp,ho,hc,asBool]
   | false =>
    obtain⟨rfl,_⟩:=hr;refine nd.pure h (v:=a.eval y) ?_ hy;simp[execOp,ho,hc,asBool]
 · exact hr.elim
theorem C4 (h:nk w0 T N S g w a) {x:Operand} (ho:o.op=.nilCheck x) {e:nu} {L:List mF} (hr:(pc G uid S.eval (.nilCheck x)).Runs (mG S.en) e L):nd P w0 T N S g w a o e:=by
 have hx:=nx h x;simp only[pc]at hr;split at hr
 · rename_i n off e1;obtain⟨rfl,_⟩:=hr;rw[e1]at hx;obtain⟨hd,b,hl,hv⟩:=hx;exact nd.pure h (v:=a.eval x) (by simp[execOp,ho,hv]) ⟨hd,b,hl,hv⟩
 · rename_i r i off e1;obtain⟨rfl,_⟩:=hr;rw[e1]at hx;obtain⟨hd,b,o',len,cap,hl,h1,hv⟩:=hx;exact nd.pure h (v:=a.eval x) (by simp[execOp,ho,hv]) ⟨hd,b,o',len,cap,hl,h1,hv⟩
 · rename_i f y off e1;obtain⟨rfl,_⟩:=hr;rw[e1]at hx;obtain⟨b,o',vs,F,h1,h2,h3,h4,hv⟩:=hx;exact nd.pure h (v:=a.eval x) (by simp[execOp,ho,hv]) ⟨b,o',vs,F,h1,h2,h3,h4,hv⟩
 · exact hr.elim
theorem Hg (h:nk w0 T N S g w a) {t:TypeId} {x:Operand} (ho:o.op=.unOp .not t x) {e:nu} {L:List mF} (hr:(pc G uid S.eval (.unOp .not t x)).Runs (mG S.en) e L):nd P w0 T N S g w a o e:=by
 have hx:=nx h x;simp only[pc]at hr;split at hr
 · rename_i b e1;obtain⟨rfl,_⟩:=hr;rw[e1]at hx;have hx:a.eval x=.bool b:=hx
   exact nd.pure h (v:=.bool (!b)) (by simp[execOp,ho,hx,Op.unary]) rfl
 · exact hr.elim
theorem Hh (h:nk w0 T N S g w a) {t:TypeId} {x:Operand} (ho:o.op=.unOp .neg t x) {e:nu} {L:List mF} (hr:(pc G uid S.eval (.unOp .neg t x)).Runs (mG S.en) e L):nd P w0 T N S g w a o e:=by
 have hx:=nx h x;simp only[pc]at hr;split at hr
 · rename_i k n e1;obtain⟨rfl,_⟩:=hr;rw[e1]at hx;have hx:a.eval x=.int k n:=hx
   exact nd.pure h (v:=.int k (k.wrap (0-n))) (by simp[execOp,ho,hx,Op.unary,Op.intArith]) rfl
 · exact hr.elim
theorem D5 (h:nk w0 T N S g w a) {x:Operand} {i:Nat} (ho:o.op=.extract x i) {e:nu} {L:List mF} (hr:(pc G uid S.eval (.extract x i)).Runs (mG S.en) e L):nd P w0 T N S g w a o e:=by
 have hx:=nx h x;simp only[pc]at hr;split at hr
 · rename_i vs e1;rw[e1]at hx;split at hr
   · rename_i v hv;obtain⟨rfl,_⟩:=hr;obtain⟨us,hu,hall⟩:=hx;obtain⟨u,hu1,hu2⟩:=hall.get i v hv;refine nd.pure h (v:=u) ?_ ?_
     · have:us[i]?=some u:=by simpa using hu1
       simp[execOp,ho,hu,Instr.extract,this]
     · cases v with
       | cell c=>exact hu2
       | agg cs=>exact hu2
       | tup _=>exact hu2.elim
   · exact hr.elim
 · exact hr.elim
theorem C5 (h:nk w0 T N S g w a) {f:FuncId} {caps:Array Operand} (ho:o.op=.makeFunc (.func f) #[] caps) {e:nu} {L:List mF} (hr:(pc G uid S.eval (.makeFunc (.func f) #[] caps)).Runs (mG S.en) e L):nd P w0 T N S g w a o e:=by
 simp only[pc]at hr;split at hr
 · rename_i ns hns;obtain⟨rfl,_⟩:=hr;have key:∀(l:List Operand) (ns:List mF),qk (l.map S.eval)=some ns->mQ (λn u=>dom S.en n/\(∃b,g.loc n=.pointer (some ⟨b,0,none⟩))/\u=g.loc n) ns (l.map a.eval):=by
    intro l
    induction l with
    | nil=>intro ns hn;simp[qk]at hn;subst hn;trivial
    | cons x l ih =>
     intro ns hn;have hx:=nx h x
     simp only[map_cons]at hn;cases hq:S.eval x with
     | agg _=>rw[hq]at hn;simp[qk]at hn
     | tup _=>rw[hq]at hn;simp[qk]at hn
     | cell c =>
      rw[hq]at hn hx;cases c<;>try (simp[qk]at hn;done)
      rename_i n off;cases off with
      | succ _=>simp[qk]at hn
      | zero =>
       simp only[qk]at hn;cases hk:qk (l.map S.eval)with
       | none=>rw[hk]at hn;simp at hn
       | some ms =>
        rw[hk]at hn;cases hn;obtain⟨hd,b,hl,hv⟩:=hx;exact⟨⟨hd,⟨b,hl⟩,hv.trans hl.symm⟩,ih ms hk⟩
   refine nd.pure h (v:=.func (.func f) #[] (caps.map a.eval)) (by simp[execOp,ho,Instr.makeFunc]) ⟨_,rfl,?_⟩;simpa using key caps.toList ns (by simpa using hns)
 · exact hr.elim
theorem Ab (h:nk w0 T N S g w a) {ty:Array TypeId} {x y:Operand} (b:Builtin) (hb:b=.min\/b=.max) (ho:o.op=.call { callee:=.builtin b,args:=#[x,y],argTypes:=ty }) {e:nu} {L:List mF}
 (hr:(vw (if b=.min then min2 else max2) [S.eval x,S.eval y]).Runs (mG S.en) e L):nd P w0 T N S g w a o e:=by
 have hx:=nx h x;have hy:=nx h y
 unfold vw at hr;split at hr
 · rename_i k m j n e1;simp only[List.cons.injEq,and_true]at e1;obtain⟨e1,e2⟩:=e1;rw[e1]at hx;rw[e2]at hy;cases hk:Nat.beq (nK j) (nK k)with
   | false=>rw[hk]at hr;exact hr.elim
   | true =>
    rw[hk]at hr;obtain rfl:=pV (Nat.eq_of_beq_eq_true hk);obtain⟨rfl,_⟩:=hr;have hx:a.eval x=.int j m:=hx
    have hy:a.eval y=.int j n:=hy;rcases hb with rfl|rfl
    · exact nd.pure h (v:=.int j (min2 m n)) (by simp[execOp,ho,hx,hy,resolve,invoke,builtin,Builtin.min_,Builtin.min2,min2]) (by simp[nc,nV,mJ])
    · exact nd.pure h (v:=.int j (max2 m n)) (by simp[execOp,ho,hx,hy,resolve,invoke,builtin,Builtin.max_,Builtin.max2,max2]) (by simp[nc,nV,mJ])
 · exact hr.elim
end Go.V
namespace Go.V
variable {P:Program} {w0:World} {T N:Nat->Prop} {S:St} {g:Gh} {w:World} {a:Act} {o:Oper} {G:o9} {uid:mF}

theorem ou (h:nk w0 T N S g w a) {k:IntKind} {n:Int} {e:nu} {L:List mF} (he:(one (.int k n)).Runs (mG S.en) e L) (hr:(execOp a.eval o).run P w=.ok (.value (.int k n)) w):nd P w0 T N S g w a o e:=by
 obtain⟨rfl,_⟩:=he;exact nd.pure h hr rfl
theorem oR (h:nk w0 T N S g w a) {b:Bool} {e:nu} {L:List mF} (he:(one (.bool b)).Runs (mG S.en) e L) (hr:(execOp a.eval o).run P w=.ok (.value (.bool b)) w):nd P w0 T N S g w a o e:=by
 obtain⟨rfl,_⟩:=he;exact nd.pure h hr rfl
theorem DY (h:nk w0 T N S g w a) {op:BinOp} {t ty:TypeId} {x y:Operand} (ho:o.op=.binOp op t x y ty) (hs:op≠.shl) (hs':op≠.shr) {k:IntKind} {m n:Int} (hx:a.eval x=.int k m) (hy:a.eval y=.int k n)
 {e:nu} {L:List mF} (hr:(vr op k m n).Runs (mG S.en) e L):nd P w0 T N S g w a o e:=by
 unfold vr at hr;split at hr
 · exact ou h hr (by simp[execOp,ho,hx,hy,eqGuard,binOp,Op.intArith])
 · exact ou h hr (by simp[execOp,ho,hx,hy,eqGuard,binOp,Op.intArith])
 · exact ou h hr (by simp[execOp,ho,hx,hy,eqGuard,binOp,Op.intArith])
 · obtain⟨q,hq,hr⟩:=hr;unfold quo at hq;by_cases h0:n=0
   · rw[if_pos h0]at hq;cases hq
   · rw[if_neg h0]at hq;cases hq;exact ou h hr (by simp[execOp,ho,hx,hy,eqGuard,binOp,Op.intDiv,h0])
 · obtain⟨q,hq,hr⟩:=hr;unfold rem at hq;by_cases h0:n=0
   · rw[if_pos h0]at hq;cases hq
   · rw[if_neg h0]at hq;cases hq;exact ou h hr (by simp[execOp,ho,hx,hy,eqGuard,binOp,Op.intDiv,h0])
 · exact ou h hr (by simp[execOp,ho,hx,hy,eqGuard,binOp,Op.intBits,pp])
 · exact ou h hr (by simp[execOp,ho,hx,hy,eqGuard,binOp,Op.intBits,AU])
 · exact ou h hr (by simp[execOp,ho,hx,hy,eqGuard,binOp,Op.intBits,Hd])
 · exact ou h hr (by simp[execOp,ho,hx,hy,eqGuard,binOp,Op.intBits,sJ])
 · exact oR h hr (by simp[execOp,ho,hx,hy,eqGuard,binOp,Op.intCmp])
 · exact oR h hr (by simp[execOp,ho,hx,hy,eqGuard,binOp,Op.intCmp])
 · exact oR h hr (by simp[execOp,ho,hx,hy,eqGuard,binOp,Op.intCmp])
 · exact oR h hr (by simp[execOp,ho,hx,hy,eqGuard,binOp,Op.intCmp])
 · exact oR h hr (by simp[execOp,ho,hx,hy,eqGuard,binOp,Op.intCmp])
 · exact oR h hr (by simp[execOp,ho,hx,hy,eqGuard,binOp,Op.intCmp])
 · exact hr.elim
theorem xT {ti:List (Nat×n7)} {t:Nat} {i:n7} {c:CT} {d:TypeInfo} {u:TypeDesc} {z:Value} (h:qn P ti t i d u z) (hc:i.cs=.one c) (hn:i.agg=false):og ti c i.elem u=true:=by
 obtain⟨c',h1,h2⟩:=h.plain hn;rw[hc]at h1;cases h1;exact h2
theorem qo {ti:List (Nat×n7)} (hT:oG P ti) {t:Nat} {i:n7} {c:CT} (hi:mG ti t=some i) (hc:i.cs=.one c) (hn:i.agg=false):∃u,P.underlying t=some u/\og ti c i.elem u=true:=by
 obtain⟨d,u,z,hf⟩:=hT.facts hi;exact⟨u,hf.und,xT hf hc hn⟩

theorem D6 (h:nk w0 T N S g w a) {op:BinOp} {t ty:TypeId} {x y:Operand} (ho:o.op=.binOp op t x y ty) {i:n7} {c:Bool} {k j:IntKind} {m n:Int} (hx:a.eval x=.int k m) (hy:a.eval y=.int j n)
 {e:nu} {L:List mF} (hr:(pC i op c (.cell (.int k m)) (.cell (.int j n))).Runs (mG S.en) e L):nd P w0 T N S g w a o e:=by
 have hsh:∀q L',q=(cond (Nat.beq (nK j) (nK k)) (vr op k m n) .fail)->q.Runs (mG S.en) e L'->op≠.shl->op≠.shr->nd P w0 T N S g w a o e:=by
  intro q L' hq hr h1 h2;subst hq;cases hk:Nat.beq (nK j) (nK k)with
  | false=>rw[hk]at hr;exact hr.elim
  | true =>
   rw[hk]at hr;obtain rfl:=pV (Nat.eq_of_beq_eq_true hk);exact DY h ho h1 h2 hx hy hr
 cases op
 case shl =>
  obtain⟨q,hq,hr⟩:=hr;unfold shl at hq;split at hq
  · cases hq
  · rename_i h0;cases hq;exact ou h hr (by simp[execOp,ho,hx,hy,eqGuard,binOp,Op.shift,h0])
 case shr =>
  obtain⟨q,hq,hr⟩:=hr;unfold shr at hq;split at hq
  · cases hq
  · rename_i h0;cases hq;exact ou h hr (by simp[execOp,ho,hx,hy,eqGuard,binOp,Op.shift,h0])
 all_goals exact hsh _ L rfl hr (by simp) (by simp)
theorem D7 (h:nk w0 T N S g w a) {op:BinOp} {t ty:TypeId} {x y:Operand} (ho:o.op=.binOp op t x y ty) {i:n7} {c:Bool} {s u:List UInt8} (hx:a.eval x=.string ⟨s.toArray⟩) (hy:a.eval y=.string ⟨u.toArray⟩)
 {e:nu} {L:List mF} (hr:(pC i op c (.cell (.str s)) (.cell (.str u))).Runs (mG S.en) e L):nd P w0 T N S g w a o e:=by
 cases op<;>try exact hr.elim
 case add =>
  obtain⟨q,hq,hr⟩:=hr;unfold AT at hq;split at hq
  · rename_i hl;cases hq;obtain⟨rfl,_⟩:=hr;refine nd.pure h (v:=.string ⟨(s++u).toArray⟩) ?_ rfl;have hb:¬(((s.length+u.length:Nat):Int)>IntKind.i64.max):=by
     unfold va at hl;have:IntKind.i64.max=9223372036854775807:=by decide
     rw[this];omega
    have hb':¬((((ByteArray.mk s.toArray).size+(ByteArray.mk u.toArray).size:Nat):Int)>IntKind.i64.max):=hb;simp only[execOp,ho,hx,hy,eqGuard,binOp,Op.stringOp];rw[if_neg hb',ByteArray.mk_append_mk];simp
  · cases hq
 case eql=>exact oR h hr (by simp[execOp,ho,hx,hy,eqGuard,binOp,Op.stringOp])
 case neq=>exact oR h hr (by simp[execOp,ho,hx,hy,eqGuard,binOp,Op.stringOp])
theorem yk (n:Nat) {t:TypeId} (hu:P.underlying t=some .bool) (w:World) (p q:Bool):(Op.equalIn (n+1) t (.bool p) (.bool q)).run P w=.ok (p==q) w:=by
 simp only[Op.equalIn,Sem.run_bind,run_underlying hu,Result.andThen,Sem.run_pure]
theorem vE {t:TypeId} (hu:P.underlying t=some .bool) (w:World) (p q:Bool):(Op.equal t (.bool p) (.bool q)).run P w=.ok (p==q) w:=yk 9999 hu w p q
theorem C6 (h:nk w0 T N S g w a) (hT:oG P G.ti) {op:BinOp} {t ty:TypeId} {x y:Operand} (ho:o.op=.binOp op t x y ty) {i:n7} (hi:mG G.ti t=some i) {c:Bool} {s u:Bool} (hx:a.eval x=.bool s) (hy:a.eval y=.bool u)
 {e:nu} {L:List mF} (hr:(pC i op c (.cell (.bool s)) (.cell (.bool u))).Runs (mG S.en) e L):nd P w0 T N S g w a o e:=by
 have key:∀(r:Rd nu) L',r.Runs (mG S.en) e L'->(match i.agg,i.cs with|false,.one .bool=>r|_,_=>Rd.fail)=r->True:=λ_ _ _ _=>trivial;cases op<;>try exact hr.elim
 case eql =>
  simp only[pC]at hr;split at hr
  · rename_i ha hc;obtain⟨d,hu,hs⟩:=qo hT hi hc ha;cases d<;>simp[og]at hs;refine oR h hr ?_;simp only[execOp,ho,hx,hy,eqGuard,binOp];simp[vE hu]
  · exact hr.elim
 case neq =>
  simp only[pC]at hr;split at hr
  · rename_i ha hc;obtain⟨d,hu,hs⟩:=qo hT hi hc ha;cases d<;>simp[og]at hs;refine oR h hr ?_;simp only[execOp,ho,hx,hy,eqGuard,binOp];simp[vE hu]
  · exact hr.elim
theorem wK {t:TypeId} {ms:Array (String×TypeId)} (hu:P.underlying t=some (.interface ms)) (w:World) {v:Value} {b:Bool} (hv:(b=false/\v=.nilIface)\/(b=true/\∃t u,v=.iface t u)) :
 (Op.equal t v .nilIface).run P w=.ok (!b) w:=by
 have key:∀n,(Op.equalIn (n+1) t v .nilIface).run P w=.ok (!b) w:=λn=>by
  rcases hv with ⟨rfl,rfl⟩|⟨rfl,t',u,rfl⟩<;>simp only[Op.equalIn,Sem.run_bind,run_underlying hu,Result.andThen,Sem.run_pure,Bool.not_false,Bool.not_true]
 exact key 9999
theorem D8 (h:nk w0 T N S g w a) (hT:oG P G.ti) {op:BinOp} {t ty:TypeId} {x y:Operand} (ho:o.op=.binOp op t x y ty) {i:n7} (hi:mG G.ti t=some i) {s u:Bool}
 (hx:mJ (dom S.en) g w (.err s) (a.eval x)) (hy:mJ (dom S.en) g w (.err u) (a.eval y))
 {e:nu} {L:List mF} (hr:(pC i op (s0 y) (.cell (.err s)) (.cell (.err u))).Runs (mG S.en) e L):nd P w0 T N S g w a o e:=by
 have hyv:u=false->a.eval y=.nilIface:=λhu=>by
  rcases hy with ⟨_,hy⟩|⟨hb,_⟩
  · exact hy
  · rw[hu]at hb;cases hb
 have hg:s0 y=true->(eqGuard op t x y (a.eval x) .nilIface).run P w=.ok () w:=λhc=>by
  have hyc:∃v,y=.const v:=by cases y<;>simp[s0]at hc;exact⟨_,rfl⟩
  obtain⟨cv,rfl⟩:=hyc;unfold eqGuard;rcases hx with ⟨_,hx⟩|⟨_,t',u',hx⟩<;>rw[hx]<;>cases op<;>simp
 cases op<;>try (cases u<;>exact hr.elim)
 case eql =>
  cases u with
  | true=>exact hr.elim
  | false =>
   simp only[pC]at hr;split at hr
   · rename_i ha hc;cases hcy:s0 y with
     | false=>rw[hcy]at hr;exact hr.elim
     | true =>
      rw[hcy]at hr;obtain⟨d,hu,hs⟩:=qo hT hi hc ha;cases d<;>simp[og]at hs;refine oR h hr ?_;have e1:=hg hcy
      rw[←hyv rfl]at e1;have e2:=wK hu w hx
      rw[←hyv rfl]at e2;have e3:binOp .eql t (a.eval x) (a.eval y)=((Op.equal t (a.eval x) (a.eval y)) >>= λr=>pure (.bool r)):=by
       rw[hyv rfl];rcases hx with ⟨_,hx⟩|⟨_,t',u',hx⟩<;>rw[hx]<;>rfl
      simp only[execOp,ho,Sem.run_bind,e1,Result.andThen,e3,e2,Sem.run_pure]
   · exact hr.elim
 case neq =>
  cases u with
  | true=>exact hr.elim
  | false =>
   simp only[pC]at hr;split at hr
   · rename_i ha hc;cases hcy:s0 y with
     | false=>rw[hcy]at hr;exact hr.elim
     | true =>
      rw[hcy]at hr;obtain⟨d,hu,hs⟩:=qo hT hi hc ha;cases d<;>simp[og]at hs;refine oR h hr ?_;have e1:=hg hcy
      rw[←hyv rfl]at e1;have e2:=wK hu w hx
      rw[←hyv rfl]at e2;have e3:binOp .neq t (a.eval x) (a.eval y)=((Op.equal t (a.eval x) (a.eval y)) >>= λr=>pure (.bool (!r))):=by
       rw[hyv rfl];rcases hx with ⟨_,hx⟩|⟨_,t',u',hx⟩<;>rw[hx]<;>rfl
      simp only[execOp,ho,Sem.run_bind,e1,Result.andThen,e3,e2,Sem.run_pure,Bool.not_not]
   · exact hr.elim
theorem Hi (h:nk w0 T N S g w a) (hT:oG P G.ti) {op:BinOp} {t ty:TypeId} {x y:Operand} (ho:o.op=.binOp op t x y ty) {i:n7} (hi:mG G.ti t=some i)
 (hagg:∀xs ys:List Cell,S.eval x=.agg xs->S.eval y=.agg ys->∀e L,(pC i op (s0 y) (.agg xs) (.agg ys)).Runs (mG S.en) e L->nd P w0 T N S g w a o e)
 {e:nu} {L:List mF} (hr:(pC i op (s0 y) (S.eval x) (S.eval y)).Runs (mG S.en) e L):nd P w0 T N S g w a o e:=by
 have hx:=nx h x;have hy:=nx h y
 cases hX:S.eval x with
 | tup _=>rw[hX]at hr;cases op<;>exact hr.elim
 | agg xs =>
  cases hY:S.eval y with
  | agg ys=>rw[hX,hY]at hr;exact hagg xs ys hX hY e L hr
  | cell c=>rw[hX,hY]at hr;cases op<;>exact hr.elim
  | tup _=>rw[hX,hY]at hr;cases op<;>exact hr.elim
 | cell p =>
  rw[hX]at hx hr;cases hY:S.eval y with
  | agg ys=>rw[hY]at hr;cases p<;>cases op<;>exact hr.elim
  | tup _=>rw[hY]at hr;cases p<;>cases op<;>exact hr.elim
  | cell q =>
   rw[hY]at hy hr;cases p
   case int k m=>cases q<;>first|exact D6 h ho hx hy hr | (cases op<;>exact hr.elim)
   case str s=>cases q<;>first|exact D7 h ho hx hy hr | (cases op<;>exact hr.elim)
   case bool s=>cases q<;>first|exact C6 h hT ho hi hx hy hr | (cases op<;>exact hr.elim)
   case err s=>cases q<;>first|exact D8 h hT ho hi hx hy hr | (cases op<;>exact hr.elim)
   all_goals (cases op<;>exact hr.elim)
end Go.V
namespace Go.V
variable {P:Program} {w0:World} {T N:Nat->Prop} {S:St} {g:Gh} {w:World} {a:Act} {o:Oper} {G:o9} {uid:mF}

theorem np {t:Nat} {k:n7->Rd nu} {e:nu} {L:List mF} {F:mF->Option Entry} (h:(ti G t k).Runs F e L):∃i,mG G.ti t=some i/\(k i).Runs F e L:=by
 unfold ti at h;split at h
 · rename_i i hi;exact⟨i,hi,h⟩
 · exact h.elim
theorem DZ (h:oA S.en g w) {r:mF} {v:Value} {f:Cs} {m:Bool} {xs:List f.den} (hv:mJ (dom S.en) g w (.own r) v) (hn:mG S.en r=some (.root f m xs)):∃a cap,v=.slice a xs.length cap:=by
 obtain⟨_,rfl⟩:=hv;exact (nX h hn).2.1.shape
theorem C7 {α:Type} {n:Nat} {R:α->List Value->List Nat->Prop} {xs:List α} {v:Value} {F:List Nat} (h:slRep w n R xs v F):∃a cap,v=.slice a xs.length cap:=by
 rcases h with ⟨⟨a,rfl⟩,rfl,rfl⟩|⟨b,off,cap,vs,F',rfl,_⟩
 · exact⟨_,_,rfl⟩
 · exact⟨_,_,rfl⟩
theorem pO {e:Cs} {xs:List e.den} {v:Value} {F:List Nat} (h:CT.Rep w (.sl e) xs v F):∃a cap,v=.slice a xs.length cap:=by
 rw[oM]at h;rcases h with ⟨⟨a,rfl⟩,rfl,rfl⟩|⟨b,off,cap,vs,F',rfl,_⟩
 · exact⟨_,_,rfl⟩
 · exact⟨_,_,rfl⟩
theorem E0 {t ty:TypeId} {x:Value} {d:TypeDesc} (hd:P.underlying t=some d) {base:Option Addr} {n c:Nat} (hx:x=.slice base n c) (hs:∃e,d=.slice e) (w:World) :
 (Builtin.len_ #[t] ty #[x]).run P w=.ok (goInt n) w:=by
 obtain⟨e,rfl⟩:=hs;subst hx;simp[Builtin.len_,run_underlying hd]
theorem D9 {t ty:TypeId} {d:TypeDesc} (hd:P.underlying t=some d) {s:ByteArray} (hs:d=.string) (w:World) :
 (Builtin.len_ #[t] ty #[.string s]).run P w=.ok (goInt s.size) w:=by
 subst hs;simp[Builtin.len_,run_underlying hd]
theorem Hj (h:nk w0 T N S g w a) {t:TypeId} {x:Operand} (ho:o.op=.call { callee:=.builtin .len,args:=#[x],argTypes:=#[t] }) (hT:oG P G.ti) {i:n7} (hi:mG G.ti t=some i) (hk:yL i (S.eval x)=true) {e:nu} {L:List mF} (hr:(wX (S.eval x)).Runs (mG S.en) e L) :
 nd P w0 T N S g w a o e:=by
 have hx:=nx h x;have hk':∃d,P.underlying t=some d/\((∃s,S.eval x=.cell (.str s))->d=.string)/\((¬ ∃s,S.eval x=.cell (.str s))->∃e,d=.slice e):=by
  unfold yL at hk;split at hk
  · rename_i s ha hc hx';obtain⟨d,hd,hs⟩:=qo hT hi hc ha;cases d<;>simp[og]at hs;exact⟨_,hd,λ_=>rfl,λhn=>absurd ⟨s,hx'⟩ hn⟩
  · cases hk
  · rename_i hn ha hc hx';obtain⟨d,hd,hs⟩:=qo hT hi hc ha;cases d<;>simp[og]at hs;exact⟨_,hd,λ⟨s,hs'⟩=>absurd hs' (hx' s),λ_=>⟨_,rfl⟩⟩
  · cases hk
 obtain⟨d,hd,hk1,hk2⟩:=hk';have fin:∀(n:Nat),(∃b c,a.eval x=.slice b n c)->(∃e,d=.slice e)->(execOp a.eval o).run P w=.ok (.value (.int .i64 n)) w:=by
  intro n ⟨b,c,hb⟩ hs;simp only[execOp,ho,resolve,invoke,builtin,Sem.run_bind,Sem.run_pure,Result.andThen];have:=E0 (P:=P) (ty:=o.type) hd hb hs w
  simp only[List.map_toArray,map_cons,List.map_nil,this,goInt]
 unfold wX at hr;split at hr
 · rename_i s e1;rw[e1]at hx;have hx:a.eval x=.string ⟨s.toArray⟩:=hx
   obtain rfl:=hk1 ⟨s,e1⟩;refine ou h hr ?_;simp only[execOp,ho,resolve,invoke,builtin,Sem.run_bind,Sem.run_pure,Result.andThen,List.map_toArray,map_cons,List.map_nil,hx];rw[D9 hd rfl];rfl
 · rename_i f ys e1;rw[e1]at hx;obtain⟨F,hF,_⟩:=hx;exact ou h hr (fin _ (pO hF) (hk2 (by rw[e1];simp)))
 · rename_i e1;rw[e1]at hx;exact ou h hr (fin 0 ⟨_,_,hx⟩ (hk2 (by rw[e1];simp)))
 · rename_i r e1;rw[e1]at hx;obtain⟨L',rfl,hr⟩:=hr;cases hn:mG S.en r with
   | none=>rw[hn]at hr;exact hr.elim
   | some f =>
    rw[hn]at hr;cases f with
    | gone=>exact hr.elim
    | box _=>exact hr.elim
    | root f m ys=>exact ou h hr (fin _ (DZ h.mem hx hn) (hk2 (by rw[e1];simp)))
    | pop f ys =>
     obtain⟨_,_,⟨F,hF,_⟩,_⟩:=h.mem.rep r _ hn;obtain⟨_,hx⟩:=hx;exact ou h hr (fin _ (by rw[hx];exact C7 hF) (hk2 (by rw[e1];simp)))
    | frz f ys =>
     obtain⟨_,_,hF,_⟩:=h.mem.rep r _ hn;obtain⟨_,hx⟩:=hx;exact ou h hr (fin _ (by rw[hx];exact pO hF) (hk2 (by rw[e1];simp)))
    | tree f ys =>
     obtain⟨_,hT',_⟩:=h.mem.rep r _ hn;obtain⟨_,hx⟩:=hx;exact ou h hr (fin _ (by rw[hx];exact pO hT'.slRep) (hk2 (by rw[e1];simp)))
    | fwd f ys =>
     obtain⟨F,hF,_⟩:=h.mem.rep r _ hn;obtain⟨_,hx⟩:=hx;exact ou h hr (fin _ (by rw[hx];exact pO hF) (hk2 (by rw[e1];simp)))
 · rename_i r lo hi e1;rw[e1]at hx;obtain⟨L',rfl,hr⟩:=hr;cases hn:mG S.en r with
   | none=>rw[hn]at hr;exact hr.elim
   | some f =>
    rw[hn]at hr;cases f with
    | gone=>exact hr.elim
    | box _=>exact hr.elim
    | fwd _ _=>exact hr.elim
    | pop _ _=>exact hr.elim
    | frz _ _=>exact hr.elim
    | tree _ _=>exact hr.elim
    | root f m ys =>
     obtain⟨_,h1,b,len,cap,hl,h2,hv⟩:=hx;obtain⟨b',cap',hs⟩:=(nX h.mem hn).2.1.shape;rw[hl]at hs;cases hs;have e2:((ys.take hi).drop lo).length=hi-lo:=by simp;omega
     exact ou h hr (fin _ (by rw[e2];exact⟨_,_,hv⟩) (hk2 (by rw[e1];simp)))
 · exact hr.elim

theorem B2 {ti:List (Nat×n7)}:∀{fs:List Field} {l:List (Nat×Nat)},oZ ti fs l=true->∀{k:Nat} {q:Nat×Nat},l[k]?=some q->∃f,fs[k]?=some f/\f.type=q.1/\f.offset=q.2/\∃i,mG ti q.1=some i
 | [],[],_,k,q,h=>by simp at h
 | f::fs,(t,o)::l,h,0,q,hq=>by
  simp at hq;subst hq;simp only[oZ,aT]at h;exact⟨f,rfl,Nat.eq_of_beq_eq_true h.1.1.1,Nat.eq_of_beq_eq_true h.1.1.2,Option.isSome_iff_exists.1 h.1.2⟩
 | f::fs,(t,o)::l,h,k+1,q,hq=>by
  simp only[oZ,aT]at h;obtain⟨f',h1,h2⟩:=B2 h.2 (k:=k) (by simpa using hq);exact⟨f',by simpa using h1,h2⟩
 | [],_::_,h,_,_,_=>by simp[oZ]at h
 | _::_,[],h,_,_,_=>by simp[oZ]at h
theorem vd (hT:oG P G.ti) {s:TypeId} {i:n7} (hi:mG G.ti s=some i) {k:Nat} {q:Nat×Nat} (hq:i.flds[k]?=some q) (b off:Nat) (w:World) (ha:i.agg=true) :
 (Instr.fieldAt s (.pointer (some ⟨b,off,none⟩)) k).run P w=.ok (.pointer (some ⟨b,off+q.2,none⟩)) w:=by
 obtain⟨d,u,z,hf⟩:=hT.facts hi;obtain⟨fs,rfl,hfs⟩:=hf.agg ha;obtain⟨f,h1,h2,h3,j,hj⟩:=B2 hfs hq;have h1':fs[k]?=some f:=by simpa using h1
 obtain⟨d',u',z',hf'⟩:=hT.facts hj;have hs:=hf'.size_run w
 have hne:¬(j.cs.len=0):=by have:=j.cs.len_pos;omega
 simp only[Instr.fieldAt,Sem.run_bind,run_underlying hf.und,Result.andThen,h1',Instr.sureAddr,Sem.run_pure,fieldPlace,h2,hs,if_neg hne,oI,h3]
theorem B3 (h:nk w0 T N S g w a) (hT:oG P G.ti) {s:TypeId} {x:Operand} {k:Nat} (ho:o.op=.fieldAddr s x k) {e:nu} {L:List mF} (hr:(pc G uid S.eval (.fieldAddr s x k)).Runs (mG S.en) e L):nd P w0 T N S g w a o e:=by
 have hx:=nx h x;obtain⟨i,hi,hr⟩:=np hr;cases hagg:i.agg with
 | false=>rw[hagg]at hr;exact hr.elim
 | true =>
 rw[hagg]at hr;simp only[cT]at hr;split at hr
 · rename_i q n off hq e1;rw[e1]at hx;obtain⟨hd,b,hl,hv⟩:=hx;obtain⟨rfl,_⟩:=hr;refine nd.pure h (v:=.pointer (some ⟨b,off+q.2,none⟩)) ?_ ⟨hd,b,hl,rfl⟩;simp[execOp,ho,hv,vd hT hi hq b off w hagg]
 · rename_i q r j off hq e1;rw[e1]at hx;obtain⟨hd,b,o',len,cap,hl,h1,hv⟩:=hx;obtain⟨rfl,_⟩:=hr;refine nd.pure h (v:=.pointer (some ⟨b,o'+j*g.esz r+off+q.2,none⟩)) ?_ ⟨hd,b,o',len,cap,hl,h1,by rw[Nat.add_assoc _ off]⟩;simp[execOp,ho,hv,vd hT hi hq b _ w hagg]
 · rename_i q f y off hq e1;rw[e1]at hx;obtain⟨b,o',vs,F,h1,h2,h3,h4,hv⟩:=hx;obtain⟨rfl,_⟩:=hr;refine nd.pure h (v:=.pointer (some ⟨b,o'+off+q.2,none⟩)) ?_ ⟨b,o',vs,F,h1,h2,h3,h4,by rw[Nat.add_assoc]⟩;simp[execOp,ho,hv,vd hT hi hq b _ w hagg]
 · exact hr.elim

theorem qW {t:TypeId} {e:TypeId} (hu:P.underlying t=some (.slice e)) {n:Nat} (hs:∀w,(sizeOf e).run P w=.ok n w) (ad:Addr) (len cap:Nat) (k:IntKind) (i:Int) (h0:0<=i) (h1:i<len) (w:World) :
 (Instr.indexAt t (.slice (some ad) len cap) (.int k i)).run P w=.ok (.pointer (some (ad.add (i.toNat*n)))) w:=by
 simp only[Instr.indexAt,asIntOf,Sem.run_bind,Sem.run_pure,Result.andThen,run_underlying hu,h0,h1,and_self,if_true,hs]
theorem oS {f e:Cs} (h:nF f e=true):f=e:=by
 unfold nF at h;cases hq:Cs.same f e with
 | none=>rw[hq]at h;simp at h
 | some p=>exact p.down
theorem qx (hT:oG P G.ti) {t:TypeId} {j:n7} (hj:mG G.ti t=some j) {e:Cs} (ha:j.agg=false) (hc:j.cs=.one (.sl e)) :
 P.underlying t=some (.slice j.elem)/\∃i d u z,mG G.ti j.elem=some i/\i.cs=e/\qn P G.ti j.elem i d u z:=by
 obtain⟨u,hu,hs⟩:=qo hT hj hc ha;cases u<;>simp[og]at hs;rename_i f;obtain⟨rfl,hs⟩:=hs;refine⟨hu,?_⟩;cases hi:mG G.ti j.elem with
 | none=>rw[hi]at hs;simp at hs
 | some i =>
  rw[hi]at hs;obtain⟨d,u,z,hf⟩:=hT.facts hi;exact⟨i,d,u,z,rfl,oS hs,hf⟩
theorem E1 {e:Cs} {xs:List e.den} {v:Value} {F:List Nat} (hF:CT.Rep w (.sl e) xs v F) (hI:∀b∈F,g.I b) {i:Int} {x:e.den} (hx:at? xs i=some x) :
 ∃b o len cap,v=.slice (some ⟨b,o,none⟩) len cap/\0<=i/\i<len/\mJ (dom S.en) g w (.shel e x 0) (.pointer (some ⟨b,o+i.toNat*e.len,none⟩)):=by
 unfold at? at hx;split at hx
 · rename_i h0;rw[oM]at hF;rcases hF with ⟨⟨a,rfl⟩,rfl,rfl⟩|⟨b,off,cap,vs,F',rfl,rfl,hl,hc,⟨c,t,fz,hcell,hrow⟩,hL⟩
   · simp at hx
   · have hlt:i.toNat<xs.length:=by
      rcases Nat.lt_or_ge i.toNat xs.length with h|h
      · exact h
      · rw[List.getElem?_eq_none h]at hx;cases hx
     obtain⟨H,hH,hs⟩:=hL.get i.toNat hx;refine⟨b,off,_,cap,rfl,h0,by omega,b,off+i.toNat*e.len,(vs.drop (i.toNat*e.len)).take e.len,H,⟨c,t,fz,hcell,?_⟩,hH,hI b (by simp),λb' hb'=>hI b' (by simp[hs b' hb']),by simp⟩;have key:=vD c.toList vs off (i.toNat*e.len) (i.toNat*e.len+e.len) hrow (by omega) (by
      rw[hL.length];have:(i.toNat+1)*e.len<=xs.length*e.len:=Nat.mul_le_mul_right _ hlt
      rw[Nat.add_mul]at this;omega)
     rw[List.drop_take,Nat.add_sub_cancel_left]at key;exact key
 · cases hx
theorem B4 (h:nk w0 T N S g w a) (hT:oG P G.ti) {t:TypeId} {x i:Operand} (ho:o.op=.indexAddr t x i) {e:nu} {L:List mF} (hr:(pc G uid S.eval (.indexAddr t x i)).Runs (mG S.en) e L):nd P w0 T N S g w a o e:=by
 have hx:=nx h x;have hi:=nx h i
 replace hr:=np hr;obtain⟨j,hj,hr⟩:=hr;split at hr
 · rename_i f ha hc;obtain⟨hu,j',d,u,z,_,hjc,hf⟩:=qx hT hj ha hc;have hs:∀w,(sizeOf j.elem).run P w=.ok f.len w:=λw=>by rw[←hjc];exact hf.size_run w
   have shared:∀(ys:List f.den) (F:List Nat) (q:Int) (k:IntKind) (L:List mF),CT.Rep w (.sl f) ys (a.eval x) F->(∀b∈F,g.I b)->a.eval i=.int k q->(Rd.opt (at? ys q) λv=>one (.shel f v 0)).Runs (mG S.en) e L->nd P w0 T N S g w a o e:=by
    intro ys F q k L hF hI hq hr;obtain⟨y,hy,hr⟩:=hr;obtain⟨rfl,_⟩:=hr;obtain⟨b,o',len,cap,hv,h0,h1,hrep⟩:=E1 (S:=S) hF hI hy;refine nd.pure h (v:=.pointer (some ⟨b,o'+q.toNat*f.len,none⟩)) ?_ hrep;simp only[execOp,ho,hv,hq,Sem.run_bind,qW hu hs _ _ _ _ _ h0 h1,Result.andThen,Sem.run_pure,oI]
   unfold sd at hr;split at hr
   · rename_i f' ys k q e1 e2;rw[e1]at hx;rw[e2]at hi;cases hsm:nF f' f with
     | false=>rw[hsm]at hr;exact hr.elim
     | true =>
      rw[hsm]at hr;obtain rfl:=oS hsm;obtain⟨F,hF,hI⟩:=hx;exact shared ys F q k L hF hI hi hr
   · rename_i r k q e1 e2;rw[e1]at hx;rw[e2]at hi;obtain⟨L',rfl,hr⟩:=hr;have hi:a.eval i=.int k q:=hi
     cases hn:mG S.en r with
     | none=>rw[hn]at hr;exact hr.elim
     | some E =>
      rw[hn]at hr;cases E with
      | gone=>exact hr.elim
      | box _=>exact hr.elim
      | fwd f' ys =>
       simp only at hr;cases hsm:nF f' f with
       | false=>rw[hsm]at hr;exact hr.elim
       | true =>
        rw[hsm]at hr;obtain rfl:=oS hsm;obtain⟨F,hF,hI⟩:=h.mem.rep r _ hn;obtain⟨_,hx⟩:=hx;rw[←hx]at hF;exact shared ys F q k L' hF hI hi hr
      | pop f' ys =>
       simp only at hr;cases hsm:nF f' f with
       | false=>rw[hsm]at hr;exact hr.elim
       | true =>
        rw[hsm]at hr;obtain rfl:=oS hsm;obtain⟨p,hp,hr⟩:=hr;obtain⟨rfl,_⟩:=hr;unfold ix at hp;split at hp
        · rename_i h0;split at hp
          · rename_i h1;cases hp;obtain⟨he,_,⟨F0,hrt,_⟩,_⟩:=h.mem.rep r _ hn;obtain⟨hd,hxv⟩:=hx;rcases hrt with ⟨_,rfl,_⟩|⟨b,off,cap,vs,F',hl,_⟩
            · simp at h1;omega
            · rw[hl]at hxv;refine nd.pure h (v:=.pointer (some ⟨b,off+q.toNat*f'.len,none⟩)) ?_ ⟨hd,b,off,_,cap,hl,by omega,by rw[he];simp⟩;simp only[execOp,ho,hxv,hi,Sem.run_bind,qW hu hs _ _ _ _ _ h0 h1,Result.andThen,Sem.run_pure,oI]
          · cases hp
        · cases hp
      | frz f' ys =>
       simp only at hr;cases hsm:nF f' f with
       | false=>rw[hsm]at hr;exact hr.elim
       | true =>
        rw[hsm]at hr;obtain rfl:=oS hsm;obtain⟨p,hp,hr⟩:=hr;obtain⟨rfl,_⟩:=hr;unfold ix at hp;split at hp
        · rename_i h0;split at hp
          · rename_i h1;cases hp;obtain⟨he,_,hrt,_⟩:=h.mem.rep r _ hn;rw[oM]at hrt;obtain⟨hd,hxv⟩:=hx;rcases hrt with ⟨_,rfl,_⟩|⟨b,off,cap,vs,F',hl,_⟩
            · simp at h1;omega
            · rw[hl]at hxv;refine nd.pure h (v:=.pointer (some ⟨b,off+q.toNat*f'.len,none⟩)) ?_ ⟨hd,b,off,_,cap,hl,by omega,by rw[he];simp⟩;simp only[execOp,ho,hxv,hi,Sem.run_bind,qW hu hs _ _ _ _ _ h0 h1,Result.andThen,Sem.run_pure,oI]
          · cases hp
        · cases hp
      | tree f' ys =>
       simp only at hr;cases hsm:nF f' f with
       | false=>rw[hsm]at hr;exact hr.elim
       | true =>
        rw[hsm]at hr;obtain rfl:=oS hsm;obtain⟨p,hp,hr⟩:=hr;obtain⟨rfl,_⟩:=hr;unfold ix at hp;split at hp
        · rename_i h0;split at hp
          · rename_i h1;cases hp;obtain⟨he,hrt,_⟩:=h.mem.rep r _ hn;obtain⟨hd,hxv⟩:=hx;rcases hrt with ⟨_,rfl,_⟩|⟨b,off,cap,vs,F',hl,_⟩
            · simp at h1;omega
            · rw[hl]at hxv;refine nd.pure h (v:=.pointer (some ⟨b,off+q.toNat*f'.len,none⟩)) ?_ ⟨hd,b,off,_,cap,hl,by omega,by rw[he];simp⟩;simp only[execOp,ho,hxv,hi,Sem.run_bind,qW hu hs _ _ _ _ _ h0 h1,Result.andThen,Sem.run_pure,oI]
          · cases hp
        · cases hp
      | root f' m ys =>
       simp only at hr;cases hsm:nF f' f with
       | false=>rw[hsm]at hr;exact hr.elim
       | true =>
        rw[hsm]at hr;obtain rfl:=oS hsm;obtain⟨p,hp,hr⟩:=hr;obtain⟨rfl,_⟩:=hr;unfold ix at hp;split at hp
        · rename_i h0;split at hp
          · rename_i h1;cases hp;obtain⟨he,hrt,_⟩:=nX h.mem hn;obtain⟨hd,hxv⟩:=hx;rcases hrt with ⟨_,rfl,_⟩|⟨b,off,cap,us,vs,hl,_⟩
            · simp at h1;omega
            · rw[hl]at hxv;refine nd.pure h (v:=.pointer (some ⟨b,off+q.toNat*f'.len,none⟩)) ?_ ⟨hd,b,off,_,cap,hl,by omega,by rw[he];simp⟩;simp only[execOp,ho,hxv,hi,Sem.run_bind,qW hu hs _ _ _ _ _ h0 h1,Result.andThen,Sem.run_pure,oI]
          · cases hp
        · cases hp
   · rename_i r lo hi' k q e1 e2;rw[e1]at hx;rw[e2]at hi;obtain⟨L',rfl,hr⟩:=hr;have hi:a.eval i=.int k q:=hi
     cases hn:mG S.en r with
     | none=>rw[hn]at hr;exact hr.elim
     | some E =>
      rw[hn]at hr;cases E with
      | gone=>exact hr.elim
      | box _=>exact hr.elim
      | fwd f' ys=>exact hr.elim
      | pop _ _=>exact hr.elim
      | frz _ _=>exact hr.elim
      | tree f' ys=>exact hr.elim
      | root f' m ys =>
       simp only at hr;cases hsm:nF f' f with
       | false=>rw[hsm]at hr;exact hr.elim
       | true =>
        rw[hsm]at hr;obtain rfl:=oS hsm;obtain⟨p,hp,hr⟩:=hr;obtain⟨rfl,_⟩:=hr;unfold ix at hp;split at hp
        · rename_i h0;split at hp
          · rename_i h1;cases hp;obtain⟨he,hrt,_⟩:=nX h.mem hn;obtain⟨hd,h3,b0,len,cap0,hl0,h4,hxv⟩:=hx;rcases hrt with ⟨hl,rfl,_⟩|⟨b,off,cap,us,vs,hl,_,hcap,_⟩
            · rw[hl0]at hl;cases hl;omega
            · rw[hl0]at hl;cases hl;have hne:¬(cap0=lo):=by omega
              rw[if_neg hne]at hxv;simp only[Option.map_some,oI,he]at hxv;refine nd.pure h (v:=.pointer (some ⟨b,off+(lo+q.toNat)*f'.len,none⟩)) ?_ ⟨hd,b,off,_,cap0,hl0,by omega,by rw[he];simp⟩;simp only[execOp,ho,hxv,hi,Sem.run_bind,qW hu hs _ _ _ _ _ h0 h1,Result.andThen,Sem.run_pure,oI];rw[Nat.add_mul,Nat.add_assoc]
          · cases hp
        · cases hp
   · exact hr.elim
 · exact hr.elim
end Go.V
namespace Go.V
variable {P:Program} {w0:World} {T N:Nat->Prop} {S:St} {g:Gh} {w:World} {a:Act} {o:Oper} {G:o9} {uid:mF}

theorem tb (hT:oG P G.ti) {t:TypeId} {j:n7} (hj:mG G.ti t=some j) (ha:j.agg=false) (hc:j.cs=.one .str):P.underlying t=some .string:=by
 obtain⟨u,hu,hs⟩:=qo hT hj hc ha;cases u<;>simp[og]at hs;exact hu
theorem Ac (hT:oG P G.ti) {t:TypeId} {j:n7} {k:IntKind} (hj:mG G.ti t=some j) (ha:j.agg=false) (hc:j.cs=.one (.int k)):P.underlying t=some (.int k):=by
 obtain⟨u,hu,hs⟩:=qo hT hj hc ha;cases u<;>simp[og]at hs;rw[hu,pV hs]
theorem EX (h:nk w0 T N S g w a) (hT:oG P G.ti) {t:TypeId} {x i:Operand} (ho:o.op=.index t x i) {e:nu} {L:List mF} (hr:(pc G uid S.eval (.index t x i)).Runs (mG S.en) e L):nd P w0 T N S g w a o e:=by
 replace hr:=np hr;obtain⟨j,hj,hr⟩:=hr;split at hr
 · rename_i s k q ha hc e1 e2;obtain⟨b,hb,hr⟩:=hr;obtain⟨rfl,_⟩:=hr;have hx:a.eval x=.string ⟨s.toArray⟩:=s5 h e1
   have hi:a.eval i=.int k q:=s5 h e2;unfold at? at hb;split at hb
   · rename_i h0;obtain⟨hlt,hget⟩:=List.getElem?_eq_some_iff.1 hb;have hsz:(ByteArray.mk s.toArray).size=s.length:=by simp[ByteArray.size]
     refine nd.pure h (v:=.int .u8 (b.toNat:Int)) ?_ rfl;have hu:=tb hT hj ha hc
     simp only[execOp,ho,hx,hi,Sem.run_bind,run_index_string w t _ k q hu];rw[dif_pos ⟨h0,by rw[hsz];omega⟩];have:(ByteArray.mk s.toArray)[q.toNat]'(by rw[hsz];omega)=b:=by rw[←hget];rfl
     simp[Result.andThen,this]
   · cases hb
 · exact hr.elim

theorem Da (h:nk w0 T N S g w a) {x:Option Operand} {d:Option Int} {l:Int} {L:List mF} (hr:(r7 (x.map S.eval) d).Runs (mG S.en) l L) :
 L=[]/\((x=none/\d=some l)\/∃y k,x=some y/\a.eval y=.int k l):=by
 cases x with
 | none =>
  cases d with
  | none=>exact hr.elim
  | some d=>obtain⟨rfl,rfl⟩:=hr;exact⟨rfl,.inl ⟨rfl,rfl⟩⟩
 | some y =>
  simp only[Option.map_some]at hr;cases hy:S.eval y with
  | agg _=>rw[hy]at hr;exact hr.elim
  | tup _=>rw[hy]at hr;exact hr.elim
  | cell c =>
   rw[hy]at hr;cases c<;>try exact hr.elim
   rename_i k n;obtain⟨rfl,rfl⟩:=hr;exact⟨rfl,.inr ⟨y,k,rfl,s5 h hy⟩⟩
theorem CA {t e:TypeId} (hu:P.underlying t=some (.slice e)) {n:Nat} (hs:∀w,(sizeOf e).run P w=.ok n w) {ad:Option Addr} {len cap:Nat} (hcap:len<=cap) {x y:Option Operand} {l r:Int}
 (hx:(x=none/\some (0:Int)=some l)\/∃z k,x=some z/\a.eval z=.int k l) (hy:(y=none/\some (len:Int)=some r)\/∃z k,y=some z/\a.eval z=.int k r)
 (h0:0<=l) (h1:l<=r) (h2:r<=len) :
 (Instr.sliceAt t (.slice ad len cap) (x.map a.eval) (y.map a.eval) none).run P w=.ok (sliced ad l.toNat r.toNat cap n) w:=by
 have he:P.elem t=e:=by simp[Program.elem,hu]
 have hu':P.underlying t=some (.slice (P.elem t)):=by rw[he];exact hu
 rw[run_sliceAt_slice w t _ _ _ _ hu'];rcases hx with ⟨rfl,e1⟩|⟨z,k,rfl,e1⟩<;>rcases hy with ⟨rfl,e2⟩|⟨z',k',rfl,e2⟩
 · cases e1;cases e2;simp only[Option.map_none,run_slice_all w t ad len cap hu',he,hs,Result.andThen];rfl
 · cases e1;simp only[Option.map_none,Option.map_some,e2,run_slice_h w t ad len cap hu' k' r h1 (by omega),he,hs,Result.andThen];rfl
 · cases e2;simp only[Option.map_none,Option.map_some,e1,run_slice_l w t ad len cap hu' k l h0 h1,he,hs,Result.andThen];rfl
 · simp only[Option.map_some,e1,e2,run_slice_lh w t ad len cap hu' k k' l r h0 h1 (by omega),he,hs,Result.andThen]
theorem C8 {t:TypeId} (hu:P.underlying t=some .string) {s:List UInt8} {x y:Option Operand} {l r:Int}
 (hx:(x=none/\some (0:Int)=some l)\/∃z k,x=some z/\a.eval z=.int k l) (hy:(y=none/\some (s.length:Int)=some r)\/∃z k,y=some z/\a.eval z=.int k r)
 (h0:0<=l) (h1:l<=r) (h2:r<=s.length) :
 (Instr.sliceAt t (.string ⟨s.toArray⟩) (x.map a.eval) (y.map a.eval) none).run P w=.ok (.string ⟨((s.take r.toNat).drop l.toNat).toArray⟩) w:=by
 have hsz:(ByteArray.mk s.toArray).size=s.length:=by simp[ByteArray.size]
 have hext:∀p q:Nat,p<=q->q<=s.length->(ByteArray.mk s.toArray).extract p q=⟨((s.take q).drop p).toArray⟩:=by
  intro p q hp hq;apply ByteArray.ext;apply Array.ext';simp[ByteArray.data_extract,List.extract_eq_take_drop,List.drop_take]
 have er:(r.toNat:Int)=r:=Int.toNat_of_nonneg (by omega);have el:(l.toNat:Int)=l:=Int.toNat_of_nonneg h0
 rw[run_sliceAt_string w t _ _ _ _ hu];rcases hx with ⟨rfl,e1⟩|⟨z,k,rfl,e1⟩<;>rcases hy with ⟨rfl,e2⟩|⟨z',k',rfl,e2⟩
 · cases e1;cases e2;simp only[Option.map_none,run_slice_string_all w t _ hu,hsz];rw[hext 0 s.length (by omega) (by omega)];simp
 · cases e1;simp only[Option.map_none,Option.map_some,e2,run_slice_string_h w t _ hu k' r h1 (by rw[hsz];exact h2)];rw[hext 0 r.toNat (by omega) (by omega)];rfl
 · cases e2;simp only[Option.map_none,Option.map_some,e1,run_slice_string_l w t _ hu k l h0 (by rw[hsz];exact h1),hsz];rw[hext l.toNat s.length (by omega) (by omega)];simp
 · simp only[Option.map_some,e1,e2,Instr.slice,Sem.run_bind,run_underlying hu,Result.andThen,Instr.sliceBounds,run_sliceBound w k' r _ _ (show 0<=r by omega) (show r<=((ByteArray.mk s.toArray).size:Int) by rw[hsz];exact h2)];simp[hsz,run_sliceBound,h0,h1,h2,er,el,hext l.toNat r.toNat (by omega) (by omega),show 0<=r by omega]
theorem B5 {α:Type} {xs ys:List α} {l r:Int} (h:cut xs l r=some ys):0<=l/\l<=r/\r<=xs.length/\ys=(xs.take r.toNat).drop l.toNat:=by
 unfold cut at h;split at h
 · split at h
   · split at h
     · cases h;exact⟨by assumption,by assumption,by assumption,rfl⟩
     · cases h
   · cases h
 · cases h
theorem Db {n:Nat} {p:Nat×Nat} {l r:Int} (h:vY n l r=some p):0<=l/\l<=r/\r<=n/\p=(l.toNat,r.toNat):=by
 unfold vY at h;split at h
 · split at h
   · split at h
     · cases h;exact⟨by assumption,by assumption,by assumption,rfl⟩
     · cases h
   · cases h
 · cases h
theorem rz {β:Type} (h:nk w0 T N S g w a) {x:Option Operand} {d:Option Int} {k:Int->Rd β} {b:β} {L:List mF} (hr:((r7 (x.map S.eval) d).bind k).Runs (mG S.en) b L) :
 ∃l L',((x=none/\d=some l)\/∃y k,x=some y/\a.eval y=.int k l)/\(k l).Runs (mG S.en) b L':=by
 obtain⟨l,L1,L2,_,h1,h2⟩:=Rd.runs_bind hr;exact⟨l,L2,(Da h h1).2,h2⟩
theorem EY (h:nk w0 T N S g w a) (hT:oG P G.ti) {t:TypeId} {x:Operand} {lo hi:Option Operand} (ho:o.op=.slice t x lo hi none) {e:nu} {L:List mF} (hr:(pc G uid S.eval (.slice t x lo hi none)).Runs (mG S.en) e L):nd P w0 T N S g w a o e:=by
 replace hr:=np hr;obtain⟨j,hj,hr⟩:=hr;have hx:=nx h x
 have shared:∀{f:Cs},j.agg=false->j.cs=.one (.sl f)->∀(ys:List f.den) (F:List Nat) (L:List mF),CT.Rep w (.sl f) ys (a.eval x) F->(∀b∈F,g.I b) ->
  ((r7 (lo.map S.eval) (some 0)).bind λl=>(r7 (hi.map S.eval) (some ys.length)).bind λh=>.opt (cut ys l h) λr=>one (.sh f r)).Runs (mG S.en) e L->nd P w0 T N S g w a o e:=by
  intro f ha hc ys F L hF hI hr;obtain⟨hu,j',d,u,z,_,hjc,hf⟩:=qx hT hj ha hc;have hs:∀w,(sizeOf j.elem).run P w=.ok f.len w:=λw=>by rw[←hjc];exact hf.size_run w
  obtain⟨l,L1,hl,hr⟩:=rz h hr;obtain⟨r,L2,hr',hr⟩:=rz h hr;obtain⟨zs,hz,hr⟩:=hr;obtain⟨rfl,_⟩:=hr;obtain⟨h0,h1,h2,rfl⟩:=B5 hz;obtain⟨ad,cap,hv⟩:=pO hF;rw[oM,hv]at hF;have hcap:ys.length<=cap:=by
   rcases hF with ⟨e,rfl,_⟩|⟨_,_,_,_,_,e,_,h,_⟩
   · simp
   · cases e;exact h
  refine nd.pure h (v:=sliced ad l.toNat r.toNat cap f.len) ?_ ?_
  · simp only[execOp,ho,hv,Option.map_none,Sem.run_bind,CA hu hs hcap hl hr' h0 h1 h2,Result.andThen,Sem.run_pure]
  · obtain⟨F',hF',hs'⟩:=hF.cut (lo:=l.toNat) (hi:=r.toNat) (by omega) (by omega);exact⟨F',oM.2 hF',λb hb=>hI b (hs' b hb)⟩
 unfold w3 at hr;split at hr
 · rename_i s ha hc e1;rw[e1]at hx;have hx:a.eval x=.string ⟨s.toArray⟩:=hx
   obtain⟨l,L1,hl,hr⟩:=rz h hr;obtain⟨r,L2,hr',hr⟩:=rz h hr;obtain⟨zs,hz,hr⟩:=hr;obtain⟨rfl,_⟩:=hr;obtain⟨h0,h1,h2,rfl⟩:=B5 hz;refine nd.pure h (v:=.string ⟨((s.take r.toNat).drop l.toNat).toArray⟩) ?_ rfl;simp only[execOp,ho,hx,Option.map_none,Sem.run_bind,C8 (tb hT hj ha hc) hl hr' h0 h1 h2,Result.andThen,Sem.run_pure]
 · rename_i f f' ys ha hc e1;cases hsm:nF f' f with
   | false=>rw[hsm]at hr;exact hr.elim
   | true =>
    rw[hsm]at hr;obtain rfl:=oS hsm;rw[e1]at hx;obtain⟨F,hF,hI⟩:=hx;exact shared ha hc ys F L hF hI hr
 · rename_i f r ha hc e1;rw[e1]at hx;obtain⟨L',rfl,hr⟩:=hr;cases hn:mG S.en r with
   | none=>rw[hn]at hr;exact hr.elim
   | some E =>
    rw[hn]at hr;cases E with
    | tree=>exact hr.elim
    | pop _ _=>exact hr.elim
    | frz=>exact hr.elim
    | gone=>exact hr.elim
    | box _=>exact hr.elim
    | fwd f' ys =>
     simp only at hr;cases hsm:nF f' f with
     | false=>rw[hsm]at hr;exact hr.elim
     | true =>
      rw[hsm]at hr;obtain rfl:=oS hsm;obtain⟨F,hF,hI⟩:=h.mem.rep r _ hn;obtain⟨_,hx⟩:=hx;rw[←hx]at hF;exact shared ha hc ys F L' hF hI hr
    | root f' m ys =>
     simp only at hr;cases hsm:nF f' f with
     | false=>rw[hsm]at hr;exact hr.elim
     | true =>
      rw[hsm]at hr;obtain rfl:=oS hsm;obtain⟨hu,j',d,u,z,_,hjc,hf⟩:=qx hT hj ha hc;have hs:∀w,(sizeOf j.elem).run P w=.ok f'.len w:=λw=>by rw[←hjc];exact hf.size_run w
      obtain⟨l,L1,hl,hr⟩:=rz h hr;obtain⟨r',L2,hr',hr⟩:=rz h hr;obtain⟨p,hp,hr⟩:=hr;obtain⟨rfl,_⟩:=hr;obtain⟨h0,h1,h2,rfl⟩:=Db hp;obtain⟨he,hrt,_⟩:=nX h.mem hn;obtain⟨hd,hv⟩:=hx;obtain⟨ad,cap,hloc⟩:=hrt.shape;have hcap:ys.length<=cap:=by
       rcases hrt with ⟨e,rfl,_⟩|⟨_,_,_,_,_,e,_,h,_⟩
       · simp
       · rw[hloc]at e;cases e;exact h
      refine nd.pure h (v:=sliced ad l.toNat r'.toNat cap f'.len) ?_ ⟨hd,by simp only;omega,ad,_,cap,hloc,by simp only;omega,by rw[he];rfl⟩;simp only[execOp,ho,hv,hloc,Option.map_none,Sem.run_bind,CA hu hs hcap hl hr' h0 h1 h2,Result.andThen,Sem.run_pure]
 · exact hr.elim

theorem sn (hT:oG P G.ti) {t:TypeId} (h:ra G t=true):P.underlying t=some (.int .u8):=by
 unfold ra at h;split at h
 · rename_i j hj;split at h
   · rename_i ha hc;exact Ac hT hj ha hc
   · cases h
 · cases h
theorem wL {w:World}:∀{xs:List Int} {vs:List Value} {F:List Nat},mS 1 (Cs.Rep w (.one (.int .u8))) xs vs F->vs=xs.map (Value.int .u8)
 | [],_,_,h=>h.1
 | x::xs,_,_,h=>by
  obtain⟨v1,v2,F1,F2,rfl,h1,rfl,hr,h⟩:=h;simp only[Cs.Rep,CT.Rep]at hr;obtain⟨v,rfl,rfl,_⟩:=hr;rw[wL h];rfl
theorem vF {w:World}:∀(s:List UInt8),mS 1 (Cs.Rep w (.one (.int .u8))) (vp s) (s.map λb=>Value.int .u8 (b.toNat:Int)) []
 | []=>⟨rfl,rfl⟩
 | b::s=>by
  refine⟨[.int .u8 (b.toNat:Int)],s.map λb=>Value.int .u8 (b.toNat:Int),[],[],rfl,rfl,rfl,?_,vF s⟩;simp only[Cs.Rep,CT.Rep];exact⟨_,rfl,rfl,trivial⟩
theorem rV {b off:Nat} {vs:List Value} (h:row w b off vs) (j:Nat) (v:Value) (hv:vs[j]?=some v):w.cell? ⟨b,off+j,none⟩=some v:=by
 obtain⟨c,t,fz,hc,hr⟩:=h;have hj:j<vs.length:=(List.getElem?_eq_some_iff.1 hv).1
 have:((c.toList.drop off).take vs.length)[j]?=some v:=by rw[hr];exact hv
 rw[List.getElem?_take_of_lt hj,List.getElem?_drop]at this;simp only[World.cell?,hc];simpa using this
theorem B6 (w:World) (src e:TypeId) (hs:P.underlying src=some (.slice e)) (he:P.underlying e=some (.int .u8)) (ad:Addr):∀dst,P.underlying dst=some .string->(convert src dst (.slice (some ad) 0 0)).run P w=.ok (.string ⟨#[]⟩) w:=by
 intro dst hd;have hl:(loadCells ad 0).run P w=.ok #[] w:=run_loadCells_list (P:=P) w ad [] (λj v hj=>by simp at hj)
 rw[run_convert_bytes_string w src dst e _ 0 0 hs he hd];simp[Conv.bytesToString,hl,Result.andThen];rfl
theorem EZ {e:Cs} {xs:List e.den} {v:Value} {F:List Nat} (h:CT.Rep w (.sl e) xs v F) :
 ((∃a,v=.slice a 0 0)/\xs=[])\/∃b off cap vs F',v=.slice (some ⟨b,off,none⟩) xs.length cap/\row w b off vs/\mS e.len (Cs.Rep w e) xs vs F':=by
 rw[oM]at h;rcases h with ⟨⟨a,rfl⟩,rfl,rfl⟩|⟨b,off,cap,vs,F',rfl,rfl,_,_,hr,hL⟩
 · exact .inl ⟨⟨a,rfl⟩,rfl⟩
 · exact .inr ⟨b,off,cap,vs,F',rfl,hr,hL⟩
theorem p8 {v:AV} {news olds:List (mF×Entry)} {e:nu} {F:mF->Option Entry} {L:List mF} (hr:(r9 v news olds).Runs F e L) :
 e=⟨v,news++olds⟩/\mP news=true/\∀p∈news,F p.1=none:=by
 obtain⟨_,L1,L2,_,h1,h2⟩:=Rd.runs_bind hr;obtain⟨_,L3,L4,_,h3,h4⟩:=Rd.runs_bind h2;obtain⟨rfl,_⟩:=h4;exact⟨rfl,(Rd.runs_need h1).1,Rd.runs_fresh h3⟩
structure zP (w0:World) (T:Nat->Prop) (en:List (mF×Entry)) (g:Gh) (b:Nat):Prop where
 imm:¬g.I b
 top:∀m f,mG en m=some f->f.alive=true->g.top m≠some b
 own:w0.heap.size<=b\/T b
 wood:∀m f,mG en m=some f->f.isTree=true->b∉g.nest m
theorem MS.free {en:List (mF×Entry)} (h:MS w0 T N en g w):zP w0 T en g w.heap.size :=
 ⟨λhI=>Nat.lt_irrefl _ (h.mem.old _ hI),λm f hm ha hb=>Nat.lt_irrefl _ ((h.mem.rep m f hm).top_lt ha hb),.inl h.since.size,λm f hm ht hb=>Nat.lt_irrefl _ (qh (h.mem.rep m f hm) ht hb)⟩
theorem MS.root {en:List (mF×Entry)} (h:MS w0 T N en g w) {n:mF} {e:Cs} {m:Bool} {xs:List e.den} {b off cap:Nat} {us vs:List Value} {F:List Nat} (hn:mG en n=none) (hb:zP w0 T en g b)
 (hcap:xs.length<=cap) (hown:nG w b us) (hsize:off+cap*e.len<=us.length) (hrow:(us.drop off).take vs.length=vs) (hL:mS e.len (Cs.Rep w e) xs vs F) (hF:∀b∈F,g.I b)
 (hm:m=true->F.Nodup/\∀b∈F,(∀k f,mG en k=some f->f.deep=true->b∉g.nest k)/\(w0.heap.size<=b\/T b\/N b)) :
 MS w0 T N ((n,.root e m xs)::en) (g.set n ⟨.slice (some ⟨b,off,none⟩) xs.length cap,e.len,some b,F⟩) w /\
  Le (dom en) g w (dom ((n,.root e m xs)::en)) (g.set n ⟨.slice (some ⟨b,off,none⟩) xs.length cap,e.len,some b,F⟩) w:=by
 refine h.put (λhd=>absurd hn hd) rfl ?_ (λ_ c hc=>?_) (λhd c hc=>?_)
 · refine⟨by simp[Gh.set],.inr ⟨b,off,cap,us,vs,by simp[Gh.set],by simp[Gh.set],hcap,hown,hsize,hrow,by simpa[Gh.set]using hL⟩,by simpa[Gh.set]using hF,λhm'=>by simpa[Gh.set]using (hm hm').1⟩
 · cases hc;exact⟨hb.imm,λm f _=>hb.top m f,hb.own,λm f _=>hb.wood m f⟩
 · have:=(hm hd).2 c hc;exact⟨λm f _=>this.1 m f,this.2⟩
theorem C9 (h:nk w0 T N S g w a) (hT:oG P G.ti) {s d:TypeId} {x:Operand} (ho:o.op=.convert s d x) {e:nu} {L:List mF} {j i:n7} (hj:mG G.ti s=some j) (hi:mG G.ti d=some i) (hr:(se uid j (ra G j.elem) i (ra G i.elem) (S.eval x)).Runs (mG S.en) e L):nd P w0 T N S g w a o e:=by
 have hx:=nx h x;have hsrc:∃u,P.underlying s=some u:=by obtain⟨_,u,_,hf⟩:=hT.facts hj;exact⟨u,hf.und⟩
 obtain⟨us,hus⟩:=hsrc;unfold se at hr;split at hr
 · rename_i k k' n ha hc e1;rw[e1]at hx;have hx:a.eval x=.int k' n:=hx
   obtain⟨rfl,_⟩:=hr;have hd:=Ac hT hi ha hc
   refine nd.pure h (v:=.int k (k.wrap n)) ?_ rfl;simp[execOp,ho,hx,convert,run_underlying hus,run_underlying hd,Conv.intToInt]
 · rename_i z ha hc e1;rw[e1]at hx;have hx:a.eval x=.string ⟨z.toArray⟩:=hx
   obtain⟨rfl,_⟩:=hr;have hd:=tb hT hi ha hc
   refine nd.pure h (v:=.string ⟨z.toArray⟩) ?_ rfl;simp[execOp,ho,hx,convert,run_underlying hus,run_underlying hd]
 · rename_i c hne ha hc e1;rw[e1]at hx;split at hr
   · rename_i hja hjc;cases hb:ra G j.elem with
     | false=>rw[hb]at hr;exact hr.elim
     | true =>
      rw[hb]at hr;obtain⟨xs,L1,L2,_,h1,h2⟩:=Rd.runs_bind hr;obtain⟨rfl,_⟩:=h2;obtain⟨F,hF,_⟩:=vc h.mem (u0 hx) h1;obtain⟨hu,_⟩:=qx hT hj hja hjc;have hd:=tb hT hi ha hc
      refine nd.pure h (v:=.string ⟨(qV xs).toArray⟩) ?_ rfl;rcases EZ hF with ⟨⟨ad,hv⟩,rfl⟩|⟨b,off,cap,vs,F',hv,hrow,hL⟩
      · cases ad with
        | some ad =>
         simp only[execOp,ho,hv,Sem.run_bind];rw[B6 w s j.elem hu (sn hT hb) ad d hd];rfl
        | none =>
        simp only[execOp,ho,hv,Sem.run_bind,run_convert_bytes_nil w s j.elem hu (sn hT hb) 0 0 d hd,Result.andThen,Sem.run_pure];rfl
      · have hvs:=wL hL;simp only[execOp,ho,hv,Sem.run_bind];rw[run_convert_bytes_arg w s j.elem hu (sn hT hb) b off _ cap xs rfl (λq hq=>?_) d hd]
        · simp[Result.andThen,strOfNums,qV]
        · have:vs[q]?=some (.int .u8 (xs.getD q 0)):=by rw[hvs];simp[List.getElem?_eq_getElem hq,List.getD]
          exact rV hrow q _ this
   · exact hr.elim
 · rename_i z ha hc e1;rw[e1]at hx;have hx:a.eval x=.string ⟨z.toArray⟩:=hx
   split at hr
   · rename_i hja hjc;cases hb:ra G i.elem with
     | false=>rw[hb]at hr;exact hr.elim
     | true =>
      rw[hb]at hr;obtain⟨rfl,_,hnew⟩:=p8 hr;obtain⟨hu,_⟩:=qx hT hi ha hc;have hs:=tb hT hj hja hjc
      have hn:mG S.en uid=none:=hnew _ (mem_singleton.2 rfl);have hsz:(ByteArray.mk z.toArray).size=z.length:=by simp[ByteArray.size]
      obtain⟨hM,hle⟩:=h.ms.world (w':=Lib.bytesWorld w i.elem ⟨z.toArray⟩) (λb hb=>Lib.bytesWorld_at_old w i.elem _ b (h.mem.old b hb)) (λn e b hn ha hb=>Lib.bytesWorld_at_old w i.elem _ b ((h.mem.rep n e hn).top_lt ha hb)) rfl rfl rfl (by rw[Lib.bytesWorld_size];omega) (λb hb _=>Lib.bytesWorld_at_old w i.elem _ b (Nat.lt_of_lt_of_le hb h.since.size))
       (λn e b hn ht hb=>Lib.bytesWorld_at_old w i.elem _ b (qh (h.mem.rep n e hn) ht hb)) (h.ms.softs (λb hb=>Lib.bytesWorld_at_old w i.elem _ b hb) λb hb=>by
        rcases Nat.eq_or_lt_of_le hb with rfl|hlt
        · exact (show nG _ _ _ from⟨_,_,_,_,Lib.bytesWorld_at_new w i.elem _,rfl,by omega,λo ho=>by omega⟩).soft
        · intro c t lo hi hc;have:=ta hc
          rw[Lib.bytesWorld_size]at this;omega)
      have hge:=grownCap_ge w z.length 0 i.elem;have hcs:(Lib.bytesCells w i.elem ⟨z.toArray⟩).toList=(z.map λb=>Value.int .u8 (b.toNat:Int))++List.replicate (grownCap w z.length 0 i.elem-z.length) (.int .u8 0):=by
       simp[Lib.bytesCells,hsz]
      obtain⟨hM2,hle2⟩:=hM.root (n:=uid) (e:=.one (.int .u8)) (m:=true) (xs:=vp z) (b:=w.heap.size) (off:=0) (cap:=grownCap w z.length 0 i.elem) (us:=(Lib.bytesCells w i.elem ⟨z.toArray⟩).toList) (vs:=z.map λb:UInt8=>Value.int .u8 (b.toNat:Int)) (F:=[]) hn h.ms.free
       (by simpa[vp]using hge) ⟨_,_,_,_,Lib.bytesWorld_at_new w i.elem _,rfl,by omega,λo ho=>by omega⟩ (by rw[hcs];simp[Cs.len];omega) (by rw[hcs];simp) (vF z) (by simp) (by simp)
      refine⟨.slice (some ⟨w.heap.size,0,none⟩) z.length (grownCap w z.length 0 i.elem),Lib.bytesWorld w i.elem ⟨z.toArray⟩,_,.inl ?_,hM2,hle.trans hle2,⟨nJ.2 (.inl rfl),by simp[Gh.set,vp]⟩⟩;simp only[execOp,ho,hx,Sem.run_bind,Lib.run_convert_string_bytes w s d i.elem _ hs hu (sn hT hb),Result.andThen,Sem.run_pure,hsz]
   · exact hr.elim
 · exact hr.elim
end Go.V
namespace Go.V
variable {P:Program} {w0:World} {T N:Nat->Prop} {en:List (mF×Entry)} {g:Gh} {w:World}

theorem ne {α:Type}:∀{l m:List (Nat×α)} {n:Nat},n∉l.map (·.1)->mG (l++m) n=mG m n
 | [],_,_,_=>rfl
 | (j,x)::l,m,n,h=>by
  simp only[map_cons,mem_cons,not_or]at h;rw[List.cons_append,ni (Ne.symm h.1),ne h.2]
theorem pw {α:Type}:∀{l m:List (Nat×α)} {n:Nat},n∈l.map (·.1)->mG (l++m) n=mG l n
 | [],_,_,h=>by simp at h
 | (j,x)::l,m,n,h=>by
  rw[List.cons_append,mR,mR];split
  · rfl
  · rename_i hne;simp only[map_cons,mem_cons]at h;exact pw (h.resolve_left λe=>hne e.symm)
theorem p9 {α:Type}:∀{l:List (Nat×α)} {n:Nat},n∈l.map (·.1)↔mG l n≠none
 | [],n=>by simp[mG]
 | (j,x)::l,n=>by
  rw[mR];split
  · rename_i h;simp[h]
  · rename_i h;simp only[map_cons,mem_cons];rw[←p9 (l:=l)];exact⟨λk=>k.resolve_left λe=>h e.symm,.inr⟩
theorem o0 {n:mF} {e:Entry} {l:List (mF×Entry)} (h:mP ((n,e)::l)=true):n∉l.map (·.1)/\mP l=true:=by
 simp only[mP]at h;cases hk:l.any λp=>Nat.beq p.1 n with
 | true=>rw[hk]at h;simp at h
 | false =>
  rw[hk]at h;refine⟨λhm=>?_,h⟩;obtain⟨p,hp,rfl⟩:=List.mem_map.1 hm;have:=List.any_eq_false.1 hk p hp
  simp at this
theorem oX {p:mF×Entry}:∀{l:List (mF×Entry)},mP l=true->p∈l->mG l p.1=some p.2
 | [],_,h=>by simp at h
 | (n,e)::l,hd,h=>by
  obtain⟨h1,h2⟩:=o0 hd;rcases mem_cons.1 h with rfl|h
  · exact p7 _ _ _
  · have:n≠p.1:=λe=>h1 (e▸mem_map_of_mem h);rw[ni this];exact oX h2 h
theorem nq {α:Type} (l m:List (Nat×α)) (n:Nat):mG (l++m) n=match mG l n with|some x=>some x|none=>mG m n:=by
 induction l with
 | nil=>rfl
 | cons p l ih =>
  obtain⟨j,x⟩:=p;rw[List.cons_append,mR,mR];split
  · rfl
  · exact ih
theorem pd (l en:List (mF×Entry)):∀n,dom en n->dom (l++en) n:=λn h=>by
 unfold dom at h ⊢;rw[nq];cases mG l n<;>simp[h]
theorem pz {l m:List (mF×Entry)} {n:mF} (h:dom l n):dom (l++m) n:=by
 unfold dom at h ⊢;rw[nq];cases hf:mG l n with
 | none=>exact absurd hf h
 | some x=>simp
theorem nz {α:Type} {l:List (Nat×α)} {n:Nat} {x:α} (h:mG l n=some x):(n,x)∈l:=sM h
theorem nH:∀{l m:List (mF×Entry)},mP (l++m)=true->mP l=true/\mP m=true/\∀n∈l.map (·.1),n∉m.map (·.1)
 | [],_,h=>⟨rfl,h,by simp⟩
 | (n,e)::l,m,h=>by
  obtain⟨h1,h2⟩:=o0 (l:=l++m) h;obtain⟨k1,k2,k3⟩:=nH h2;simp only[List.map_append,mem_append,not_or]at h1;refine⟨?_,k2,λx hx=>?_⟩
  · simp only[mP];have:(l.any λp=>Nat.beq p.1 n)=false:=by
     rw[List.any_eq_false];intro p hp he;exact h1.1 ((Nat.eq_of_beq_eq_true he)▸mem_map_of_mem hp)
    rw[this];exact k1
  · rcases mem_cons.1 hx with rfl|hx
    · exact h1.2
    · exact k3 x hx

theorem MS.useAll (h:MS w0 T N en g w):∀{used:List (mF×Entry)},nb en false true used->mP used=true ->
 ∃g',MS w0 T N (used++en) g' w/\Le (dom en) g w (dom (used++en)) g' w/\g'.loc=g.loc/\g'.esz=g.esz/\g'.top=g.top/\g'.nest=g.nest/\(∀b,g'.I b↔g.I b\/qA en g b (used.map (·.1)))
 | [],_,_=>⟨g,h,Le.refl _ _ _,rfl,rfl,rfl,rfl,λb=>⟨.inl,λk=>k.elim id λ⟨n,hn,_⟩=>by simp at hn⟩⟩
 | (n,E)::used,hu,hd=>by
  obtain⟨h1,h2⟩:=o0 hd;obtain⟨g1,hM,hle,e1,e2,e3,e4,hI⟩:=h.useAll (used:=used) (λp hp=>hu p (mem_cons_of_mem _ hp)) h2;obtain⟨e,m,xs,hn,_,he⟩|⟨_,e,xs,hn,he⟩:=hu (n,E) mem_cons_self
  rotate_left
  · obtain rfl:E=.fwd e xs:=he;obtain⟨hM2,hle2⟩:=hM.fwdZ (n:=n) ((ne h1).trans hn);refine⟨g1,hM2,hle.trans hle2,e1,e2,e3,e4,λb=>(hI b).trans ⟨λk=>k.imp id λk=>k.mono λ_ hx=>mem_cons_of_mem _ hx,?_⟩⟩;rintro (k|⟨x,hx,k⟩)
    · exact .inl k
    · rcases mem_cons.1 hx with rfl|hx
      · obtain⟨f,hf,ha,_⟩:=k;rw[show mG en x=_ from hn]at hf;cases hf;cases ha
      · exact .inr ⟨x,hx,k⟩
  obtain rfl:E=.fwd e xs:=he;obtain⟨g2,hM2,hle2,f1,f2,f3,f4,hI2⟩:=hM.fwd (n:=n) ((ne h1).trans hn);refine⟨g2,hM2,hle.trans hle2,f1.trans e1,f2.trans e2,f3.trans e3,f4.trans e4,λb=>?_⟩;rw[hI2,hI,e3];constructor
  · rintro ((k|k)|k)
    · exact .inl k
    · exact .inr (k.mono λ_ hx=>mem_cons_of_mem _ hx)
    · exact .inr ⟨n,mem_cons_self,_,hn,rfl,k⟩
  · rintro (k|⟨x,hx,k⟩)
    · exact .inl (.inl k)
    · rcases mem_cons.1 hx with rfl|hx
      · obtain⟨f,_,_,hb⟩:=k;exact .inr hb
      · exact .inl (.inr ⟨x,hx,k⟩)
theorem MS.useGone (h:MS w0 T N en g w):∀{used:List (mF×Entry)},(∀p∈used,dom en p.1/\p.2=.gone)->MS w0 T N (used++en) g w/\Le (dom en) g w (dom (used++en)) g w
 | [],_=>⟨h,Le.refl _ _ _⟩
 | (n,E)::used,hu=>by
  obtain⟨hM,hle⟩:=h.useGone (used:=used) λp hp=>hu p (mem_cons_of_mem _ hp);obtain⟨hn,he⟩:=hu (n,E) mem_cons_self;obtain rfl:E=.gone:=he;obtain⟨hM2,hle2⟩:=hM.gone (n:=n) (hle.dom n hn);exact⟨hM2,hle.trans hle2⟩

theorem mS.set2 {α:Type} {n:Nat} {R:α->List Value->List Nat->Prop}:∀{xs:List α} {vs:List Value} {F:List Nat} {i:Nat} {x:α},mS n R xs vs F->xs[i]?=some x ->
 ∃G1 Gi G2,F=G1++Gi++G2/\R x ((vs.drop (i*n)).take n) Gi/\∀(R':α->List Value->List Nat->Prop) y Gj,(∀x v G,(∀b∈G,b∈G1++G2)->R x v G->R' x v G)->R' y ((vs.drop (i*n)).take n) Gj->mS n R' (xs.set i y) vs (G1++Gj++G2)
 | [],_,_,i,x,_,hx=>by simp at hx
 | z::xs,_,_,0,x,h,hx=>by
  obtain⟨v1,v2,F1,F2,rfl,h1,rfl,hr,h⟩:=h;obtain rfl:z=x:=by simpa using hx
  subst h1;have e:((v1++v2).drop (0*v1.length)).take v1.length=v1:=by simp
  rw[e];refine⟨[],F1,F2,rfl,hr,λR' y Gj hi hy=>?_⟩;exact⟨v1,v2,Gj,F2,rfl,rfl,by simp,hy,h.imp λx v G _ hG hr=>hi x v G (by simpa using hG) hr⟩
 | z::xs,_,_,i+1,x,h,hx=>by
  obtain⟨v1,v2,F1,F2,rfl,h1,rfl,hr,h⟩:=h;obtain⟨G1,Gi,G2,rfl,k1,k2⟩:=h.set2 (i:=i) (x:=x) (by simpa using hx);have e:((v1++v2).drop ((i+1)*n)).take n=(v2.drop (i*n)).take n:=by
   rw[List.drop_append,drop_of_length_le (by rw[h1,Nat.add_mul];omega),List.nil_append]
   congr 2
   rw[h1,Nat.add_mul];omega
  rw[e];refine⟨F1++G1,Gi,G2,by simp,k1,λR' y Gj hi hy=>?_⟩;exact⟨v1,v2,F1,G1++Gj++G2,rfl,h1,by simp,hi z v1 F1 (λb hb=>by simp[hb]) hr,k2 R' y Gj (λx v G hG hr=>hi x v G (λb hb=>by
   have:=hG b hb;simp only[mem_append]at this ⊢;rcases this with h|h<;>simp[h]) hr) hy⟩
theorem CT.frz_put (h:MS w0 T N en g w) {c:CT} {x:c.den} {v:Value} {F:List Nat} {n:mF} (hg:CT.Rep w c x v F) (hI:∀b∈F,g.I b) (hnd:F.Nodup)
 (hap:∀b∈F,(∀m f,mG en m=some f->f.deep=true->b∉g.nest m)/\(w0.heap.size<=b\/T b\/N b)) (hn:∀p∈(c.giveF n x).2,mG en p.1=none) :
 ∃g',MS w0 T N ((c.giveF n x).2++en) g' w/\Le (dom en) g w (dom ((c.giveF n x).2++en)) g' w/\g'.I=g.I/\(∀m,dom en m->g'.nest m=g.nest m)/\(∀p∈(c.giveF n x).2,p.1=n/\∀b∈g'.nest p.1,b∈F)/\mJ (dom ((c.giveF n x).2++en)) g' w (c.giveF n x).1 v:=by
 cases c with
 | sl e =>
  have hn':mG en n=none:=hn (n,.frz e x) (by simp[CT.giveF]);have hone:v.oneCell'=true:=by obtain⟨ad,cap,rfl⟩:=pO hg;rfl
  obtain⟨hM,hle⟩:=h.put (n:=n) (e:=.frz e x) (i:=⟨v,e.len,none,F⟩) (λhd=>absurd hn' hd) hone
   ⟨by simp[Gh.set],by simp[Gh.set],by show CT.Rep w (.sl e) x (if n=n then v else g.loc n) (if n=n then F else g.nest n);rw[if_pos rfl,if_pos rfl];exact hg,by simpa[Gh.set]using hI,by simpa[Gh.set]using hnd⟩
   (λha=>by cases ha)
   (λhdp b hb=>⟨λm f _ hm hd=>(hap b hb).1 m f hm hd,(hap b hb).2⟩)
  refine⟨_,hM,hle,rfl,λm hm=>?_,λp hp=>?_,nJ.2 (.inl rfl),?_⟩
  · have:m≠n:=λe=>hm (e▸hn');simp[Gh.set,this]
  · simp only[CT.giveF,mem_singleton]at hp;subst hp;exact⟨rfl,λb hb=>by simpa[Gh.set]using hb⟩
  · show v=(if n=n then v else g.loc n);rw[if_pos rfl]
 | int k=>exact⟨g,h,Le.refl _ _ _,rfl,λ_ _=>rfl,(λp hp=>by simp[CT.giveF]at hp),CT.cell_rep (c:=.int k) hg hI⟩
 | bool=>exact⟨g,h,Le.refl _ _ _,rfl,λ_ _=>rfl,(λp hp=>by simp[CT.giveF]at hp),CT.cell_rep (c:=.bool) hg hI⟩
 | str=>exact⟨g,h,Le.refl _ _ _,rfl,λ_ _=>rfl,(λp hp=>by simp[CT.giveF]at hp),CT.cell_rep (c:=.str) hg hI⟩
 | err=>exact⟨g,h,Le.refl _ _ _,rfl,λ_ _=>rfl,(λp hp=>by simp[CT.giveF]at hp),CT.cell_rep (c:=.err) hg hI⟩
theorem Cs.frz_put:{c:Cs}->{x:c.den}->{vs:List Value}->{F:List Nat}->{n:mF}->{en:List (mF×Entry)}->{g:Gh}->(h:MS w0 T N en g w)->(hg:Cs.Rep w c x vs F)->(hI:∀b∈F,g.I b)->(hnd:F.Nodup) ->
 (hap:∀b∈F,(∀m f,mG en m=some f->f.deep=true->b∉g.nest m)/\(w0.heap.size<=b\/T b\/N b))->(hn:∀p∈(Cs.giveF n c x).2,mG en p.1=none)->(hd:mP (Cs.giveF n c x).2=true) ->
 ∃g',MS w0 T N ((Cs.giveF n c x).2++en) g' w/\Le (dom en) g w (dom ((Cs.giveF n c x).2++en)) g' w/\g'.I=g.I/\(∀m,dom en m->g'.nest m=g.nest m)/\(∀p∈(Cs.giveF n c x).2,∀b∈g'.nest p.1,b∈F)/\mQ (mJ (dom ((Cs.giveF n c x).2++en)) g' w) (Cs.giveF n c x).1 vs
 | .one c,x,vs,F,n,en,g,h,hg,hI,hnd,hap,hn,hd=>by
  simp only[Cs.Rep]at hg;obtain⟨v,rfl,hg⟩:=hg;obtain⟨g',k1,k2,k3,k4,k5,k6⟩:=CT.frz_put h hg hI hnd hap hn;exact⟨g',k1,k2,k3,k4,λp hp=>(k5 p hp).2,k6,trivial⟩
 | .cons c r,x,vs,F,n,en,g,h,hg,hI,hnd,hap,hn,hd=>by
  simp only[Cs.Rep]at hg;obtain⟨v,vs',F1,F2,rfl,rfl,hg1,hg2⟩:=hg;obtain⟨d1,d2,d3⟩:=nH (l:=(c.giveF n x.1).2) (m:=(Cs.giveF (n+1) r x.2).2) hd;rw[nodup_append]at hnd;obtain⟨n1,n2,n3⟩:=hnd;obtain⟨g1,k1,k2,k3,k4,k5,k6⟩:=Cs.frz_put (n:=n+1) h hg2 (λb hb=>hI b (mem_append_right _ hb)) n2 (λb hb=>hap b (mem_append_right _ hb)) (λp hp=>hn p (mem_append_right _ hp)) d2;have hfr:∀p∈(c.giveF n x.1).2,mG ((Cs.giveF (n+1) r x.2).2++en) p.1=none:=λp hp=>by
   rw[ne (d3 p.1 (mem_map_of_mem hp))];exact hn p (mem_append_left _ hp)
  obtain⟨g2,l1,l2,l3,l4,l5,l6⟩:=CT.frz_put (n:=n) k1 hg1 (λb hb=>by rw[k3];exact hI b (mem_append_left _ hb)) n1 (λb hb=>by
   obtain⟨a1,a2⟩:=hap b (mem_append_left _ hb);refine⟨λm f hm hdp hbm=>?_,a2⟩;rw[nq]at hm;split at hm
   · rename_i y hy;exact n3 b hb b (k5 _ (nz hy) b hbm) rfl
   · rw[k4 m (by unfold dom;rw[hm];simp)]at hbm;exact a1 m f hm hdp hbm) hfr
  have e:(Cs.giveF n (.cons c r) x).2++en=(c.giveF n x.1).2++((Cs.giveF (n+1) r x.2).2++en):=List.append_assoc _ _ _;refine⟨g2,by rw[e];exact l1,by rw[e];exact k2.trans l2,l3.trans k3,λm hm=>(l4 m (pd _ _ m hm)).trans (k4 m hm),λp hp b hb=>?_,?_⟩
  · rcases mem_append.1 hp with hp|hp
    · exact mem_append_left _ ((l5 p hp).2 b hb)
    · rw[l4 p.1 (pz (p9.1 (mem_map_of_mem hp)))]at hb;exact mem_append_right _ (k5 p hp b hb)
  · rw[e];exact⟨l6,mQ.imp (λ_ _=>mJ.mono l2) k6⟩
abbrev so (l:List Nat):Prop:=∀b,l.count b<=1
theorem nR {l:List Nat}:so l↔l.Nodup:=List.nodup_iff_count.symm
theorem vG (h:oA en g w) {n:mF} {f:Entry} (hn:mG en n=some f) (hd:f.deep=true):(∀b∈g.nest n,g.I b)/\(g.nest n).Nodup/\(∀b,g.top n=some b->f.alive=true):=by
 cases f with
 | root e m xs=>obtain⟨_,_,hI,hnd⟩:=nX h hn;exact⟨hI,hnd hd,λ_ _=>rfl⟩
 | frz e xs=>obtain⟨_,ht,_,hI,hnd⟩:=h.rep n _ hn;exact⟨hI,hnd,λb hb=>by rw[ht]at hb;cases hb⟩
 | pop e ys=>have hp:=h.rep n _ hn;obtain⟨_,ht,_,hnd⟩:=hp;exact⟨FQ (h.rep n _ hn),hnd,λb hb=>by rw[ht]at hb;cases hb⟩
 | _=>cases hd
theorem yU (h:oA en g w) {n:mF} {f:Entry} (hn:mG en n=some f) (hd:f.deep=true):so (ol g n):=by
 obtain⟨hI,hnd,hal⟩:=vG h hn hd;rw[nR];unfold ol;rw[nodup_append];refine⟨by cases g.top n<;>simp,hnd,λa ha b hb hab=>?_⟩;subst hab;have ht:g.top n=some a:=by simpa using ha
 exact h.topI n _ a hn (hal a ht) ht (hI a hb)
theorem wa (h:oA en g w) {n m:mF} {e f:Entry} (hn:mG en n=some e) (he:e.deep=true) (hm:mG en m=some f) (hf:f.deep=true) (hnm:n≠m) {b:Nat} (hb:b∈ol g n):b∉ol g m:=by
 obtain⟨hIn,_,an⟩:=vG h hn he;obtain⟨hIm,_,am⟩:=vG h hm hf;intro hb';unfold ol at hb hb';rcases mem_append.1 hb with hb|hb<;>rcases mem_append.1 hb' with hb'|hb'
 · have t1:g.top n=some b:=by simpa using hb
   have t2:g.top m=some b:=by simpa using hb'
   exact hnm (h.apart n m _ _ b hn hm (an b t1) (am b t2) t1 t2)
 · have t1:g.top n=some b:=by simpa using hb
   exact h.topI n _ b hn (an b t1) t1 (hIm b hb')
 · have t2:g.top m=some b:=by simpa using hb'
   exact h.topI m _ b hm (am b t2) t2 (hIn b hb)
 · exact h.nests n m _ _ hn hm he hf hnm b hb hb'
theorem yV {used:List (mF×Entry)} {deep kp:Bool} (hu:nb en deep kp used) {p:mF×Entry} (hp:p∈used):dom en p.1:=by
 unfold dom;rcases hu p hp with ⟨e,m,xs,hn,_⟩|⟨_,e,xs,hn,_⟩<;>(rw[hn];simp)
theorem xV {used:List (mF×Entry)} {kp:Bool} (hu:nb en true kp used) {p:mF×Entry} (hp:p∈used):∃f,mG en p.1=some f/\f.deep=true:=by
 rcases hu p hp with ⟨e,m,xs,hn,hm,_⟩|⟨_,e,xs,hn,_⟩
 · exact⟨_,hn,hm rfl⟩
 · exact⟨_,hn,rfl⟩
theorem sq (h:oA en g w):∀{used:List (mF×Entry)} {kp:Bool},nb en true kp used->mP used=true->so ((used.map (·.1)).flatMap (ol g)) /\
 ∀n e,mG en n=some e->e.deep=true->n∉used.map (·.1)->∀b∈(used.map (·.1)).flatMap (ol g),b∉ol g n
 | [],_,_,_=>⟨by simp[so],by simp⟩
 | (n,E)::used,kp,hu,hd=>by
  obtain⟨h1,h2⟩:=o0 hd;obtain⟨k1,k2⟩:=sq h (used:=used) (kp:=kp) (λp hp=>hu p (mem_cons_of_mem _ hp)) h2;obtain⟨e,hn,hde⟩:=xV hu (mem_cons_self (a:=(n,E)));refine⟨?_,λx f hx hdx hxu b hb=>?_⟩
  · rw[nR]at k1 ⊢;simp only[map_cons,List.flatMap_cons,nodup_append];refine⟨nR.1 (yU h hn hde),k1,λa ha b hb hab=>?_⟩;subst hab;exact k2 n e hn hde h1 a hb ha
  · simp only[map_cons,mem_cons,not_or]at hxu;simp only[map_cons,List.flatMap_cons,mem_append]at hb;rcases hb with hb|hb
    · exact wa h hn hde hx hdx (Ne.symm hxu.1) hb
    · exact k2 x f hx hdx hxu.2 b hb
theorem tE (h:MS w0 T N en g w) {used:List (mF×Entry)} {kp:Bool} (hu:nb en true kp used) {b:Nat} (hb:b∈(used.map (·.1)).flatMap (ol g)) :
 (∀m f,mG en m=some f->f.deep=true->m∉used.map (·.1)->b∉g.nest m)/\(w0.heap.size<=b\/T b\/N b):=by
 obtain⟨n,hn,hb⟩:=List.mem_flatMap.1 hb;obtain⟨p,hp,rfl⟩:=List.mem_map.1 hn;obtain⟨E,hf,hde⟩:=xV hu hp;obtain⟨_,_,hal⟩:=vG h.mem hf hde;refine⟨λk f hk hd hku hbk=>?_,?_⟩
 · have hne:p.1≠k:=λe=>hku (e▸hn);exact wa h.mem hf hde hk hd hne hb (by unfold ol;exact mem_append_right _ hbk)
 · unfold ol at hb;rcases mem_append.1 hb with hb|hb
   · have ht:g.top p.1=some b:=by simpa using hb
     rcases h.since.tops p.1 _ b hf (hal b ht) ht with k|k
     · exact .inl k
     · exact .inr (.inl k)
   · exact h.since.nests p.1 _ b hf hde hb
theorem CB (h:oA en g w) {used:List (mF×Entry)} {deep kp:Bool} (hu:nb en deep kp used) {b:Nat} (hb:b∈(used.map (·.1)).flatMap (ol g)):g.I b\/qA en g b (used.map (·.1)):=by
 obtain⟨n,hn,hb⟩:=List.mem_flatMap.1 hb;obtain⟨p,hp,rfl⟩:=List.mem_map.1 hn;obtain⟨e,m,xs,hf,hm,_⟩|⟨_,e,xs,hf,_⟩:=hu p hp
 rotate_left
 · obtain⟨_,ht,_,hI,_⟩:=h.rep p.1 _ hf;unfold ol at hb;rw[ht]at hb;exact .inl (hI b (by simpa using hb))
 unfold ol at hb;rcases mem_append.1 hb with hb|hb
 · exact .inr ⟨p.1,hn,_,hf,rfl,by simpa using hb⟩
 · obtain⟨_,_,hI,_⟩:=nX h hf;exact .inl (hI b hb)

structure Dc (w w':World) (b:Nat) (us:List Value):Prop where
 cells:nG w' b us
 rest:∀c,c≠b->w'.heap[c]?=w.heap[c]?
 size:w'.heap.size=w.heap.size
 os:w'.os=w.os
 out:w'.output=w.output
 tape:w'.tape=w.tape
theorem qC {b:Nat}:∀(vs:List Value) (o:Nat) (w:World) (us:List Value),nG w b us->o+vs.length<=us.length->Dc w (w.setCells b o vs) b (us.take o++vs++us.drop (o+vs.length))
 | [],o,w,us,h,_=>⟨by simpa[World.setCells]using h,λ_ _=>rfl,rfl,rfl,rfl,rfl⟩
 | v::vs,o,w,us,h,hl=>by
  obtain⟨c,t,lo,hi,hc,rfl,hf⟩:=h;have hlt:o<c.size:=by simp at hl;omega
  have hb:b<w.heap.size:=by
   rcases Nat.lt_or_ge b w.heap.size with h|h
   · exact h
   · rw[Array.getElem?_eq_none h]at hc;cases hc
  have h1:nG (w.setCell ⟨b,o,none⟩ v) b (c.toList.set o v):=by
   refine⟨c.setIfInBounds o v,t,lo,hi,?_,by simp,by simpa using hf⟩;simp[World.setCell,Array.getElem?_modify,hc]
  obtain⟨k1,k2,k3,k4,k5,k6⟩:=qC vs (o+1) _ _ h1 (by simp at hl ⊢;omega);refine⟨?_,λx hx=>?_,?_,?_,?_,?_⟩
  · simp only[World.setCells];have e1:(c.toList.set o v).take (o+1)=c.toList.take o++[v]:=by
     have hc':o<c.toList.length:=by simpa using hlt
     rw[List.set_eq_take_append_cons_drop,if_pos hc',List.take_append,List.take_of_length_le (by rw[length_take];omega),length_take,Nat.min_eq_left (by omega),show o+1-o=1 by omega];rfl
    have e2:(c.toList.set o v).drop (o+1+vs.length)=c.toList.drop (o+(v::vs).length):=by
     rw[List.drop_set_of_lt (by omega)];congr 1;simp;omega
    rw[e1,e2]at k1;simpa using k1
  · simp only[World.setCells];rw[k2 x hx];simp[World.setCell,Array.getElem?_modify,Ne.symm hx]
  · simp only[World.setCells];rw[k3];simp[World.setCell]
  · simp only[World.setCells];rw[k4];rfl
  · simp only[World.setCells];rw[k5];rfl
  · simp only[World.setCells];rw[k6];rfl
end Go.V

