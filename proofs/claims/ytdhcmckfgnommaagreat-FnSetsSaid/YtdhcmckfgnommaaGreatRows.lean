/-
  No cell of these rows narrows 'for every input' (looked for: loops, veiled, ifaces, maps, wideKeys, modest, calm, conditions, laid).
  DERIVED. THE GIVEN ROWS OF THIS SEAT. 10 by the template 'for every input the law returns true; each argument reads behind the call as it read before'; 0 by the template 'total and deterministic' (their statements: YtdhcmckfgnommaaGreatTotals.lean).
  GIVEN WITH THE SEED: the statements are not yours to turn. If you find one false, say at which input.
  Laid BY PROGRAM, IN A SANDBOX (cutbox-rows.mjs): the forced cells as the released guide's own fill.sh prints them over the translation 66af6589b4610b69… (all of the seat's roots in one cut). By AI agents, Wed Nov 11 2026. No macro, syntax, notation, axiom, sorry.
-/
import Derived.Test.YtdhcmckfgnommaaGreatChecked
import GoSem.Claim
import GoSem.ClaimJoined
import GoSem.ClaimMapViews
import Derived.JoinedTies
import Derived.KernelRfl
namespace Go.Proofs.YtdhcmckfgnommaaGreat
/- THE CELL 'sum', in the pinned program and in every row, IS THE sha256 OF THE DUMP (.gsa) THAT YtdhcmckfgnommaaGreatProg.lean LOADS. Nothing in Lean hashes anything: it is a label: what it is worth is what the hold of that sum in a sandbox is worth. -/
noncomputable def Tryz.pinned : Pinned := { name := "ytdhcmckfgnommaagreat", sum := "66af6589b4610b6973788b2bc54e46c003ebf8ad5432f987d1c7d922a20b372b", checked := Tryz.checked }
namespace Rows
def none {H : Type} : Left H := { results := [], args := [] }

/-- 'laws.FnBulks': WHATEVER THE INPUT: true; the input reads as it did. -/
def fnBulksSpec : ChangeSpec := { name := "fnBulks", fn := fun _ => fun
  | [d] => { results := [.lit (.bool true)], args := [d] }
  | _ => none }
def fnBulksRow : OpenClaim := { program := "ytdhcmckfgnommaagreat", sum := "66af6589b4610b6973788b2bc54e46c003ebf8ad5432f987d1c7d922a20b372b", func := "loop.example/g00326/laws.FnBulks", spec := "fnBulks", apart := false }
def FnBulksSaid : Prop := fnBulksRow.holds Tryz.pinned (OpenSpec.ofChange fnBulksSpec)

/-- ITS FALSE NEIGHBOUR: 'it returns false'. Refute it at one input. -/
def fnBulksWrong : ChangeSpec := { name := "fnBulks", fn := fun _ => fun
  | [d] => { results := [.lit (.bool false)], args := [d] }
  | _ => none }
def FnBulksWrongFalsely : Prop := fnBulksRow.holds Tryz.pinned (OpenSpec.ofChange fnBulksWrong)

/-- 'laws.FnSets': WHATEVER THE INPUT: true; the input reads as it did. -/
def fnSetsSpec : ChangeSpec := { name := "fnSets", fn := fun _ => fun
  | [d] => { results := [.lit (.bool true)], args := [d] }
  | _ => none }
def fnSetsRow : OpenClaim := { program := "ytdhcmckfgnommaagreat", sum := "66af6589b4610b6973788b2bc54e46c003ebf8ad5432f987d1c7d922a20b372b", func := "loop.example/g00326/laws.FnSets", spec := "fnSets", apart := false }
def FnSetsSaid : Prop := fnSetsRow.holds Tryz.pinned (OpenSpec.ofChange fnSetsSpec)

/-- ITS FALSE NEIGHBOUR: 'it returns false'. Refute it at one input. -/
def fnSetsWrong : ChangeSpec := { name := "fnSets", fn := fun _ => fun
  | [d] => { results := [.lit (.bool false)], args := [d] }
  | _ => none }
def FnSetsWrongFalsely : Prop := fnSetsRow.holds Tryz.pinned (OpenSpec.ofChange fnSetsWrong)

/-- 'laws.FnOneByOne': WHATEVER THE INPUT: true; the input reads as it did. -/
def fnOneByOneSpec : ChangeSpec := { name := "fnOneByOne", fn := fun _ => fun
  | [d] => { results := [.lit (.bool true)], args := [d] }
  | _ => none }
def fnOneByOneRow : OpenClaim := { program := "ytdhcmckfgnommaagreat", sum := "66af6589b4610b6973788b2bc54e46c003ebf8ad5432f987d1c7d922a20b372b", func := "loop.example/g00326/laws.FnOneByOne", spec := "fnOneByOne", apart := false }
def FnOneByOneSaid : Prop := fnOneByOneRow.holds Tryz.pinned (OpenSpec.ofChange fnOneByOneSpec)

/-- ITS FALSE NEIGHBOUR: 'it returns false'. Refute it at one input. -/
def fnOneByOneWrong : ChangeSpec := { name := "fnOneByOne", fn := fun _ => fun
  | [d] => { results := [.lit (.bool false)], args := [d] }
  | _ => none }
def FnOneByOneWrongFalsely : Prop := fnOneByOneRow.holds Tryz.pinned (OpenSpec.ofChange fnOneByOneWrong)

/-- 'laws.FnRetries': WHATEVER THE INPUT: true; the input reads as it did. -/
def fnRetriesSpec : ChangeSpec := { name := "fnRetries", fn := fun _ => fun
  | [d] => { results := [.lit (.bool true)], args := [d] }
  | _ => none }
def fnRetriesRow : OpenClaim := { program := "ytdhcmckfgnommaagreat", sum := "66af6589b4610b6973788b2bc54e46c003ebf8ad5432f987d1c7d922a20b372b", func := "loop.example/g00326/laws.FnRetries", spec := "fnRetries", apart := false }
def FnRetriesSaid : Prop := fnRetriesRow.holds Tryz.pinned (OpenSpec.ofChange fnRetriesSpec)

/-- ITS FALSE NEIGHBOUR: 'it returns false'. Refute it at one input. -/
def fnRetriesWrong : ChangeSpec := { name := "fnRetries", fn := fun _ => fun
  | [d] => { results := [.lit (.bool false)], args := [d] }
  | _ => none }
def FnRetriesWrongFalsely : Prop := fnRetriesRow.holds Tryz.pinned (OpenSpec.ofChange fnRetriesWrong)

/-- 'laws.FnExactSetAll': WHATEVER THE INPUT: true; the input reads as it did. -/
def fnExactSetAllSpec : ChangeSpec := { name := "fnExactSetAll", fn := fun _ => fun
  | [d1, d2] => { results := [.lit (.bool true)], args := [d1, d2] }
  | _ => none }
def fnExactSetAllRow : OpenClaim := { program := "ytdhcmckfgnommaagreat", sum := "66af6589b4610b6973788b2bc54e46c003ebf8ad5432f987d1c7d922a20b372b", func := "loop.example/g00326/laws.FnExactSetAll", spec := "fnExactSetAll", apart := false }
def FnExactSetAllSaid : Prop := fnExactSetAllRow.holds Tryz.pinned (OpenSpec.ofChange fnExactSetAllSpec)

/-- ITS FALSE NEIGHBOUR: 'it returns false'. Refute it at one input. -/
def fnExactSetAllWrong : ChangeSpec := { name := "fnExactSetAll", fn := fun _ => fun
  | [d1, d2] => { results := [.lit (.bool false)], args := [d1, d2] }
  | _ => none }
def FnExactSetAllWrongFalsely : Prop := fnExactSetAllRow.holds Tryz.pinned (OpenSpec.ofChange fnExactSetAllWrong)

/-- 'laws.FnExactSafe': WHATEVER THE INPUT: true; the input reads as it did. -/
def fnExactSafeSpec : ChangeSpec := { name := "fnExactSafe", fn := fun _ => fun
  | [d] => { results := [.lit (.bool true)], args := [d] }
  | _ => none }
def fnExactSafeRow : OpenClaim := { program := "ytdhcmckfgnommaagreat", sum := "66af6589b4610b6973788b2bc54e46c003ebf8ad5432f987d1c7d922a20b372b", func := "loop.example/g00326/laws.FnExactSafe", spec := "fnExactSafe", unfollowed := true, recurses := true, apart := false }
def FnExactSafeSaid : Prop := fnExactSafeRow.holds Tryz.pinned (OpenSpec.ofChange fnExactSafeSpec)

/-- ITS FALSE NEIGHBOUR: 'it returns false'. Refute it at one input. -/
def fnExactSafeWrong : ChangeSpec := { name := "fnExactSafe", fn := fun _ => fun
  | [d] => { results := [.lit (.bool false)], args := [d] }
  | _ => none }
def FnExactSafeWrongFalsely : Prop := fnExactSafeRow.holds Tryz.pinned (OpenSpec.ofChange fnExactSafeWrong)

/-- 'laws.FnExactNeedOf': WHATEVER THE INPUT: true; the input reads as it did. -/
def fnExactNeedOfSpec : ChangeSpec := { name := "fnExactNeedOf", fn := fun _ => fun
  | [d1, d2] => { results := [.lit (.bool true)], args := [d1, d2] }
  | _ => none }
def fnExactNeedOfRow : OpenClaim := { program := "ytdhcmckfgnommaagreat", sum := "66af6589b4610b6973788b2bc54e46c003ebf8ad5432f987d1c7d922a20b372b", func := "loop.example/g00326/laws.FnExactNeedOf", spec := "fnExactNeedOf", apart := false }
def FnExactNeedOfSaid : Prop := fnExactNeedOfRow.holds Tryz.pinned (OpenSpec.ofChange fnExactNeedOfSpec)

/-- ITS FALSE NEIGHBOUR: 'it returns false'. Refute it at one input. -/
def fnExactNeedOfWrong : ChangeSpec := { name := "fnExactNeedOf", fn := fun _ => fun
  | [d1, d2] => { results := [.lit (.bool false)], args := [d1, d2] }
  | _ => none }
def FnExactNeedOfWrongFalsely : Prop := fnExactNeedOfRow.holds Tryz.pinned (OpenSpec.ofChange fnExactNeedOfWrong)

/-- 'laws.FnExactArrive': WHATEVER THE INPUT: true; the input reads as it did. -/
def fnExactArriveSpec : ChangeSpec := { name := "fnExactArrive", fn := fun _ => fun
  | [d1, d2] => { results := [.lit (.bool true)], args := [d1, d2] }
  | _ => none }
def fnExactArriveRow : OpenClaim := { program := "ytdhcmckfgnommaagreat", sum := "66af6589b4610b6973788b2bc54e46c003ebf8ad5432f987d1c7d922a20b372b", func := "loop.example/g00326/laws.FnExactArrive", spec := "fnExactArrive", apart := false }
def FnExactArriveSaid : Prop := fnExactArriveRow.holds Tryz.pinned (OpenSpec.ofChange fnExactArriveSpec)

/-- ITS FALSE NEIGHBOUR: 'it returns false'. Refute it at one input. -/
def fnExactArriveWrong : ChangeSpec := { name := "fnExactArrive", fn := fun _ => fun
  | [d1, d2] => { results := [.lit (.bool false)], args := [d1, d2] }
  | _ => none }
def FnExactArriveWrongFalsely : Prop := fnExactArriveRow.holds Tryz.pinned (OpenSpec.ofChange fnExactArriveWrong)

/-- 'laws.FnQuiet': WHATEVER THE INPUT: true; the input reads as it did. -/
def fnQuietSpec : ChangeSpec := { name := "fnQuiet", fn := fun _ => fun
  | [d] => { results := [.lit (.bool true)], args := [d] }
  | _ => none }
def fnQuietRow : OpenClaim := { program := "ytdhcmckfgnommaagreat", sum := "66af6589b4610b6973788b2bc54e46c003ebf8ad5432f987d1c7d922a20b372b", func := "loop.example/g00326/laws.FnQuiet", spec := "fnQuiet", apart := false }
def FnQuietSaid : Prop := fnQuietRow.holds Tryz.pinned (OpenSpec.ofChange fnQuietSpec)

/-- ITS FALSE NEIGHBOUR: 'it returns false'. Refute it at one input. -/
def fnQuietWrong : ChangeSpec := { name := "fnQuiet", fn := fun _ => fun
  | [d] => { results := [.lit (.bool false)], args := [d] }
  | _ => none }
def FnQuietWrongFalsely : Prop := fnQuietRow.holds Tryz.pinned (OpenSpec.ofChange fnQuietWrong)

/-- 'laws.FnSafe': WHATEVER THE INPUT: true; the input reads as it did. -/
def fnSafeSpec : ChangeSpec := { name := "fnSafe", fn := fun _ => fun
  | [d] => { results := [.lit (.bool true)], args := [d] }
  | _ => none }
def fnSafeRow : OpenClaim := { program := "ytdhcmckfgnommaagreat", sum := "66af6589b4610b6973788b2bc54e46c003ebf8ad5432f987d1c7d922a20b372b", func := "loop.example/g00326/laws.FnSafe", spec := "fnSafe", unfollowed := true, recurses := true, apart := false }
def FnSafeSaid : Prop := fnSafeRow.holds Tryz.pinned (OpenSpec.ofChange fnSafeSpec)

/-- ITS FALSE NEIGHBOUR: 'it returns false'. Refute it at one input. -/
def fnSafeWrong : ChangeSpec := { name := "fnSafe", fn := fun _ => fun
  | [d] => { results := [.lit (.bool false)], args := [d] }
  | _ => none }
def FnSafeWrongFalsely : Prop := fnSafeRow.holds Tryz.pinned (OpenSpec.ofChange fnSafeWrong)

/- THE SECOND FORM. 'bulk': how many values and letters a reading holds, each counted each time it is reached (what is shared counts as often as it is met; a slice's spare places count too). A statement '..UptoSaid' is the law's where the arguments, and the package variables that the reading takes, are together of bulk at most 1048576: NARROWER than '..Said'. Prove '..Said' where nothing that the law and all that it calls make is longer than what came in: it says more and counts as full. Else prove '..UptoSaid'. A law counts once. -/
mutual
def uptoBulk {H : Type} : DataW H → Nat
  | .lit (.string bytes) => bytes.length + 1
  | .lit _ => 1
  | .nil => 1
  | .ptr d => uptoBulk d + 1
  | .slice elems spare => uptoBulkAll elems + uptoBulkAll spare + 1
  | .agg parts => uptoBulkAll parts + 1
  | .iface _ d => uptoBulk d + 1
  | .map entries => uptoBulkEntries entries + 1
  | .held _ => 1
def uptoBulkAll {H : Type} : List (DataW H) → Nat
  | [] => 0
  | d :: r => uptoBulk d + uptoBulkAll r
def uptoBulkEntries {H : Type} : List (Lit × DataW H) → Nat
  | [] => 0
  | x :: r => uptoBulkEntry x + uptoBulkEntries r
def uptoBulkEntry {H : Type} : Lit × DataW H → Nat
  | (.string bytes, d) => bytes.length + uptoBulk d + 1
  | (_, d) => uptoBulk d + 1
 end
def uptoSmall : (H : Type) → List (DataW H) → Bool := fun _ ds => decide (uptoBulkAll ds ≤ 1048576)
def OpenSpec.upto (s : _root_.Go.ChangeSpec) : _root_.Go.OpenSpec := { _root_.Go.OpenSpec.ofChange s with cond := some uptoSmall }

/-- 'laws.FnBulks', WHERE WHAT IT READS IS OF BULK AT MOST 1048576: true; the input reads as it did. -/
def fnBulksUptoRow : OpenClaim := { program := "ytdhcmckfgnommaagreat", sum := "66af6589b4610b6973788b2bc54e46c003ebf8ad5432f987d1c7d922a20b372b", func := "loop.example/g00326/laws.FnBulks", spec := "fnBulks", apart := false, narrowed := true }
def FnBulksUptoSaid : Prop := fnBulksUptoRow.holds Tryz.pinned (OpenSpec.upto fnBulksSpec)

/-- 'laws.FnSets', WHERE WHAT IT READS IS OF BULK AT MOST 1048576: true; the input reads as it did. -/
def fnSetsUptoRow : OpenClaim := { program := "ytdhcmckfgnommaagreat", sum := "66af6589b4610b6973788b2bc54e46c003ebf8ad5432f987d1c7d922a20b372b", func := "loop.example/g00326/laws.FnSets", spec := "fnSets", apart := false, narrowed := true }
def FnSetsUptoSaid : Prop := fnSetsUptoRow.holds Tryz.pinned (OpenSpec.upto fnSetsSpec)

/-- 'laws.FnOneByOne', WHERE WHAT IT READS IS OF BULK AT MOST 1048576: true; the input reads as it did. -/
def fnOneByOneUptoRow : OpenClaim := { program := "ytdhcmckfgnommaagreat", sum := "66af6589b4610b6973788b2bc54e46c003ebf8ad5432f987d1c7d922a20b372b", func := "loop.example/g00326/laws.FnOneByOne", spec := "fnOneByOne", apart := false, narrowed := true }
def FnOneByOneUptoSaid : Prop := fnOneByOneUptoRow.holds Tryz.pinned (OpenSpec.upto fnOneByOneSpec)

/-- 'laws.FnRetries', WHERE WHAT IT READS IS OF BULK AT MOST 1048576: true; the input reads as it did. -/
def fnRetriesUptoRow : OpenClaim := { program := "ytdhcmckfgnommaagreat", sum := "66af6589b4610b6973788b2bc54e46c003ebf8ad5432f987d1c7d922a20b372b", func := "loop.example/g00326/laws.FnRetries", spec := "fnRetries", apart := false, narrowed := true }
def FnRetriesUptoSaid : Prop := fnRetriesUptoRow.holds Tryz.pinned (OpenSpec.upto fnRetriesSpec)

/-- 'laws.FnExactSetAll', WHERE WHAT IT READS IS OF BULK AT MOST 1048576: true; the input reads as it did. -/
def fnExactSetAllUptoRow : OpenClaim := { program := "ytdhcmckfgnommaagreat", sum := "66af6589b4610b6973788b2bc54e46c003ebf8ad5432f987d1c7d922a20b372b", func := "loop.example/g00326/laws.FnExactSetAll", spec := "fnExactSetAll", apart := false, narrowed := true }
def FnExactSetAllUptoSaid : Prop := fnExactSetAllUptoRow.holds Tryz.pinned (OpenSpec.upto fnExactSetAllSpec)

/-- 'laws.FnExactSafe', WHERE WHAT IT READS IS OF BULK AT MOST 1048576: true; the input reads as it did. -/
def fnExactSafeUptoRow : OpenClaim := { program := "ytdhcmckfgnommaagreat", sum := "66af6589b4610b6973788b2bc54e46c003ebf8ad5432f987d1c7d922a20b372b", func := "loop.example/g00326/laws.FnExactSafe", spec := "fnExactSafe", unfollowed := true, recurses := true, apart := false, narrowed := true }
def FnExactSafeUptoSaid : Prop := fnExactSafeUptoRow.holds Tryz.pinned (OpenSpec.upto fnExactSafeSpec)

/-- 'laws.FnExactNeedOf', WHERE WHAT IT READS IS OF BULK AT MOST 1048576: true; the input reads as it did. -/
def fnExactNeedOfUptoRow : OpenClaim := { program := "ytdhcmckfgnommaagreat", sum := "66af6589b4610b6973788b2bc54e46c003ebf8ad5432f987d1c7d922a20b372b", func := "loop.example/g00326/laws.FnExactNeedOf", spec := "fnExactNeedOf", apart := false, narrowed := true }
def FnExactNeedOfUptoSaid : Prop := fnExactNeedOfUptoRow.holds Tryz.pinned (OpenSpec.upto fnExactNeedOfSpec)

/-- 'laws.FnExactArrive', WHERE WHAT IT READS IS OF BULK AT MOST 1048576: true; the input reads as it did. -/
def fnExactArriveUptoRow : OpenClaim := { program := "ytdhcmckfgnommaagreat", sum := "66af6589b4610b6973788b2bc54e46c003ebf8ad5432f987d1c7d922a20b372b", func := "loop.example/g00326/laws.FnExactArrive", spec := "fnExactArrive", apart := false, narrowed := true }
def FnExactArriveUptoSaid : Prop := fnExactArriveUptoRow.holds Tryz.pinned (OpenSpec.upto fnExactArriveSpec)

/-- 'laws.FnQuiet', WHERE WHAT IT READS IS OF BULK AT MOST 1048576: true; the input reads as it did. -/
def fnQuietUptoRow : OpenClaim := { program := "ytdhcmckfgnommaagreat", sum := "66af6589b4610b6973788b2bc54e46c003ebf8ad5432f987d1c7d922a20b372b", func := "loop.example/g00326/laws.FnQuiet", spec := "fnQuiet", apart := false, narrowed := true }
def FnQuietUptoSaid : Prop := fnQuietUptoRow.holds Tryz.pinned (OpenSpec.upto fnQuietSpec)

/-- 'laws.FnSafe', WHERE WHAT IT READS IS OF BULK AT MOST 1048576: true; the input reads as it did. -/
def fnSafeUptoRow : OpenClaim := { program := "ytdhcmckfgnommaagreat", sum := "66af6589b4610b6973788b2bc54e46c003ebf8ad5432f987d1c7d922a20b372b", func := "loop.example/g00326/laws.FnSafe", spec := "fnSafe", unfollowed := true, recurses := true, apart := false, narrowed := true }
def FnSafeUptoSaid : Prop := fnSafeUptoRow.holds Tryz.pinned (OpenSpec.upto fnSafeSpec)

end Rows
end Go.Proofs.YtdhcmckfgnommaaGreat
