/-
  No cell of these rows narrows 'for every input' (looked for: loops, veiled, ifaces, maps, wideKeys, modest, calm, conditions, laid).
  DERIVED. THE GIVEN ROWS OF THIS SEAT. 8 by the template 'for every input the law returns true; each argument reads behind the call as it read before'; 0 by the template 'total and deterministic' (their statements: YtloainegonlibaaTotals.lean).
  GIVEN WITH THE SEED: the statements are not yours to turn. If you find one false, say at which input.
  Laid BY PROGRAM, IN A SANDBOX (cutbox-rows.mjs): the forced cells as the released guide's own fill.sh prints them over the translation 822ee195c7668233… (all of the seat's roots in one cut). By AI agents, Wed Nov 11 2026. No macro, syntax, notation, axiom, sorry.
-/
import Derived.Test.YtloainegonlibaaChecked
import GoSem.Claim
import GoSem.ClaimJoined
import GoSem.ClaimMapViews
import Derived.JoinedTies
import Derived.KernelRfl
namespace Go.Proofs.Ytloainegonlibaa
/- THE CELL 'sum', in the pinned program and in every row, IS THE sha256 OF THE DUMP (.gsa) THAT YtloainegonlibaaProg.lean LOADS. Nothing in Lean hashes anything: it is a label: what it is worth is what the hold of that sum in a sandbox is worth. -/
noncomputable def Try.pinned : Pinned := { name := "ytloainegonlibaa", sum := "822ee195c766823354d46b98dae109c5dedb036be8642f6c1696634375dfee30", checked := Try.checked }
namespace Rows
def none {H : Type} : Left H := { results := [], args := [] }

/-- 'laws.FnVlans': WHATEVER THE INPUT: true; the input reads as it did. -/
def fnVlansSpec : ChangeSpec := { name := "fnVlans", fn := fun _ => fun
  | [d] => { results := [.lit (.bool true)], args := [d] }
  | _ => none }
def fnVlansRow : OpenClaim := { program := "ytloainegonlibaa", sum := "822ee195c766823354d46b98dae109c5dedb036be8642f6c1696634375dfee30", func := "loop.example/g00326/laws.FnVlans", spec := "fnVlans", apart := false }
def FnVlansSaid : Prop := fnVlansRow.holds Try.pinned (OpenSpec.ofChange fnVlansSpec)

/-- ITS FALSE NEIGHBOUR: 'it returns false'. Refute it at one input. -/
def fnVlansWrong : ChangeSpec := { name := "fnVlans", fn := fun _ => fun
  | [d] => { results := [.lit (.bool false)], args := [d] }
  | _ => none }
def FnVlansWrongFalsely : Prop := fnVlansRow.holds Try.pinned (OpenSpec.ofChange fnVlansWrong)

/-- 'laws.FnExactRolesText': WHATEVER THE INPUT: true; the input reads as it did. -/
def fnExactRolesTextSpec : ChangeSpec := { name := "fnExactRolesText", fn := fun _ => fun
  | [d] => { results := [.lit (.bool true)], args := [d] }
  | _ => none }
def fnExactRolesTextRow : OpenClaim := { program := "ytloainegonlibaa", sum := "822ee195c766823354d46b98dae109c5dedb036be8642f6c1696634375dfee30", func := "loop.example/g00326/laws.FnExactRolesText", spec := "fnExactRolesText", inPlace := ["internal/abi.NoEscape", "internal/bytealg.MakeNoZero"], apart := false }
def FnExactRolesTextSaid : Prop := fnExactRolesTextRow.holds Try.pinned (OpenSpec.ofChange fnExactRolesTextSpec)

/-- ITS FALSE NEIGHBOUR: 'it returns false'. Refute it at one input. -/
def fnExactRolesTextWrong : ChangeSpec := { name := "fnExactRolesText", fn := fun _ => fun
  | [d] => { results := [.lit (.bool false)], args := [d] }
  | _ => none }
def FnExactRolesTextWrongFalsely : Prop := fnExactRolesTextRow.holds Try.pinned (OpenSpec.ofChange fnExactRolesTextWrong)

/-- 'laws.FnExactIdle': WHATEVER THE INPUT: true; the input reads as it did. -/
def fnExactIdleSpec : ChangeSpec := { name := "fnExactIdle", fn := fun _ => fun
  | [d] => { results := [.lit (.bool true)], args := [d] }
  | _ => none }
def fnExactIdleRow : OpenClaim := { program := "ytloainegonlibaa", sum := "822ee195c766823354d46b98dae109c5dedb036be8642f6c1696634375dfee30", func := "loop.example/g00326/laws.FnExactIdle", spec := "fnExactIdle", apart := false }
def FnExactIdleSaid : Prop := fnExactIdleRow.holds Try.pinned (OpenSpec.ofChange fnExactIdleSpec)

/-- ITS FALSE NEIGHBOUR: 'it returns false'. Refute it at one input. -/
def fnExactIdleWrong : ChangeSpec := { name := "fnExactIdle", fn := fun _ => fun
  | [d] => { results := [.lit (.bool false)], args := [d] }
  | _ => none }
def FnExactIdleWrongFalsely : Prop := fnExactIdleRow.holds Try.pinned (OpenSpec.ofChange fnExactIdleWrong)

/-- 'laws.FnRings': WHATEVER THE INPUT: true; the input reads as it did. -/
def fnRingsSpec : ChangeSpec := { name := "fnRings", fn := fun _ => fun
  | [d] => { results := [.lit (.bool true)], args := [d] }
  | _ => none }
def fnRingsRow : OpenClaim := { program := "ytloainegonlibaa", sum := "822ee195c766823354d46b98dae109c5dedb036be8642f6c1696634375dfee30", func := "loop.example/g00326/laws.FnRings", spec := "fnRings", unfollowed := true, recurses := true, apart := false }
def FnRingsSaid : Prop := fnRingsRow.holds Try.pinned (OpenSpec.ofChange fnRingsSpec)

/-- ITS FALSE NEIGHBOUR: 'it returns false'. Refute it at one input. -/
def fnRingsWrong : ChangeSpec := { name := "fnRings", fn := fun _ => fun
  | [d] => { results := [.lit (.bool false)], args := [d] }
  | _ => none }
def FnRingsWrongFalsely : Prop := fnRingsRow.holds Try.pinned (OpenSpec.ofChange fnRingsWrong)

/-- 'laws.FnWalks': WHATEVER THE INPUT: true; the input reads as it did. -/
def fnWalksSpec : ChangeSpec := { name := "fnWalks", fn := fun _ => fun
  | [d] => { results := [.lit (.bool true)], args := [d] }
  | _ => none }
def fnWalksRow : OpenClaim := { program := "ytloainegonlibaa", sum := "822ee195c766823354d46b98dae109c5dedb036be8642f6c1696634375dfee30", func := "loop.example/g00326/laws.FnWalks", spec := "fnWalks", apart := false }
def FnWalksSaid : Prop := fnWalksRow.holds Try.pinned (OpenSpec.ofChange fnWalksSpec)

/-- ITS FALSE NEIGHBOUR: 'it returns false'. Refute it at one input. -/
def fnWalksWrong : ChangeSpec := { name := "fnWalks", fn := fun _ => fun
  | [d] => { results := [.lit (.bool false)], args := [d] }
  | _ => none }
def FnWalksWrongFalsely : Prop := fnWalksRow.holds Try.pinned (OpenSpec.ofChange fnWalksWrong)

/-- 'laws.FnExactOneSpeaks': WHATEVER THE INPUT: true; the input reads as it did. -/
def fnExactOneSpeaksSpec : ChangeSpec := { name := "fnExactOneSpeaks", fn := fun _ => fun
  | [d] => { results := [.lit (.bool true)], args := [d] }
  | _ => none }
def fnExactOneSpeaksRow : OpenClaim := { program := "ytloainegonlibaa", sum := "822ee195c766823354d46b98dae109c5dedb036be8642f6c1696634375dfee30", func := "loop.example/g00326/laws.FnExactOneSpeaks", spec := "fnExactOneSpeaks", apart := false }
def FnExactOneSpeaksSaid : Prop := fnExactOneSpeaksRow.holds Try.pinned (OpenSpec.ofChange fnExactOneSpeaksSpec)

/-- ITS FALSE NEIGHBOUR: 'it returns false'. Refute it at one input. -/
def fnExactOneSpeaksWrong : ChangeSpec := { name := "fnExactOneSpeaks", fn := fun _ => fun
  | [d] => { results := [.lit (.bool false)], args := [d] }
  | _ => none }
def FnExactOneSpeaksWrongFalsely : Prop := fnExactOneSpeaksRow.holds Try.pinned (OpenSpec.ofChange fnExactOneSpeaksWrong)

/-- 'laws.FnExactPlaces': WHATEVER THE INPUT: true; the input reads as it did. -/
def fnExactPlacesSpec : ChangeSpec := { name := "fnExactPlaces", fn := fun _ => fun
  | [d] => { results := [.lit (.bool true)], args := [d] }
  | _ => none }
def fnExactPlacesRow : OpenClaim := { program := "ytloainegonlibaa", sum := "822ee195c766823354d46b98dae109c5dedb036be8642f6c1696634375dfee30", func := "loop.example/g00326/laws.FnExactPlaces", spec := "fnExactPlaces", apart := false }
def FnExactPlacesSaid : Prop := fnExactPlacesRow.holds Try.pinned (OpenSpec.ofChange fnExactPlacesSpec)

/-- ITS FALSE NEIGHBOUR: 'it returns false'. Refute it at one input. -/
def fnExactPlacesWrong : ChangeSpec := { name := "fnExactPlaces", fn := fun _ => fun
  | [d] => { results := [.lit (.bool false)], args := [d] }
  | _ => none }
def FnExactPlacesWrongFalsely : Prop := fnExactPlacesRow.holds Try.pinned (OpenSpec.ofChange fnExactPlacesWrong)

/-- 'laws.FnMibs': WHATEVER THE INPUT: true; the input reads as it did. -/
def fnMibsSpec : ChangeSpec := { name := "fnMibs", fn := fun _ => fun
  | [d] => { results := [.lit (.bool true)], args := [d] }
  | _ => none }
def fnMibsRow : OpenClaim := { program := "ytloainegonlibaa", sum := "822ee195c766823354d46b98dae109c5dedb036be8642f6c1696634375dfee30", func := "loop.example/g00326/laws.FnMibs", spec := "fnMibs", apart := false }
def FnMibsSaid : Prop := fnMibsRow.holds Try.pinned (OpenSpec.ofChange fnMibsSpec)

/-- ITS FALSE NEIGHBOUR: 'it returns false'. Refute it at one input. -/
def fnMibsWrong : ChangeSpec := { name := "fnMibs", fn := fun _ => fun
  | [d] => { results := [.lit (.bool false)], args := [d] }
  | _ => none }
def FnMibsWrongFalsely : Prop := fnMibsRow.holds Try.pinned (OpenSpec.ofChange fnMibsWrong)

/- THE SECOND FORM. 'bulk': how many values and letters a reading holds, each counted each time it is reached (what is shared counts as often as it is met; a slice's spare places count too). A statement '..UptoSaid' is the law's where the arguments, and the package variables that the reading takes, are together of bulk at most 1048576: NARROWER than '..Said'. Prove '..Said' where nothing that the law and all that it calls make is longer than what came in: it says more and counts as full. Else prove '..UptoSaid'. A law counts once. -/
mutual
def uptoBulk {H : Type} : DataW H → Nat
  | .lit (.string bytes) => bytes.length + 1
  | .lit _ => 1
  | .nil => 1
  | .ptr d => uptoBulk d + 1
  | .slice elems spare => uptoBulkAll elems + uptoBulkAll spare + 1
  | .agg parts => uptoBulkAll parts + 1
  | .iface _ d => uptoBulk d + 1
  | .map entries => uptoBulkEntries entries + 1
  | .held _ => 1
def uptoBulkAll {H : Type} : List (DataW H) → Nat
  | [] => 0
  | d :: r => uptoBulk d + uptoBulkAll r
def uptoBulkEntries {H : Type} : List (Lit × DataW H) → Nat
  | [] => 0
  | x :: r => uptoBulkEntry x + uptoBulkEntries r
def uptoBulkEntry {H : Type} : Lit × DataW H → Nat
  | (.string bytes, d) => bytes.length + uptoBulk d + 1
  | (_, d) => uptoBulk d + 1
 end
def uptoSmall : (H : Type) → List (DataW H) → Bool := fun _ ds => decide (uptoBulkAll ds ≤ 1048576)
def OpenSpec.upto (s : _root_.Go.ChangeSpec) : _root_.Go.OpenSpec := { _root_.Go.OpenSpec.ofChange s with cond := some uptoSmall }

/-- 'laws.FnVlans', WHERE WHAT IT READS IS OF BULK AT MOST 1048576: true; the input reads as it did. -/
def fnVlansUptoRow : OpenClaim := { program := "ytloainegonlibaa", sum := "822ee195c766823354d46b98dae109c5dedb036be8642f6c1696634375dfee30", func := "loop.example/g00326/laws.FnVlans", spec := "fnVlans", apart := false, narrowed := true }
def FnVlansUptoSaid : Prop := fnVlansUptoRow.holds Try.pinned (OpenSpec.upto fnVlansSpec)

/-- 'laws.FnExactRolesText', WHERE WHAT IT READS IS OF BULK AT MOST 1048576: true; the input reads as it did. -/
def fnExactRolesTextUptoRow : OpenClaim := { program := "ytloainegonlibaa", sum := "822ee195c766823354d46b98dae109c5dedb036be8642f6c1696634375dfee30", func := "loop.example/g00326/laws.FnExactRolesText", spec := "fnExactRolesText", inPlace := ["internal/abi.NoEscape", "internal/bytealg.MakeNoZero"], apart := false, narrowed := true }
def FnExactRolesTextUptoSaid : Prop := fnExactRolesTextUptoRow.holds Try.pinned (OpenSpec.upto fnExactRolesTextSpec)

/-- 'laws.FnExactIdle', WHERE WHAT IT READS IS OF BULK AT MOST 1048576: true; the input reads as it did. -/
def fnExactIdleUptoRow : OpenClaim := { program := "ytloainegonlibaa", sum := "822ee195c766823354d46b98dae109c5dedb036be8642f6c1696634375dfee30", func := "loop.example/g00326/laws.FnExactIdle", spec := "fnExactIdle", apart := false, narrowed := true }
def FnExactIdleUptoSaid : Prop := fnExactIdleUptoRow.holds Try.pinned (OpenSpec.upto fnExactIdleSpec)

/-- 'laws.FnRings', WHERE WHAT IT READS IS OF BULK AT MOST 1048576: true; the input reads as it did. -/
def fnRingsUptoRow : OpenClaim := { program := "ytloainegonlibaa", sum := "822ee195c766823354d46b98dae109c5dedb036be8642f6c1696634375dfee30", func := "loop.example/g00326/laws.FnRings", spec := "fnRings", unfollowed := true, recurses := true, apart := false, narrowed := true }
def FnRingsUptoSaid : Prop := fnRingsUptoRow.holds Try.pinned (OpenSpec.upto fnRingsSpec)

/-- 'laws.FnWalks', WHERE WHAT IT READS IS OF BULK AT MOST 1048576: true; the input reads as it did. -/
def fnWalksUptoRow : OpenClaim := { program := "ytloainegonlibaa", sum := "822ee195c766823354d46b98dae109c5dedb036be8642f6c1696634375dfee30", func := "loop.example/g00326/laws.FnWalks", spec := "fnWalks", apart := false, narrowed := true }
def FnWalksUptoSaid : Prop := fnWalksUptoRow.holds Try.pinned (OpenSpec.upto fnWalksSpec)

/-- 'laws.FnExactOneSpeaks', WHERE WHAT IT READS IS OF BULK AT MOST 1048576: true; the input reads as it did. -/
def fnExactOneSpeaksUptoRow : OpenClaim := { program := "ytloainegonlibaa", sum := "822ee195c766823354d46b98dae109c5dedb036be8642f6c1696634375dfee30", func := "loop.example/g00326/laws.FnExactOneSpeaks", spec := "fnExactOneSpeaks", apart := false, narrowed := true }
def FnExactOneSpeaksUptoSaid : Prop := fnExactOneSpeaksUptoRow.holds Try.pinned (OpenSpec.upto fnExactOneSpeaksSpec)

/-- 'laws.FnExactPlaces', WHERE WHAT IT READS IS OF BULK AT MOST 1048576: true; the input reads as it did. -/
def fnExactPlacesUptoRow : OpenClaim := { program := "ytloainegonlibaa", sum := "822ee195c766823354d46b98dae109c5dedb036be8642f6c1696634375dfee30", func := "loop.example/g00326/laws.FnExactPlaces", spec := "fnExactPlaces", apart := false, narrowed := true }
def FnExactPlacesUptoSaid : Prop := fnExactPlacesUptoRow.holds Try.pinned (OpenSpec.upto fnExactPlacesSpec)

/-- 'laws.FnMibs', WHERE WHAT IT READS IS OF BULK AT MOST 1048576: true; the input reads as it did. -/
def fnMibsUptoRow : OpenClaim := { program := "ytloainegonlibaa", sum := "822ee195c766823354d46b98dae109c5dedb036be8642f6c1696634375dfee30", func := "loop.example/g00326/laws.FnMibs", spec := "fnMibs", apart := false, narrowed := true }
def FnMibsUptoSaid : Prop := fnMibsUptoRow.holds Try.pinned (OpenSpec.upto fnMibsSpec)

end Rows
end Go.Proofs.Ytloainegonlibaa
