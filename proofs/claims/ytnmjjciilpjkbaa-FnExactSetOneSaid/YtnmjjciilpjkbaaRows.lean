/-
  No cell of these rows narrows 'for every input' (looked for: loops, veiled, ifaces, maps, wideKeys, modest, calm, conditions, laid).
  DERIVED. THE GIVEN ROWS OF THIS SEAT. 9 by the template 'for every input the law returns true; each argument reads behind the call as it read before'; 0 by the template 'total and deterministic' (their statements: YtnmjjciilpjkbaaTotals.lean).
  GIVEN WITH THE SEED: the statements are not yours to turn. If you find one false, say at which input.
  Laid BY PROGRAM, IN A SANDBOX (cutbox-rows.mjs): the forced cells as the released guide's own fill.sh prints them over the translation 899b8ebeaa625068… (all of the seat's roots in one cut). By AI agents, Wed Nov 11 2026. No macro, syntax, notation, axiom, sorry.
-/
import Derived.Test.YtnmjjciilpjkbaaChecked
import GoSem.Claim
import GoSem.ClaimJoined
import GoSem.ClaimMapViews
import Derived.JoinedTies
import Derived.KernelRfl
namespace Go.Proofs.Ytnmjjciilpjkbaa
/- THE CELL 'sum', in the pinned program and in every row, IS THE sha256 OF THE DUMP (.gsa) THAT YtnmjjciilpjkbaaProg.lean LOADS. Nothing in Lean hashes anything: it is a label: what it is worth is what the hold of that sum in a sandbox is worth. -/
noncomputable def Try.pinned : Pinned := { name := "ytnmjjciilpjkbaa", sum := "899b8ebeaa6250686ced14a8d498bfa7d75b560693544ce753b82fbb70c4a811", checked := Try.checked }
namespace Rows
def none {H : Type} : Left H := { results := [], args := [] }

/-- 'laws.FnExactCountBelow': WHATEVER THE INPUT: true; the input reads as it did. -/
def fnExactCountBelowSpec : ChangeSpec := { name := "fnExactCountBelow", fn := fun _ => fun
  | [d1, d2] => { results := [.lit (.bool true)], args := [d1, d2] }
  | _ => none }
def fnExactCountBelowRow : OpenClaim := { program := "ytnmjjciilpjkbaa", sum := "899b8ebeaa6250686ced14a8d498bfa7d75b560693544ce753b82fbb70c4a811", func := "loop.example/g00326/laws.FnExactCountBelow", spec := "fnExactCountBelow", apart := false }
def FnExactCountBelowSaid : Prop := fnExactCountBelowRow.holds Try.pinned (OpenSpec.ofChange fnExactCountBelowSpec)

/-- ITS FALSE NEIGHBOUR: 'it returns false'. Refute it at one input. -/
def fnExactCountBelowWrong : ChangeSpec := { name := "fnExactCountBelow", fn := fun _ => fun
  | [d1, d2] => { results := [.lit (.bool false)], args := [d1, d2] }
  | _ => none }
def FnExactCountBelowWrongFalsely : Prop := fnExactCountBelowRow.holds Try.pinned (OpenSpec.ofChange fnExactCountBelowWrong)

/-- 'laws.FnReadOnly': WHATEVER THE INPUT: true; the input reads as it did. -/
def fnReadOnlySpec : ChangeSpec := { name := "fnReadOnly", fn := fun _ => fun
  | [d] => { results := [.lit (.bool true)], args := [d] }
  | _ => none }
def fnReadOnlyRow : OpenClaim := { program := "ytnmjjciilpjkbaa", sum := "899b8ebeaa6250686ced14a8d498bfa7d75b560693544ce753b82fbb70c4a811", func := "loop.example/g00326/laws.FnReadOnly", spec := "fnReadOnly", apart := false }
def FnReadOnlySaid : Prop := fnReadOnlyRow.holds Try.pinned (OpenSpec.ofChange fnReadOnlySpec)

/-- ITS FALSE NEIGHBOUR: 'it returns false'. Refute it at one input. -/
def fnReadOnlyWrong : ChangeSpec := { name := "fnReadOnly", fn := fun _ => fun
  | [d] => { results := [.lit (.bool false)], args := [d] }
  | _ => none }
def FnReadOnlyWrongFalsely : Prop := fnReadOnlyRow.holds Try.pinned (OpenSpec.ofChange fnReadOnlyWrong)

/-- 'laws.FnExactAllKnow': WHATEVER THE INPUT: true; the input reads as it did. -/
def fnExactAllKnowSpec : ChangeSpec := { name := "fnExactAllKnow", fn := fun _ => fun
  | [d] => { results := [.lit (.bool true)], args := [d] }
  | _ => none }
def fnExactAllKnowRow : OpenClaim := { program := "ytnmjjciilpjkbaa", sum := "899b8ebeaa6250686ced14a8d498bfa7d75b560693544ce753b82fbb70c4a811", func := "loop.example/g00326/laws.FnExactAllKnow", spec := "fnExactAllKnow", unfollowed := true, recurses := true, apart := false }
def FnExactAllKnowSaid : Prop := fnExactAllKnowRow.holds Try.pinned (OpenSpec.ofChange fnExactAllKnowSpec)

/-- ITS FALSE NEIGHBOUR: 'it returns false'. Refute it at one input. -/
def fnExactAllKnowWrong : ChangeSpec := { name := "fnExactAllKnow", fn := fun _ => fun
  | [d] => { results := [.lit (.bool false)], args := [d] }
  | _ => none }
def FnExactAllKnowWrongFalsely : Prop := fnExactAllKnowRow.holds Try.pinned (OpenSpec.ofChange fnExactAllKnowWrong)

/-- 'laws.FnExactOneTree': WHATEVER THE INPUT: true; the input reads as it did. -/
def fnExactOneTreeSpec : ChangeSpec := { name := "fnExactOneTree", fn := fun _ => fun
  | [d] => { results := [.lit (.bool true)], args := [d] }
  | _ => none }
def fnExactOneTreeRow : OpenClaim := { program := "ytnmjjciilpjkbaa", sum := "899b8ebeaa6250686ced14a8d498bfa7d75b560693544ce753b82fbb70c4a811", func := "loop.example/g00326/laws.FnExactOneTree", spec := "fnExactOneTree", apart := false }
def FnExactOneTreeSaid : Prop := fnExactOneTreeRow.holds Try.pinned (OpenSpec.ofChange fnExactOneTreeSpec)

/-- ITS FALSE NEIGHBOUR: 'it returns false'. Refute it at one input. -/
def fnExactOneTreeWrong : ChangeSpec := { name := "fnExactOneTree", fn := fun _ => fun
  | [d] => { results := [.lit (.bool false)], args := [d] }
  | _ => none }
def FnExactOneTreeWrongFalsely : Prop := fnExactOneTreeRow.holds Try.pinned (OpenSpec.ofChange fnExactOneTreeWrong)

/-- 'laws.FnMibsBent': WHATEVER THE INPUT: true; the input reads as it did. -/
def fnMibsBentSpec : ChangeSpec := { name := "fnMibsBent", fn := fun _ => fun
  | [d] => { results := [.lit (.bool true)], args := [d] }
  | _ => none }
def fnMibsBentRow : OpenClaim := { program := "ytnmjjciilpjkbaa", sum := "899b8ebeaa6250686ced14a8d498bfa7d75b560693544ce753b82fbb70c4a811", func := "loop.example/g00326/laws.FnMibsBent", spec := "fnMibsBent", apart := false }
def FnMibsBentSaid : Prop := fnMibsBentRow.holds Try.pinned (OpenSpec.ofChange fnMibsBentSpec)

/-- ITS FALSE NEIGHBOUR: 'it returns false'. Refute it at one input. -/
def fnMibsBentWrong : ChangeSpec := { name := "fnMibsBent", fn := fun _ => fun
  | [d] => { results := [.lit (.bool false)], args := [d] }
  | _ => none }
def FnMibsBentWrongFalsely : Prop := fnMibsBentRow.holds Try.pinned (OpenSpec.ofChange fnMibsBentWrong)

/-- 'laws.FnExactAgentOk': WHATEVER THE INPUT: true; the input reads as it did. -/
def fnExactAgentOkSpec : ChangeSpec := { name := "fnExactAgentOk", fn := fun _ => fun
  | [d] => { results := [.lit (.bool true)], args := [d] }
  | _ => none }
def fnExactAgentOkRow : OpenClaim := { program := "ytnmjjciilpjkbaa", sum := "899b8ebeaa6250686ced14a8d498bfa7d75b560693544ce753b82fbb70c4a811", func := "loop.example/g00326/laws.FnExactAgentOk", spec := "fnExactAgentOk", apart := false }
def FnExactAgentOkSaid : Prop := fnExactAgentOkRow.holds Try.pinned (OpenSpec.ofChange fnExactAgentOkSpec)

/-- ITS FALSE NEIGHBOUR: 'it returns false'. Refute it at one input. -/
def fnExactAgentOkWrong : ChangeSpec := { name := "fnExactAgentOk", fn := fun _ => fun
  | [d] => { results := [.lit (.bool false)], args := [d] }
  | _ => none }
def FnExactAgentOkWrongFalsely : Prop := fnExactAgentOkRow.holds Try.pinned (OpenSpec.ofChange fnExactAgentOkWrong)

/-- 'laws.FnExactWalk': WHATEVER THE INPUT: true; the input reads as it did. -/
def fnExactWalkSpec : ChangeSpec := { name := "fnExactWalk", fn := fun _ => fun
  | [d1, d2, d3] => { results := [.lit (.bool true)], args := [d1, d2, d3] }
  | _ => none }
def fnExactWalkRow : OpenClaim := { program := "ytnmjjciilpjkbaa", sum := "899b8ebeaa6250686ced14a8d498bfa7d75b560693544ce753b82fbb70c4a811", func := "loop.example/g00326/laws.FnExactWalk", spec := "fnExactWalk", apart := false }
def FnExactWalkSaid : Prop := fnExactWalkRow.holds Try.pinned (OpenSpec.ofChange fnExactWalkSpec)

/-- ITS FALSE NEIGHBOUR: 'it returns false'. Refute it at one input. -/
def fnExactWalkWrong : ChangeSpec := { name := "fnExactWalk", fn := fun _ => fun
  | [d1, d2, d3] => { results := [.lit (.bool false)], args := [d1, d2, d3] }
  | _ => none }
def FnExactWalkWrongFalsely : Prop := fnExactWalkRow.holds Try.pinned (OpenSpec.ofChange fnExactWalkWrong)

/-- 'laws.FnExactAgentNew': WHATEVER THE INPUT: true; the input reads as it did. -/
def fnExactAgentNewSpec : ChangeSpec := { name := "fnExactAgentNew", fn := fun _ => fun
  | [d1, d2] => { results := [.lit (.bool true)], args := [d1, d2] }
  | _ => none }
def fnExactAgentNewRow : OpenClaim := { program := "ytnmjjciilpjkbaa", sum := "899b8ebeaa6250686ced14a8d498bfa7d75b560693544ce753b82fbb70c4a811", func := "loop.example/g00326/laws.FnExactAgentNew", spec := "fnExactAgentNew", apart := false }
def FnExactAgentNewSaid : Prop := fnExactAgentNewRow.holds Try.pinned (OpenSpec.ofChange fnExactAgentNewSpec)

/-- ITS FALSE NEIGHBOUR: 'it returns false'. Refute it at one input. -/
def fnExactAgentNewWrong : ChangeSpec := { name := "fnExactAgentNew", fn := fun _ => fun
  | [d1, d2] => { results := [.lit (.bool false)], args := [d1, d2] }
  | _ => none }
def FnExactAgentNewWrongFalsely : Prop := fnExactAgentNewRow.holds Try.pinned (OpenSpec.ofChange fnExactAgentNewWrong)

/-- 'laws.FnExactSetOne': WHATEVER THE INPUT: true; the input reads as it did. -/
def fnExactSetOneSpec : ChangeSpec := { name := "fnExactSetOne", fn := fun _ => fun
  | [d1, d2] => { results := [.lit (.bool true)], args := [d1, d2] }
  | _ => none }
def fnExactSetOneRow : OpenClaim := { program := "ytnmjjciilpjkbaa", sum := "899b8ebeaa6250686ced14a8d498bfa7d75b560693544ce753b82fbb70c4a811", func := "loop.example/g00326/laws.FnExactSetOne", spec := "fnExactSetOne", apart := false }
def FnExactSetOneSaid : Prop := fnExactSetOneRow.holds Try.pinned (OpenSpec.ofChange fnExactSetOneSpec)

/-- ITS FALSE NEIGHBOUR: 'it returns false'. Refute it at one input. -/
def fnExactSetOneWrong : ChangeSpec := { name := "fnExactSetOne", fn := fun _ => fun
  | [d1, d2] => { results := [.lit (.bool false)], args := [d1, d2] }
  | _ => none }
def FnExactSetOneWrongFalsely : Prop := fnExactSetOneRow.holds Try.pinned (OpenSpec.ofChange fnExactSetOneWrong)

/- THE SECOND FORM. 'bulk': how many values and letters a reading holds, each counted each time it is reached (what is shared counts as often as it is met; a slice's spare places count too). A statement '..UptoSaid' is the law's where the arguments, and the package variables that the reading takes, are together of bulk at most 1048576: NARROWER than '..Said'. Prove '..Said' where nothing that the law and all that it calls make is longer than what came in: it says more and counts as full. Else prove '..UptoSaid'. A law counts once. -/
mutual
def uptoBulk {H : Type} : DataW H → Nat
  | .lit (.string bytes) => bytes.length + 1
  | .lit _ => 1
  | .nil => 1
  | .ptr d => uptoBulk d + 1
  | .slice elems spare => uptoBulkAll elems + uptoBulkAll spare + 1
  | .agg parts => uptoBulkAll parts + 1
  | .iface _ d => uptoBulk d + 1
  | .map entries => uptoBulkEntries entries + 1
  | .held _ => 1
def uptoBulkAll {H : Type} : List (DataW H) → Nat
  | [] => 0
  | d :: r => uptoBulk d + uptoBulkAll r
def uptoBulkEntries {H : Type} : List (Lit × DataW H) → Nat
  | [] => 0
  | x :: r => uptoBulkEntry x + uptoBulkEntries r
def uptoBulkEntry {H : Type} : Lit × DataW H → Nat
  | (.string bytes, d) => bytes.length + uptoBulk d + 1
  | (_, d) => uptoBulk d + 1
 end
def uptoSmall : (H : Type) → List (DataW H) → Bool := fun _ ds => decide (uptoBulkAll ds ≤ 1048576)
def OpenSpec.upto (s : _root_.Go.ChangeSpec) : _root_.Go.OpenSpec := { _root_.Go.OpenSpec.ofChange s with cond := some uptoSmall }

/-- 'laws.FnExactCountBelow', WHERE WHAT IT READS IS OF BULK AT MOST 1048576: true; the input reads as it did. -/
def fnExactCountBelowUptoRow : OpenClaim := { program := "ytnmjjciilpjkbaa", sum := "899b8ebeaa6250686ced14a8d498bfa7d75b560693544ce753b82fbb70c4a811", func := "loop.example/g00326/laws.FnExactCountBelow", spec := "fnExactCountBelow", apart := false, narrowed := true }
def FnExactCountBelowUptoSaid : Prop := fnExactCountBelowUptoRow.holds Try.pinned (OpenSpec.upto fnExactCountBelowSpec)

/-- 'laws.FnReadOnly', WHERE WHAT IT READS IS OF BULK AT MOST 1048576: true; the input reads as it did. -/
def fnReadOnlyUptoRow : OpenClaim := { program := "ytnmjjciilpjkbaa", sum := "899b8ebeaa6250686ced14a8d498bfa7d75b560693544ce753b82fbb70c4a811", func := "loop.example/g00326/laws.FnReadOnly", spec := "fnReadOnly", apart := false, narrowed := true }
def FnReadOnlyUptoSaid : Prop := fnReadOnlyUptoRow.holds Try.pinned (OpenSpec.upto fnReadOnlySpec)

/-- 'laws.FnExactAllKnow', WHERE WHAT IT READS IS OF BULK AT MOST 1048576: true; the input reads as it did. -/
def fnExactAllKnowUptoRow : OpenClaim := { program := "ytnmjjciilpjkbaa", sum := "899b8ebeaa6250686ced14a8d498bfa7d75b560693544ce753b82fbb70c4a811", func := "loop.example/g00326/laws.FnExactAllKnow", spec := "fnExactAllKnow", unfollowed := true, recurses := true, apart := false, narrowed := true }
def FnExactAllKnowUptoSaid : Prop := fnExactAllKnowUptoRow.holds Try.pinned (OpenSpec.upto fnExactAllKnowSpec)

/-- 'laws.FnExactOneTree', WHERE WHAT IT READS IS OF BULK AT MOST 1048576: true; the input reads as it did. -/
def fnExactOneTreeUptoRow : OpenClaim := { program := "ytnmjjciilpjkbaa", sum := "899b8ebeaa6250686ced14a8d498bfa7d75b560693544ce753b82fbb70c4a811", func := "loop.example/g00326/laws.FnExactOneTree", spec := "fnExactOneTree", apart := false, narrowed := true }
def FnExactOneTreeUptoSaid : Prop := fnExactOneTreeUptoRow.holds Try.pinned (OpenSpec.upto fnExactOneTreeSpec)

/-- 'laws.FnMibsBent', WHERE WHAT IT READS IS OF BULK AT MOST 1048576: true; the input reads as it did. -/
def fnMibsBentUptoRow : OpenClaim := { program := "ytnmjjciilpjkbaa", sum := "899b8ebeaa6250686ced14a8d498bfa7d75b560693544ce753b82fbb70c4a811", func := "loop.example/g00326/laws.FnMibsBent", spec := "fnMibsBent", apart := false, narrowed := true }
def FnMibsBentUptoSaid : Prop := fnMibsBentUptoRow.holds Try.pinned (OpenSpec.upto fnMibsBentSpec)

/-- 'laws.FnExactAgentOk', WHERE WHAT IT READS IS OF BULK AT MOST 1048576: true; the input reads as it did. -/
def fnExactAgentOkUptoRow : OpenClaim := { program := "ytnmjjciilpjkbaa", sum := "899b8ebeaa6250686ced14a8d498bfa7d75b560693544ce753b82fbb70c4a811", func := "loop.example/g00326/laws.FnExactAgentOk", spec := "fnExactAgentOk", apart := false, narrowed := true }
def FnExactAgentOkUptoSaid : Prop := fnExactAgentOkUptoRow.holds Try.pinned (OpenSpec.upto fnExactAgentOkSpec)

/-- 'laws.FnExactWalk', WHERE WHAT IT READS IS OF BULK AT MOST 1048576: true; the input reads as it did. -/
def fnExactWalkUptoRow : OpenClaim := { program := "ytnmjjciilpjkbaa", sum := "899b8ebeaa6250686ced14a8d498bfa7d75b560693544ce753b82fbb70c4a811", func := "loop.example/g00326/laws.FnExactWalk", spec := "fnExactWalk", apart := false, narrowed := true }
def FnExactWalkUptoSaid : Prop := fnExactWalkUptoRow.holds Try.pinned (OpenSpec.upto fnExactWalkSpec)

/-- 'laws.FnExactAgentNew', WHERE WHAT IT READS IS OF BULK AT MOST 1048576: true; the input reads as it did. -/
def fnExactAgentNewUptoRow : OpenClaim := { program := "ytnmjjciilpjkbaa", sum := "899b8ebeaa6250686ced14a8d498bfa7d75b560693544ce753b82fbb70c4a811", func := "loop.example/g00326/laws.FnExactAgentNew", spec := "fnExactAgentNew", apart := false, narrowed := true }
def FnExactAgentNewUptoSaid : Prop := fnExactAgentNewUptoRow.holds Try.pinned (OpenSpec.upto fnExactAgentNewSpec)

/-- 'laws.FnExactSetOne', WHERE WHAT IT READS IS OF BULK AT MOST 1048576: true; the input reads as it did. -/
def fnExactSetOneUptoRow : OpenClaim := { program := "ytnmjjciilpjkbaa", sum := "899b8ebeaa6250686ced14a8d498bfa7d75b560693544ce753b82fbb70c4a811", func := "loop.example/g00326/laws.FnExactSetOne", spec := "fnExactSetOne", apart := false, narrowed := true }
def FnExactSetOneUptoSaid : Prop := fnExactSetOneUptoRow.holds Try.pinned (OpenSpec.upto fnExactSetOneSpec)

end Rows
end Go.Proofs.Ytnmjjciilpjkbaa
