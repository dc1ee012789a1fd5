/-
  No cell of these rows narrows 'for every input' (looked for: loops, veiled, ifaces, maps, wideKeys, modest, calm, conditions, laid).
  DERIVED. THE GIVEN ROWS OF THIS SEAT. 8 by the template 'for every input the law returns true; each argument reads behind the call as it read before'; 0 by the template 'total and deterministic' (their statements: YtpidgkkbmlgehaaGreatTotals.lean).
  GIVEN WITH THE SEED: the statements are not yours to turn. If you find one false, say at which input.
  Laid BY PROGRAM, IN A SANDBOX (cutbox-rows.mjs): the forced cells as the released guide's own fill.sh prints them over the translation 4da1cf4f69ea3995… (all of the seat's roots in one cut). By AI agents, Wed Nov 11 2026. No macro, syntax, notation, axiom, sorry.
-/
import Derived.Test.YtpidgkkbmlgehaaGreatChecked
import GoSem.Claim
import GoSem.ClaimJoined
import GoSem.ClaimMapViews
import Derived.JoinedTies
import Derived.KernelRfl
namespace Go.Proofs.YtpidgkkbmlgehaaGreat
/- THE CELL 'sum', in the pinned program and in every row, IS THE sha256 OF THE DUMP (.gsa) THAT YtpidgkkbmlgehaaGreatProg.lean LOADS. Nothing in Lean hashes anything: it is a label: what it is worth is what the hold of that sum in a sandbox is worth. -/
noncomputable def Tryz.pinned : Pinned := { name := "ytpidgkkbmlgehaagreat", sum := "4da1cf4f69ea39959ebdb63ed7d381836c21aeecc51a6a8f23121dd8e04c163e", checked := Tryz.checked }
namespace Rows
def none {H : Type} : Left H := { results := [], args := [] }

/-- 'laws.FnReplies': WHATEVER THE INPUT: true; the input reads as it did. -/
def fnRepliesSpec : ChangeSpec := { name := "fnReplies", fn := fun _ => fun
  | [d] => { results := [.lit (.bool true)], args := [d] }
  | _ => none }
def fnRepliesRow : OpenClaim := { program := "ytpidgkkbmlgehaagreat", sum := "4da1cf4f69ea39959ebdb63ed7d381836c21aeecc51a6a8f23121dd8e04c163e", func := "loop.example/g00326/laws.FnReplies", spec := "fnReplies", apart := false }
def FnRepliesSaid : Prop := fnRepliesRow.holds Tryz.pinned (OpenSpec.ofChange fnRepliesSpec)

/-- ITS FALSE NEIGHBOUR: 'it returns false'. Refute it at one input. -/
def fnRepliesWrong : ChangeSpec := { name := "fnReplies", fn := fun _ => fun
  | [d] => { results := [.lit (.bool false)], args := [d] }
  | _ => none }
def FnRepliesWrongFalsely : Prop := fnRepliesRow.holds Tryz.pinned (OpenSpec.ofChange fnRepliesWrong)

/-- 'laws.FnRepliesBent': WHATEVER THE INPUT: true; the input reads as it did. -/
def fnRepliesBentSpec : ChangeSpec := { name := "fnRepliesBent", fn := fun _ => fun
  | [d] => { results := [.lit (.bool true)], args := [d] }
  | _ => none }
def fnRepliesBentRow : OpenClaim := { program := "ytpidgkkbmlgehaagreat", sum := "4da1cf4f69ea39959ebdb63ed7d381836c21aeecc51a6a8f23121dd8e04c163e", func := "loop.example/g00326/laws.FnRepliesBent", spec := "fnRepliesBent", apart := false }
def FnRepliesBentSaid : Prop := fnRepliesBentRow.holds Tryz.pinned (OpenSpec.ofChange fnRepliesBentSpec)

/-- ITS FALSE NEIGHBOUR: 'it returns false'. Refute it at one input. -/
def fnRepliesBentWrong : ChangeSpec := { name := "fnRepliesBent", fn := fun _ => fun
  | [d] => { results := [.lit (.bool false)], args := [d] }
  | _ => none }
def FnRepliesBentWrongFalsely : Prop := fnRepliesBentRow.holds Tryz.pinned (OpenSpec.ofChange fnRepliesBentWrong)

/-- 'laws.FnExactBridgeOnly': WHATEVER THE INPUT: true; the input reads as it did. -/
def fnExactBridgeOnlySpec : ChangeSpec := { name := "fnExactBridgeOnly", fn := fun _ => fun
  | [d1, d2] => { results := [.lit (.bool true)], args := [d1, d2] }
  | _ => none }
def fnExactBridgeOnlyRow : OpenClaim := { program := "ytpidgkkbmlgehaagreat", sum := "4da1cf4f69ea39959ebdb63ed7d381836c21aeecc51a6a8f23121dd8e04c163e", func := "loop.example/g00326/laws.FnExactBridgeOnly", spec := "fnExactBridgeOnly", apart := false }
def FnExactBridgeOnlySaid : Prop := fnExactBridgeOnlyRow.holds Tryz.pinned (OpenSpec.ofChange fnExactBridgeOnlySpec)

/-- ITS FALSE NEIGHBOUR: 'it returns false'. Refute it at one input. -/
def fnExactBridgeOnlyWrong : ChangeSpec := { name := "fnExactBridgeOnly", fn := fun _ => fun
  | [d1, d2] => { results := [.lit (.bool false)], args := [d1, d2] }
  | _ => none }
def FnExactBridgeOnlyWrongFalsely : Prop := fnExactBridgeOnlyRow.holds Tryz.pinned (OpenSpec.ofChange fnExactBridgeOnlyWrong)

/-- 'laws.FnAllGo': WHATEVER THE INPUT: true; the input reads as it did. -/
def fnAllGoSpec : ChangeSpec := { name := "fnAllGo", fn := fun _ => fun
  | [d] => { results := [.lit (.bool true)], args := [d] }
  | _ => none }
def fnAllGoRow : OpenClaim := { program := "ytpidgkkbmlgehaagreat", sum := "4da1cf4f69ea39959ebdb63ed7d381836c21aeecc51a6a8f23121dd8e04c163e", func := "loop.example/g00326/laws.FnAllGo", spec := "fnAllGo", apart := false }
def FnAllGoSaid : Prop := fnAllGoRow.holds Tryz.pinned (OpenSpec.ofChange fnAllGoSpec)

/-- ITS FALSE NEIGHBOUR: 'it returns false'. Refute it at one input. -/
def fnAllGoWrong : ChangeSpec := { name := "fnAllGo", fn := fun _ => fun
  | [d] => { results := [.lit (.bool false)], args := [d] }
  | _ => none }
def FnAllGoWrongFalsely : Prop := fnAllGoRow.holds Tryz.pinned (OpenSpec.ofChange fnAllGoWrong)

/-- 'laws.FnAgentsBent': WHATEVER THE INPUT: true; the input reads as it did. -/
def fnAgentsBentSpec : ChangeSpec := { name := "fnAgentsBent", fn := fun _ => fun
  | [d] => { results := [.lit (.bool true)], args := [d] }
  | _ => none }
def fnAgentsBentRow : OpenClaim := { program := "ytpidgkkbmlgehaagreat", sum := "4da1cf4f69ea39959ebdb63ed7d381836c21aeecc51a6a8f23121dd8e04c163e", func := "loop.example/g00326/laws.FnAgentsBent", spec := "fnAgentsBent", apart := false }
def FnAgentsBentSaid : Prop := fnAgentsBentRow.holds Tryz.pinned (OpenSpec.ofChange fnAgentsBentSpec)

/-- ITS FALSE NEIGHBOUR: 'it returns false'. Refute it at one input. -/
def fnAgentsBentWrong : ChangeSpec := { name := "fnAgentsBent", fn := fun _ => fun
  | [d] => { results := [.lit (.bool false)], args := [d] }
  | _ => none }
def FnAgentsBentWrongFalsely : Prop := fnAgentsBentRow.holds Tryz.pinned (OpenSpec.ofChange fnAgentsBentWrong)

/-- 'laws.FnActs': WHATEVER THE INPUT: true; the input reads as it did. -/
def fnActsSpec : ChangeSpec := { name := "fnActs", fn := fun _ => fun
  | [d] => { results := [.lit (.bool true)], args := [d] }
  | _ => none }
def fnActsRow : OpenClaim := { program := "ytpidgkkbmlgehaagreat", sum := "4da1cf4f69ea39959ebdb63ed7d381836c21aeecc51a6a8f23121dd8e04c163e", func := "loop.example/g00326/laws.FnActs", spec := "fnActs", apart := false }
def FnActsSaid : Prop := fnActsRow.holds Tryz.pinned (OpenSpec.ofChange fnActsSpec)

/-- ITS FALSE NEIGHBOUR: 'it returns false'. Refute it at one input. -/
def fnActsWrong : ChangeSpec := { name := "fnActs", fn := fun _ => fun
  | [d] => { results := [.lit (.bool false)], args := [d] }
  | _ => none }
def FnActsWrongFalsely : Prop := fnActsRow.holds Tryz.pinned (OpenSpec.ofChange fnActsWrong)

/-- 'laws.FnActsBent': WHATEVER THE INPUT: true; the input reads as it did. -/
def fnActsBentSpec : ChangeSpec := { name := "fnActsBent", fn := fun _ => fun
  | [d] => { results := [.lit (.bool true)], args := [d] }
  | _ => none }
def fnActsBentRow : OpenClaim := { program := "ytpidgkkbmlgehaagreat", sum := "4da1cf4f69ea39959ebdb63ed7d381836c21aeecc51a6a8f23121dd8e04c163e", func := "loop.example/g00326/laws.FnActsBent", spec := "fnActsBent", apart := false }
def FnActsBentSaid : Prop := fnActsBentRow.holds Tryz.pinned (OpenSpec.ofChange fnActsBentSpec)

/-- ITS FALSE NEIGHBOUR: 'it returns false'. Refute it at one input. -/
def fnActsBentWrong : ChangeSpec := { name := "fnActsBent", fn := fun _ => fun
  | [d] => { results := [.lit (.bool false)], args := [d] }
  | _ => none }
def FnActsBentWrongFalsely : Prop := fnActsBentRow.holds Tryz.pinned (OpenSpec.ofChange fnActsBentWrong)

/-- 'laws.FnExactReplyOf': WHATEVER THE INPUT: true; the input reads as it did. -/
def fnExactReplyOfSpec : ChangeSpec := { name := "fnExactReplyOf", fn := fun _ => fun
  | [d1, d2] => { results := [.lit (.bool true)], args := [d1, d2] }
  | _ => none }
def fnExactReplyOfRow : OpenClaim := { program := "ytpidgkkbmlgehaagreat", sum := "4da1cf4f69ea39959ebdb63ed7d381836c21aeecc51a6a8f23121dd8e04c163e", func := "loop.example/g00326/laws.FnExactReplyOf", spec := "fnExactReplyOf", apart := false }
def FnExactReplyOfSaid : Prop := fnExactReplyOfRow.holds Tryz.pinned (OpenSpec.ofChange fnExactReplyOfSpec)

/-- ITS FALSE NEIGHBOUR: 'it returns false'. Refute it at one input. -/
def fnExactReplyOfWrong : ChangeSpec := { name := "fnExactReplyOf", fn := fun _ => fun
  | [d1, d2] => { results := [.lit (.bool false)], args := [d1, d2] }
  | _ => none }
def FnExactReplyOfWrongFalsely : Prop := fnExactReplyOfRow.holds Tryz.pinned (OpenSpec.ofChange fnExactReplyOfWrong)

/- THE SECOND FORM. 'bulk': how many values and letters a reading holds, each counted each time it is reached (what is shared counts as often as it is met; a slice's spare places count too). A statement '..UptoSaid' is the law's where the arguments, and the package variables that the reading takes, are together of bulk at most 1048576: NARROWER than '..Said'. Prove '..Said' where nothing that the law and all that it calls make is longer than what came in: it says more and counts as full. Else prove '..UptoSaid'. A law counts once. -/
mutual
def uptoBulk {H : Type} : DataW H → Nat
  | .lit (.string bytes) => bytes.length + 1
  | .lit _ => 1
  | .nil => 1
  | .ptr d => uptoBulk d + 1
  | .slice elems spare => uptoBulkAll elems + uptoBulkAll spare + 1
  | .agg parts => uptoBulkAll parts + 1
  | .iface _ d => uptoBulk d + 1
  | .map entries => uptoBulkEntries entries + 1
  | .held _ => 1
def uptoBulkAll {H : Type} : List (DataW H) → Nat
  | [] => 0
  | d :: r => uptoBulk d + uptoBulkAll r
def uptoBulkEntries {H : Type} : List (Lit × DataW H) → Nat
  | [] => 0
  | x :: r => uptoBulkEntry x + uptoBulkEntries r
def uptoBulkEntry {H : Type} : Lit × DataW H → Nat
  | (.string bytes, d) => bytes.length + uptoBulk d + 1
  | (_, d) => uptoBulk d + 1
 end
def uptoSmall : (H : Type) → List (DataW H) → Bool := fun _ ds => decide (uptoBulkAll ds ≤ 1048576)
def OpenSpec.upto (s : _root_.Go.ChangeSpec) : _root_.Go.OpenSpec := { _root_.Go.OpenSpec.ofChange s with cond := some uptoSmall }

/-- 'laws.FnReplies', WHERE WHAT IT READS IS OF BULK AT MOST 1048576: true; the input reads as it did. -/
def fnRepliesUptoRow : OpenClaim := { program := "ytpidgkkbmlgehaagreat", sum := "4da1cf4f69ea39959ebdb63ed7d381836c21aeecc51a6a8f23121dd8e04c163e", func := "loop.example/g00326/laws.FnReplies", spec := "fnReplies", apart := false, narrowed := true }
def FnRepliesUptoSaid : Prop := fnRepliesUptoRow.holds Tryz.pinned (OpenSpec.upto fnRepliesSpec)

/-- 'laws.FnRepliesBent', WHERE WHAT IT READS IS OF BULK AT MOST 1048576: true; the input reads as it did. -/
def fnRepliesBentUptoRow : OpenClaim := { program := "ytpidgkkbmlgehaagreat", sum := "4da1cf4f69ea39959ebdb63ed7d381836c21aeecc51a6a8f23121dd8e04c163e", func := "loop.example/g00326/laws.FnRepliesBent", spec := "fnRepliesBent", apart := false, narrowed := true }
def FnRepliesBentUptoSaid : Prop := fnRepliesBentUptoRow.holds Tryz.pinned (OpenSpec.upto fnRepliesBentSpec)

/-- 'laws.FnExactBridgeOnly', WHERE WHAT IT READS IS OF BULK AT MOST 1048576: true; the input reads as it did. -/
def fnExactBridgeOnlyUptoRow : OpenClaim := { program := "ytpidgkkbmlgehaagreat", sum := "4da1cf4f69ea39959ebdb63ed7d381836c21aeecc51a6a8f23121dd8e04c163e", func := "loop.example/g00326/laws.FnExactBridgeOnly", spec := "fnExactBridgeOnly", apart := false, narrowed := true }
def FnExactBridgeOnlyUptoSaid : Prop := fnExactBridgeOnlyUptoRow.holds Tryz.pinned (OpenSpec.upto fnExactBridgeOnlySpec)

/-- 'laws.FnAllGo', WHERE WHAT IT READS IS OF BULK AT MOST 1048576: true; the input reads as it did. -/
def fnAllGoUptoRow : OpenClaim := { program := "ytpidgkkbmlgehaagreat", sum := "4da1cf4f69ea39959ebdb63ed7d381836c21aeecc51a6a8f23121dd8e04c163e", func := "loop.example/g00326/laws.FnAllGo", spec := "fnAllGo", apart := false, narrowed := true }
def FnAllGoUptoSaid : Prop := fnAllGoUptoRow.holds Tryz.pinned (OpenSpec.upto fnAllGoSpec)

/-- 'laws.FnAgentsBent', WHERE WHAT IT READS IS OF BULK AT MOST 1048576: true; the input reads as it did. -/
def fnAgentsBentUptoRow : OpenClaim := { program := "ytpidgkkbmlgehaagreat", sum := "4da1cf4f69ea39959ebdb63ed7d381836c21aeecc51a6a8f23121dd8e04c163e", func := "loop.example/g00326/laws.FnAgentsBent", spec := "fnAgentsBent", apart := false, narrowed := true }
def FnAgentsBentUptoSaid : Prop := fnAgentsBentUptoRow.holds Tryz.pinned (OpenSpec.upto fnAgentsBentSpec)

/-- 'laws.FnActs', WHERE WHAT IT READS IS OF BULK AT MOST 1048576: true; the input reads as it did. -/
def fnActsUptoRow : OpenClaim := { program := "ytpidgkkbmlgehaagreat", sum := "4da1cf4f69ea39959ebdb63ed7d381836c21aeecc51a6a8f23121dd8e04c163e", func := "loop.example/g00326/laws.FnActs", spec := "fnActs", apart := false, narrowed := true }
def FnActsUptoSaid : Prop := fnActsUptoRow.holds Tryz.pinned (OpenSpec.upto fnActsSpec)

/-- 'laws.FnActsBent', WHERE WHAT IT READS IS OF BULK AT MOST 1048576: true; the input reads as it did. -/
def fnActsBentUptoRow : OpenClaim := { program := "ytpidgkkbmlgehaagreat", sum := "4da1cf4f69ea39959ebdb63ed7d381836c21aeecc51a6a8f23121dd8e04c163e", func := "loop.example/g00326/laws.FnActsBent", spec := "fnActsBent", apart := false, narrowed := true }
def FnActsBentUptoSaid : Prop := fnActsBentUptoRow.holds Tryz.pinned (OpenSpec.upto fnActsBentSpec)

/-- 'laws.FnExactReplyOf', WHERE WHAT IT READS IS OF BULK AT MOST 1048576: true; the input reads as it did. -/
def fnExactReplyOfUptoRow : OpenClaim := { program := "ytpidgkkbmlgehaagreat", sum := "4da1cf4f69ea39959ebdb63ed7d381836c21aeecc51a6a8f23121dd8e04c163e", func := "loop.example/g00326/laws.FnExactReplyOf", spec := "fnExactReplyOf", apart := false, narrowed := true }
def FnExactReplyOfUptoSaid : Prop := fnExactReplyOfUptoRow.holds Tryz.pinned (OpenSpec.upto fnExactReplyOfSpec)

end Rows
end Go.Proofs.YtpidgkkbmlgehaaGreat
