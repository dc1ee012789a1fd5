/-
  No cell of these rows narrows 'for every input' (looked for: loops, veiled, ifaces, maps, wideKeys, modest, calm, conditions, laid).
  DERIVED. THE GIVEN ROWS OF THIS SEAT. 6 by the template 'for every input the law returns true; each argument reads behind the call as it read before'; 0 by the template 'total and deterministic' (their statements: YthcdcolihokdmaaGreatTotals.lean).
  GIVEN WITH THE SEED: the statements are not yours to turn. If you find one false, say at which input.
  Laid BY PROGRAM, IN A SANDBOX (cutbox-rows.mjs): the forced cells as the released guide's own fill.sh prints them over the translation 14a618cb20bc1461… (all of the seat's roots in one cut). By AI agents, Wed Nov 11 2026. No macro, syntax, notation, axiom, sorry.
-/
import Derived.Test.YthcdcolihokdmaaGreatChecked
import GoSem.Claim
import GoSem.ClaimJoined
import GoSem.ClaimMapViews
import Derived.JoinedTies
import Derived.KernelRfl
namespace Go.Proofs.YthcdcolihokdmaaGreat
/- THE CELL 'sum', in the pinned program and in every row, IS THE sha256 OF THE DUMP (.gsa) THAT YthcdcolihokdmaaGreatProg.lean LOADS. Nothing in Lean hashes anything: it is a label: what it is worth is what the hold of that sum in a sandbox is worth. -/
noncomputable def Tryz.pinned : Pinned := { name := "ythcdcolihokdmaagreat", sum := "14a618cb20bc1461d3119c77d310ef53a97c17dc5dd15743807fccfa2964a990", checked := Tryz.checked }
namespace Rows
def none {H : Type} : Left H := { results := [], args := [] }

/-- 'laws.FnJunk': WHATEVER THE INPUT: true; the input reads as it did. -/
def fnJunkSpec : ChangeSpec := { name := "fnJunk", fn := fun _ => fun
  | [d] => { results := [.lit (.bool true)], args := [d] }
  | _ => none }
def fnJunkRow : OpenClaim := { program := "ythcdcolihokdmaagreat", sum := "14a618cb20bc1461d3119c77d310ef53a97c17dc5dd15743807fccfa2964a990", func := "loop.example/g00326/laws.FnJunk", spec := "fnJunk", apart := false }
def FnJunkSaid : Prop := fnJunkRow.holds Tryz.pinned (OpenSpec.ofChange fnJunkSpec)

/-- ITS FALSE NEIGHBOUR: 'it returns false'. Refute it at one input. -/
def fnJunkWrong : ChangeSpec := { name := "fnJunk", fn := fun _ => fun
  | [d] => { results := [.lit (.bool false)], args := [d] }
  | _ => none }
def FnJunkWrongFalsely : Prop := fnJunkRow.holds Tryz.pinned (OpenSpec.ofChange fnJunkWrong)

/-- 'laws.FnExactFlow': WHATEVER THE INPUT: true; the input reads as it did. -/
def fnExactFlowSpec : ChangeSpec := { name := "fnExactFlow", fn := fun _ => fun
  | [d1, d2, d3, d4] => { results := [.lit (.bool true)], args := [d1, d2, d3, d4] }
  | _ => none }
def fnExactFlowRow : OpenClaim := { program := "ythcdcolihokdmaagreat", sum := "14a618cb20bc1461d3119c77d310ef53a97c17dc5dd15743807fccfa2964a990", func := "loop.example/g00326/laws.FnExactFlow", spec := "fnExactFlow", apart := false }
def FnExactFlowSaid : Prop := fnExactFlowRow.holds Tryz.pinned (OpenSpec.ofChange fnExactFlowSpec)

/-- ITS FALSE NEIGHBOUR: 'it returns false'. Refute it at one input. -/
def fnExactFlowWrong : ChangeSpec := { name := "fnExactFlow", fn := fun _ => fun
  | [d1, d2, d3, d4] => { results := [.lit (.bool false)], args := [d1, d2, d3, d4] }
  | _ => none }
def FnExactFlowWrongFalsely : Prop := fnExactFlowRow.holds Tryz.pinned (OpenSpec.ofChange fnExactFlowWrong)

/-- 'laws.FnExactWork': WHATEVER THE INPUT: true; the input reads as it did. -/
def fnExactWorkSpec : ChangeSpec := { name := "fnExactWork", fn := fun _ => fun
  | [d1, d2] => { results := [.lit (.bool true)], args := [d1, d2] }
  | _ => none }
def fnExactWorkRow : OpenClaim := { program := "ythcdcolihokdmaagreat", sum := "14a618cb20bc1461d3119c77d310ef53a97c17dc5dd15743807fccfa2964a990", func := "loop.example/g00326/laws.FnExactWork", spec := "fnExactWork", apart := false }
def FnExactWorkSaid : Prop := fnExactWorkRow.holds Tryz.pinned (OpenSpec.ofChange fnExactWorkSpec)

/-- ITS FALSE NEIGHBOUR: 'it returns false'. Refute it at one input. -/
def fnExactWorkWrong : ChangeSpec := { name := "fnExactWork", fn := fun _ => fun
  | [d1, d2] => { results := [.lit (.bool false)], args := [d1, d2] }
  | _ => none }
def FnExactWorkWrongFalsely : Prop := fnExactWorkRow.holds Tryz.pinned (OpenSpec.ofChange fnExactWorkWrong)

/-- 'laws.FnExactWorkAll': WHATEVER THE INPUT: true; the input reads as it did. -/
def fnExactWorkAllSpec : ChangeSpec := { name := "fnExactWorkAll", fn := fun _ => fun
  | [d1, d2] => { results := [.lit (.bool true)], args := [d1, d2] }
  | _ => none }
def fnExactWorkAllRow : OpenClaim := { program := "ythcdcolihokdmaagreat", sum := "14a618cb20bc1461d3119c77d310ef53a97c17dc5dd15743807fccfa2964a990", func := "loop.example/g00326/laws.FnExactWorkAll", spec := "fnExactWorkAll", apart := false }
def FnExactWorkAllSaid : Prop := fnExactWorkAllRow.holds Tryz.pinned (OpenSpec.ofChange fnExactWorkAllSpec)

/-- ITS FALSE NEIGHBOUR: 'it returns false'. Refute it at one input. -/
def fnExactWorkAllWrong : ChangeSpec := { name := "fnExactWorkAll", fn := fun _ => fun
  | [d1, d2] => { results := [.lit (.bool false)], args := [d1, d2] }
  | _ => none }
def FnExactWorkAllWrongFalsely : Prop := fnExactWorkAllRow.holds Tryz.pinned (OpenSpec.ofChange fnExactWorkAllWrong)

/-- 'laws.FnExactDoAct': WHATEVER THE INPUT: true; the input reads as it did. -/
def fnExactDoActSpec : ChangeSpec := { name := "fnExactDoAct", fn := fun _ => fun
  | [d1, d2] => { results := [.lit (.bool true)], args := [d1, d2] }
  | _ => none }
def fnExactDoActRow : OpenClaim := { program := "ythcdcolihokdmaagreat", sum := "14a618cb20bc1461d3119c77d310ef53a97c17dc5dd15743807fccfa2964a990", func := "loop.example/g00326/laws.FnExactDoAct", spec := "fnExactDoAct", apart := false }
def FnExactDoActSaid : Prop := fnExactDoActRow.holds Tryz.pinned (OpenSpec.ofChange fnExactDoActSpec)

/-- ITS FALSE NEIGHBOUR: 'it returns false'. Refute it at one input. -/
def fnExactDoActWrong : ChangeSpec := { name := "fnExactDoAct", fn := fun _ => fun
  | [d1, d2] => { results := [.lit (.bool false)], args := [d1, d2] }
  | _ => none }
def FnExactDoActWrongFalsely : Prop := fnExactDoActRow.holds Tryz.pinned (OpenSpec.ofChange fnExactDoActWrong)

/-- 'laws.FnExactPlayActs': WHATEVER THE INPUT: true; the input reads as it did. -/
def fnExactPlayActsSpec : ChangeSpec := { name := "fnExactPlayActs", fn := fun _ => fun
  | [d1, d2] => { results := [.lit (.bool true)], args := [d1, d2] }
  | _ => none }
def fnExactPlayActsRow : OpenClaim := { program := "ythcdcolihokdmaagreat", sum := "14a618cb20bc1461d3119c77d310ef53a97c17dc5dd15743807fccfa2964a990", func := "loop.example/g00326/laws.FnExactPlayActs", spec := "fnExactPlayActs", apart := false }
def FnExactPlayActsSaid : Prop := fnExactPlayActsRow.holds Tryz.pinned (OpenSpec.ofChange fnExactPlayActsSpec)

/-- ITS FALSE NEIGHBOUR: 'it returns false'. Refute it at one input. -/
def fnExactPlayActsWrong : ChangeSpec := { name := "fnExactPlayActs", fn := fun _ => fun
  | [d1, d2] => { results := [.lit (.bool false)], args := [d1, d2] }
  | _ => none }
def FnExactPlayActsWrongFalsely : Prop := fnExactPlayActsRow.holds Tryz.pinned (OpenSpec.ofChange fnExactPlayActsWrong)

/- THE SECOND FORM. 'bulk': how many values and letters a reading holds, each counted each time it is reached (what is shared counts as often as it is met; a slice's spare places count too). A statement '..UptoSaid' is the law's where the arguments, and the package variables that the reading takes, are together of bulk at most 1048576: NARROWER than '..Said'. Prove '..Said' where nothing that the law and all that it calls make is longer than what came in: it says more and counts as full. Else prove '..UptoSaid'. A law counts once. -/
mutual
def uptoBulk {H : Type} : DataW H → Nat
  | .lit (.string bytes) => bytes.length + 1
  | .lit _ => 1
  | .nil => 1
  | .ptr d => uptoBulk d + 1
  | .slice elems spare => uptoBulkAll elems + uptoBulkAll spare + 1
  | .agg parts => uptoBulkAll parts + 1
  | .iface _ d => uptoBulk d + 1
  | .map entries => uptoBulkEntries entries + 1
  | .held _ => 1
def uptoBulkAll {H : Type} : List (DataW H) → Nat
  | [] => 0
  | d :: r => uptoBulk d + uptoBulkAll r
def uptoBulkEntries {H : Type} : List (Lit × DataW H) → Nat
  | [] => 0
  | x :: r => uptoBulkEntry x + uptoBulkEntries r
def uptoBulkEntry {H : Type} : Lit × DataW H → Nat
  | (.string bytes, d) => bytes.length + uptoBulk d + 1
  | (_, d) => uptoBulk d + 1
 end
def uptoSmall : (H : Type) → List (DataW H) → Bool := fun _ ds => decide (uptoBulkAll ds ≤ 1048576)
def OpenSpec.upto (s : _root_.Go.ChangeSpec) : _root_.Go.OpenSpec := { _root_.Go.OpenSpec.ofChange s with cond := some uptoSmall }

/-- 'laws.FnJunk', WHERE WHAT IT READS IS OF BULK AT MOST 1048576: true; the input reads as it did. -/
def fnJunkUptoRow : OpenClaim := { program := "ythcdcolihokdmaagreat", sum := "14a618cb20bc1461d3119c77d310ef53a97c17dc5dd15743807fccfa2964a990", func := "loop.example/g00326/laws.FnJunk", spec := "fnJunk", apart := false, narrowed := true }
def FnJunkUptoSaid : Prop := fnJunkUptoRow.holds Tryz.pinned (OpenSpec.upto fnJunkSpec)

/-- 'laws.FnExactFlow', WHERE WHAT IT READS IS OF BULK AT MOST 1048576: true; the input reads as it did. -/
def fnExactFlowUptoRow : OpenClaim := { program := "ythcdcolihokdmaagreat", sum := "14a618cb20bc1461d3119c77d310ef53a97c17dc5dd15743807fccfa2964a990", func := "loop.example/g00326/laws.FnExactFlow", spec := "fnExactFlow", apart := false, narrowed := true }
def FnExactFlowUptoSaid : Prop := fnExactFlowUptoRow.holds Tryz.pinned (OpenSpec.upto fnExactFlowSpec)

/-- 'laws.FnExactWork', WHERE WHAT IT READS IS OF BULK AT MOST 1048576: true; the input reads as it did. -/
def fnExactWorkUptoRow : OpenClaim := { program := "ythcdcolihokdmaagreat", sum := "14a618cb20bc1461d3119c77d310ef53a97c17dc5dd15743807fccfa2964a990", func := "loop.example/g00326/laws.FnExactWork", spec := "fnExactWork", apart := false, narrowed := true }
def FnExactWorkUptoSaid : Prop := fnExactWorkUptoRow.holds Tryz.pinned (OpenSpec.upto fnExactWorkSpec)

/-- 'laws.FnExactWorkAll', WHERE WHAT IT READS IS OF BULK AT MOST 1048576: true; the input reads as it did. -/
def fnExactWorkAllUptoRow : OpenClaim := { program := "ythcdcolihokdmaagreat", sum := "14a618cb20bc1461d3119c77d310ef53a97c17dc5dd15743807fccfa2964a990", func := "loop.example/g00326/laws.FnExactWorkAll", spec := "fnExactWorkAll", apart := false, narrowed := true }
def FnExactWorkAllUptoSaid : Prop := fnExactWorkAllUptoRow.holds Tryz.pinned (OpenSpec.upto fnExactWorkAllSpec)

/-- 'laws.FnExactDoAct', WHERE WHAT IT READS IS OF BULK AT MOST 1048576: true; the input reads as it did. -/
def fnExactDoActUptoRow : OpenClaim := { program := "ythcdcolihokdmaagreat", sum := "14a618cb20bc1461d3119c77d310ef53a97c17dc5dd15743807fccfa2964a990", func := "loop.example/g00326/laws.FnExactDoAct", spec := "fnExactDoAct", apart := false, narrowed := true }
def FnExactDoActUptoSaid : Prop := fnExactDoActUptoRow.holds Tryz.pinned (OpenSpec.upto fnExactDoActSpec)

/-- 'laws.FnExactPlayActs', WHERE WHAT IT READS IS OF BULK AT MOST 1048576: true; the input reads as it did. -/
def fnExactPlayActsUptoRow : OpenClaim := { program := "ythcdcolihokdmaagreat", sum := "14a618cb20bc1461d3119c77d310ef53a97c17dc5dd15743807fccfa2964a990", func := "loop.example/g00326/laws.FnExactPlayActs", spec := "fnExactPlayActs", apart := false, narrowed := true }
def FnExactPlayActsUptoSaid : Prop := fnExactPlayActsUptoRow.holds Tryz.pinned (OpenSpec.upto fnExactPlayActsSpec)

end Rows
end Go.Proofs.YthcdcolihokdmaaGreat
