/-
  No cell of these rows narrows 'for every input' (looked for: loops, veiled, ifaces, maps, wideKeys, modest, calm, conditions, laid).
  DERIVED. THE GIVEN ROWS OF THIS SEAT. 6 by the template 'for every input the law returns true; each argument reads behind the call as it read before'; 0 by the template 'total and deterministic' (their statements: YtbdckemcagaldaaTotals.lean).
  GIVEN WITH THE SEED: the statements are not yours to turn. If you find one false, say at which input.
  Laid BY PROGRAM, IN A SANDBOX (cutbox-rows.mjs): the forced cells as the released guide's own fill.sh prints them over the translation 6651d359c2313432… (all of the seat's roots in one cut). By AI agents, Wed Nov 11 2026. No macro, syntax, notation, axiom, sorry.
-/
import Derived.Test.YtbdckemcagaldaaChecked
import GoSem.Claim
import GoSem.ClaimJoined
import GoSem.ClaimMapViews
import Derived.JoinedTies
import Derived.KernelRfl
namespace Go.Proofs.Ytbdckemcagaldaa
/- THE CELL 'sum', in the pinned program and in every row, IS THE sha256 OF THE DUMP (.gsa) THAT YtbdckemcagaldaaProg.lean LOADS. Nothing in Lean hashes anything: it is a label: what it is worth is what the hold of that sum in a sandbox is worth. -/
noncomputable def Try.pinned : Pinned := { name := "ytbdckemcagaldaa", sum := "6651d359c2313432c7569ec92af35a49937f7a285663fedc0c7e4b3222d171ae", checked := Try.checked }
namespace Rows
def none {H : Type} : Left H := { results := [], args := [] }

/-- 'laws.FnExactCellDo': WHATEVER THE INPUT: true; the input reads as it did. -/
def fnExactCellDoSpec : ChangeSpec := { name := "fnExactCellDo", fn := fun _ => fun
  | [d1, d2] => { results := [.lit (.bool true)], args := [d1, d2] }
  | _ => none }
def fnExactCellDoRow : OpenClaim := { program := "ytbdckemcagaldaa", sum := "6651d359c2313432c7569ec92af35a49937f7a285663fedc0c7e4b3222d171ae", func := "loop.example/comptoir/laws.FnExactCellDo", spec := "fnExactCellDo", unfollowed := true, recurses := true, apart := false }
def FnExactCellDoSaid : Prop := fnExactCellDoRow.holds Try.pinned (OpenSpec.ofChange fnExactCellDoSpec)

/-- ITS FALSE NEIGHBOUR: 'it returns false'. Refute it at one input. -/
def fnExactCellDoWrong : ChangeSpec := { name := "fnExactCellDo", fn := fun _ => fun
  | [d1, d2] => { results := [.lit (.bool false)], args := [d1, d2] }
  | _ => none }
def FnExactCellDoWrongFalsely : Prop := fnExactCellDoRow.holds Try.pinned (OpenSpec.ofChange fnExactCellDoWrong)

/-- 'laws.FnExactCellAll': WHATEVER THE INPUT: true; the input reads as it did. -/
def fnExactCellAllSpec : ChangeSpec := { name := "fnExactCellAll", fn := fun _ => fun
  | [d1, d2, d3] => { results := [.lit (.bool true)], args := [d1, d2, d3] }
  | _ => none }
def fnExactCellAllRow : OpenClaim := { program := "ytbdckemcagaldaa", sum := "6651d359c2313432c7569ec92af35a49937f7a285663fedc0c7e4b3222d171ae", func := "loop.example/comptoir/laws.FnExactCellAll", spec := "fnExactCellAll", unfollowed := true, recurses := true, apart := false }
def FnExactCellAllSaid : Prop := fnExactCellAllRow.holds Try.pinned (OpenSpec.ofChange fnExactCellAllSpec)

/-- ITS FALSE NEIGHBOUR: 'it returns false'. Refute it at one input. -/
def fnExactCellAllWrong : ChangeSpec := { name := "fnExactCellAll", fn := fun _ => fun
  | [d1, d2, d3] => { results := [.lit (.bool false)], args := [d1, d2, d3] }
  | _ => none }
def FnExactCellAllWrongFalsely : Prop := fnExactCellAllRow.holds Try.pinned (OpenSpec.ofChange fnExactCellAllWrong)

/-- 'laws.FnCellDo': WHATEVER THE INPUT: true; the input reads as it did. -/
def fnCellDoSpec : ChangeSpec := { name := "fnCellDo", fn := fun _ => fun
  | [d1, d2] => { results := [.lit (.bool true)], args := [d1, d2] }
  | _ => none }
def fnCellDoRow : OpenClaim := { program := "ytbdckemcagaldaa", sum := "6651d359c2313432c7569ec92af35a49937f7a285663fedc0c7e4b3222d171ae", func := "loop.example/comptoir/laws.FnCellDo", spec := "fnCellDo", unfollowed := true, recurses := true, apart := false }
def FnCellDoSaid : Prop := fnCellDoRow.holds Try.pinned (OpenSpec.ofChange fnCellDoSpec)

/-- ITS FALSE NEIGHBOUR: 'it returns false'. Refute it at one input. -/
def fnCellDoWrong : ChangeSpec := { name := "fnCellDo", fn := fun _ => fun
  | [d1, d2] => { results := [.lit (.bool false)], args := [d1, d2] }
  | _ => none }
def FnCellDoWrongFalsely : Prop := fnCellDoRow.holds Try.pinned (OpenSpec.ofChange fnCellDoWrong)

/-- 'laws.FnCellAll': WHATEVER THE INPUT: true; the input reads as it did. -/
def fnCellAllSpec : ChangeSpec := { name := "fnCellAll", fn := fun _ => fun
  | [d1, d2] => { results := [.lit (.bool true)], args := [d1, d2] }
  | _ => none }
def fnCellAllRow : OpenClaim := { program := "ytbdckemcagaldaa", sum := "6651d359c2313432c7569ec92af35a49937f7a285663fedc0c7e4b3222d171ae", func := "loop.example/comptoir/laws.FnCellAll", spec := "fnCellAll", unfollowed := true, recurses := true, apart := false }
def FnCellAllSaid : Prop := fnCellAllRow.holds Try.pinned (OpenSpec.ofChange fnCellAllSpec)

/-- ITS FALSE NEIGHBOUR: 'it returns false'. Refute it at one input. -/
def fnCellAllWrong : ChangeSpec := { name := "fnCellAll", fn := fun _ => fun
  | [d1, d2] => { results := [.lit (.bool false)], args := [d1, d2] }
  | _ => none }
def FnCellAllWrongFalsely : Prop := fnCellAllRow.holds Try.pinned (OpenSpec.ofChange fnCellAllWrong)

/-- 'laws.FnCellNext': WHATEVER THE INPUT: true; the input reads as it did. -/
def fnCellNextSpec : ChangeSpec := { name := "fnCellNext", fn := fun _ => fun
  | [d] => { results := [.lit (.bool true)], args := [d] }
  | _ => none }
def fnCellNextRow : OpenClaim := { program := "ytbdckemcagaldaa", sum := "6651d359c2313432c7569ec92af35a49937f7a285663fedc0c7e4b3222d171ae", func := "loop.example/comptoir/laws.FnCellNext", spec := "fnCellNext", unfollowed := true, recurses := true, apart := false }
def FnCellNextSaid : Prop := fnCellNextRow.holds Try.pinned (OpenSpec.ofChange fnCellNextSpec)

/-- ITS FALSE NEIGHBOUR: 'it returns false'. Refute it at one input. -/
def fnCellNextWrong : ChangeSpec := { name := "fnCellNext", fn := fun _ => fun
  | [d] => { results := [.lit (.bool false)], args := [d] }
  | _ => none }
def FnCellNextWrongFalsely : Prop := fnCellNextRow.holds Try.pinned (OpenSpec.ofChange fnCellNextWrong)

/-- 'laws.FnCellSum': WHATEVER THE INPUT: true; the input reads as it did. -/
def fnCellSumSpec : ChangeSpec := { name := "fnCellSum", fn := fun _ => fun
  | [d] => { results := [.lit (.bool true)], args := [d] }
  | _ => none }
def fnCellSumRow : OpenClaim := { program := "ytbdckemcagaldaa", sum := "6651d359c2313432c7569ec92af35a49937f7a285663fedc0c7e4b3222d171ae", func := "loop.example/comptoir/laws.FnCellSum", spec := "fnCellSum", unfollowed := true, recurses := true, apart := false }
def FnCellSumSaid : Prop := fnCellSumRow.holds Try.pinned (OpenSpec.ofChange fnCellSumSpec)

/-- ITS FALSE NEIGHBOUR: 'it returns false'. Refute it at one input. -/
def fnCellSumWrong : ChangeSpec := { name := "fnCellSum", fn := fun _ => fun
  | [d] => { results := [.lit (.bool false)], args := [d] }
  | _ => none }
def FnCellSumWrongFalsely : Prop := fnCellSumRow.holds Try.pinned (OpenSpec.ofChange fnCellSumWrong)

/- THE SECOND FORM. 'bulk': how many values and letters a reading holds, each counted each time it is reached (what is shared counts as often as it is met; a slice's spare places count too). A statement '..UptoSaid' is the law's where the arguments, and the package variables that the reading takes, are together of bulk at most 1048576: NARROWER than '..Said'. Prove '..Said' where nothing that the law and all that it calls make is longer than what came in: it says more and counts as full. Else prove '..UptoSaid'. A law counts once. -/
mutual
def uptoBulk {H : Type} : DataW H → Nat
  | .lit (.string bytes) => bytes.length + 1
  | .lit _ => 1
  | .nil => 1
  | .ptr d => uptoBulk d + 1
  | .slice elems spare => uptoBulkAll elems + uptoBulkAll spare + 1
  | .agg parts => uptoBulkAll parts + 1
  | .iface _ d => uptoBulk d + 1
  | .map entries => uptoBulkEntries entries + 1
  | .held _ => 1
def uptoBulkAll {H : Type} : List (DataW H) → Nat
  | [] => 0
  | d :: r => uptoBulk d + uptoBulkAll r
def uptoBulkEntries {H : Type} : List (Lit × DataW H) → Nat
  | [] => 0
  | x :: r => uptoBulkEntry x + uptoBulkEntries r
def uptoBulkEntry {H : Type} : Lit × DataW H → Nat
  | (.string bytes, d) => bytes.length + uptoBulk d + 1
  | (_, d) => uptoBulk d + 1
 end
def uptoSmall : (H : Type) → List (DataW H) → Bool := fun _ ds => decide (uptoBulkAll ds ≤ 1048576)
def OpenSpec.upto (s : _root_.Go.ChangeSpec) : _root_.Go.OpenSpec := { _root_.Go.OpenSpec.ofChange s with cond := some uptoSmall }

/-- 'laws.FnExactCellDo', WHERE WHAT IT READS IS OF BULK AT MOST 1048576: true; the input reads as it did. -/
def fnExactCellDoUptoRow : OpenClaim := { program := "ytbdckemcagaldaa", sum := "6651d359c2313432c7569ec92af35a49937f7a285663fedc0c7e4b3222d171ae", func := "loop.example/comptoir/laws.FnExactCellDo", spec := "fnExactCellDo", unfollowed := true, recurses := true, apart := false, narrowed := true }
def FnExactCellDoUptoSaid : Prop := fnExactCellDoUptoRow.holds Try.pinned (OpenSpec.upto fnExactCellDoSpec)

/-- 'laws.FnExactCellAll', WHERE WHAT IT READS IS OF BULK AT MOST 1048576: true; the input reads as it did. -/
def fnExactCellAllUptoRow : OpenClaim := { program := "ytbdckemcagaldaa", sum := "6651d359c2313432c7569ec92af35a49937f7a285663fedc0c7e4b3222d171ae", func := "loop.example/comptoir/laws.FnExactCellAll", spec := "fnExactCellAll", unfollowed := true, recurses := true, apart := false, narrowed := true }
def FnExactCellAllUptoSaid : Prop := fnExactCellAllUptoRow.holds Try.pinned (OpenSpec.upto fnExactCellAllSpec)

/-- 'laws.FnCellDo', WHERE WHAT IT READS IS OF BULK AT MOST 1048576: true; the input reads as it did. -/
def fnCellDoUptoRow : OpenClaim := { program := "ytbdckemcagaldaa", sum := "6651d359c2313432c7569ec92af35a49937f7a285663fedc0c7e4b3222d171ae", func := "loop.example/comptoir/laws.FnCellDo", spec := "fnCellDo", unfollowed := true, recurses := true, apart := false, narrowed := true }
def FnCellDoUptoSaid : Prop := fnCellDoUptoRow.holds Try.pinned (OpenSpec.upto fnCellDoSpec)

/-- 'laws.FnCellAll', WHERE WHAT IT READS IS OF BULK AT MOST 1048576: true; the input reads as it did. -/
def fnCellAllUptoRow : OpenClaim := { program := "ytbdckemcagaldaa", sum := "6651d359c2313432c7569ec92af35a49937f7a285663fedc0c7e4b3222d171ae", func := "loop.example/comptoir/laws.FnCellAll", spec := "fnCellAll", unfollowed := true, recurses := true, apart := false, narrowed := true }
def FnCellAllUptoSaid : Prop := fnCellAllUptoRow.holds Try.pinned (OpenSpec.upto fnCellAllSpec)

/-- 'laws.FnCellNext', WHERE WHAT IT READS IS OF BULK AT MOST 1048576: true; the input reads as it did. -/
def fnCellNextUptoRow : OpenClaim := { program := "ytbdckemcagaldaa", sum := "6651d359c2313432c7569ec92af35a49937f7a285663fedc0c7e4b3222d171ae", func := "loop.example/comptoir/laws.FnCellNext", spec := "fnCellNext", unfollowed := true, recurses := true, apart := false, narrowed := true }
def FnCellNextUptoSaid : Prop := fnCellNextUptoRow.holds Try.pinned (OpenSpec.upto fnCellNextSpec)

/-- 'laws.FnCellSum', WHERE WHAT IT READS IS OF BULK AT MOST 1048576: true; the input reads as it did. -/
def fnCellSumUptoRow : OpenClaim := { program := "ytbdckemcagaldaa", sum := "6651d359c2313432c7569ec92af35a49937f7a285663fedc0c7e4b3222d171ae", func := "loop.example/comptoir/laws.FnCellSum", spec := "fnCellSum", unfollowed := true, recurses := true, apart := false, narrowed := true }
def FnCellSumUptoSaid : Prop := fnCellSumUptoRow.holds Try.pinned (OpenSpec.upto fnCellSumSpec)

end Rows
end Go.Proofs.Ytbdckemcagaldaa
