/-
  No cell of these rows narrows 'for every input' (looked for: loops, veiled, ifaces, maps, wideKeys, modest, calm, conditions, laid).
  DERIVED. THE GIVEN ROWS OF THIS SEAT. 6 by the template 'for every input the law returns true; each argument reads behind the call as it read before'; 0 by the template 'total and deterministic' (their statements: YtcfebbhiehaocaaTotals.lean).
  GIVEN WITH THE SEED: the statements are not yours to turn. If you find one false, say at which input.
  Laid BY PROGRAM, IN A SANDBOX (cutbox-rows.mjs): the forced cells as the released guide's own fill.sh prints them over the translation d874f01b47410713… (all of the seat's roots in one cut). By AI agents, Wed Nov 11 2026. No macro, syntax, notation, axiom, sorry.
-/
import Derived.Test.YtcfebbhiehaocaaChecked
import GoSem.Claim
import GoSem.ClaimJoined
import GoSem.ClaimMapViews
import Derived.JoinedTies
import Derived.KernelRfl
namespace Go.Proofs.Ytcfebbhiehaocaa
/- THE CELL 'sum', in the pinned program and in every row, IS THE sha256 OF THE DUMP (.gsa) THAT YtcfebbhiehaocaaProg.lean LOADS. Nothing in Lean hashes anything: it is a label: what it is worth is what the hold of that sum in a sandbox is worth. -/
noncomputable def Try.pinned : Pinned := { name := "ytcfebbhiehaocaa", sum := "d874f01b47410713ef9aff4534e6316ec95b8ef9fbba2b977d5a4ad608c16e69", checked := Try.checked }
namespace Rows
def none {H : Type} : Left H := { results := [], args := [] }

/-- 'laws.FnExactSquash': WHATEVER THE INPUT: true; the input reads as it did. -/
def fnExactSquashSpec : ChangeSpec := { name := "fnExactSquash", fn := fun _ => fun
  | [d1, d2, d3] => { results := [.lit (.bool true)], args := [d1, d2, d3] }
  | _ => none }
def fnExactSquashRow : OpenClaim := { program := "ytcfebbhiehaocaa", sum := "d874f01b47410713ef9aff4534e6316ec95b8ef9fbba2b977d5a4ad608c16e69", func := "loop.example/comptoir/laws.FnExactSquash", spec := "fnExactSquash", unfollowed := true, recurses := true, apart := false }
def FnExactSquashSaid : Prop := fnExactSquashRow.holds Try.pinned (OpenSpec.ofChange fnExactSquashSpec)

/-- ITS FALSE NEIGHBOUR: 'it returns false'. Refute it at one input. -/
def fnExactSquashWrong : ChangeSpec := { name := "fnExactSquash", fn := fun _ => fun
  | [d1, d2, d3] => { results := [.lit (.bool false)], args := [d1, d2, d3] }
  | _ => none }
def FnExactSquashWrongFalsely : Prop := fnExactSquashRow.holds Try.pinned (OpenSpec.ofChange fnExactSquashWrong)

/-- 'laws.FnExactRunOk': WHATEVER THE INPUT: true; the input reads as it did. -/
def fnExactRunOkSpec : ChangeSpec := { name := "fnExactRunOk", fn := fun _ => fun
  | [d] => { results := [.lit (.bool true)], args := [d] }
  | _ => none }
def fnExactRunOkRow : OpenClaim := { program := "ytcfebbhiehaocaa", sum := "d874f01b47410713ef9aff4534e6316ec95b8ef9fbba2b977d5a4ad608c16e69", func := "loop.example/comptoir/laws.FnExactRunOk", spec := "fnExactRunOk", unfollowed := true, recurses := true, apart := false }
def FnExactRunOkSaid : Prop := fnExactRunOkRow.holds Try.pinned (OpenSpec.ofChange fnExactRunOkSpec)

/-- ITS FALSE NEIGHBOUR: 'it returns false'. Refute it at one input. -/
def fnExactRunOkWrong : ChangeSpec := { name := "fnExactRunOk", fn := fun _ => fun
  | [d] => { results := [.lit (.bool false)], args := [d] }
  | _ => none }
def FnExactRunOkWrongFalsely : Prop := fnExactRunOkRow.holds Try.pinned (OpenSpec.ofChange fnExactRunOkWrong)

/-- 'laws.FnMerge': WHATEVER THE INPUT: true; the input reads as it did. -/
def fnMergeSpec : ChangeSpec := { name := "fnMerge", fn := fun _ => fun
  | [d] => { results := [.lit (.bool true)], args := [d] }
  | _ => none }
def fnMergeRow : OpenClaim := { program := "ytcfebbhiehaocaa", sum := "d874f01b47410713ef9aff4534e6316ec95b8ef9fbba2b977d5a4ad608c16e69", func := "loop.example/comptoir/laws.FnMerge", spec := "fnMerge", unfollowed := true, recurses := true, apart := false }
def FnMergeSaid : Prop := fnMergeRow.holds Try.pinned (OpenSpec.ofChange fnMergeSpec)

/-- ITS FALSE NEIGHBOUR: 'it returns false'. Refute it at one input. -/
def fnMergeWrong : ChangeSpec := { name := "fnMerge", fn := fun _ => fun
  | [d] => { results := [.lit (.bool false)], args := [d] }
  | _ => none }
def FnMergeWrongFalsely : Prop := fnMergeRow.holds Try.pinned (OpenSpec.ofChange fnMergeWrong)

/-- 'laws.FnSquashTimes': WHATEVER THE INPUT: true; the input reads as it did. -/
def fnSquashTimesSpec : ChangeSpec := { name := "fnSquashTimes", fn := fun _ => fun
  | [d] => { results := [.lit (.bool true)], args := [d] }
  | _ => none }
def fnSquashTimesRow : OpenClaim := { program := "ytcfebbhiehaocaa", sum := "d874f01b47410713ef9aff4534e6316ec95b8ef9fbba2b977d5a4ad608c16e69", func := "loop.example/comptoir/laws.FnSquashTimes", spec := "fnSquashTimes", unfollowed := true, recurses := true, apart := false }
def FnSquashTimesSaid : Prop := fnSquashTimesRow.holds Try.pinned (OpenSpec.ofChange fnSquashTimesSpec)

/-- ITS FALSE NEIGHBOUR: 'it returns false'. Refute it at one input. -/
def fnSquashTimesWrong : ChangeSpec := { name := "fnSquashTimes", fn := fun _ => fun
  | [d] => { results := [.lit (.bool false)], args := [d] }
  | _ => none }
def FnSquashTimesWrongFalsely : Prop := fnSquashTimesRow.holds Try.pinned (OpenSpec.ofChange fnSquashTimesWrong)

/-- 'laws.FnSquashTwice': WHATEVER THE INPUT: true; the input reads as it did. -/
def fnSquashTwiceSpec : ChangeSpec := { name := "fnSquashTwice", fn := fun _ => fun
  | [d] => { results := [.lit (.bool true)], args := [d] }
  | _ => none }
def fnSquashTwiceRow : OpenClaim := { program := "ytcfebbhiehaocaa", sum := "d874f01b47410713ef9aff4534e6316ec95b8ef9fbba2b977d5a4ad608c16e69", func := "loop.example/comptoir/laws.FnSquashTwice", spec := "fnSquashTwice", unfollowed := true, recurses := true, apart := false }
def FnSquashTwiceSaid : Prop := fnSquashTwiceRow.holds Try.pinned (OpenSpec.ofChange fnSquashTwiceSpec)

/-- ITS FALSE NEIGHBOUR: 'it returns false'. Refute it at one input. -/
def fnSquashTwiceWrong : ChangeSpec := { name := "fnSquashTwice", fn := fun _ => fun
  | [d] => { results := [.lit (.bool false)], args := [d] }
  | _ => none }
def FnSquashTwiceWrongFalsely : Prop := fnSquashTwiceRow.holds Try.pinned (OpenSpec.ofChange fnSquashTwiceWrong)

/-- 'laws.FnSquashFew': WHATEVER THE INPUT: true; the input reads as it did. -/
def fnSquashFewSpec : ChangeSpec := { name := "fnSquashFew", fn := fun _ => fun
  | [d] => { results := [.lit (.bool true)], args := [d] }
  | _ => none }
def fnSquashFewRow : OpenClaim := { program := "ytcfebbhiehaocaa", sum := "d874f01b47410713ef9aff4534e6316ec95b8ef9fbba2b977d5a4ad608c16e69", func := "loop.example/comptoir/laws.FnSquashFew", spec := "fnSquashFew", unfollowed := true, recurses := true, apart := false }
def FnSquashFewSaid : Prop := fnSquashFewRow.holds Try.pinned (OpenSpec.ofChange fnSquashFewSpec)

/-- ITS FALSE NEIGHBOUR: 'it returns false'. Refute it at one input. -/
def fnSquashFewWrong : ChangeSpec := { name := "fnSquashFew", fn := fun _ => fun
  | [d] => { results := [.lit (.bool false)], args := [d] }
  | _ => none }
def FnSquashFewWrongFalsely : Prop := fnSquashFewRow.holds Try.pinned (OpenSpec.ofChange fnSquashFewWrong)

/- THE SECOND FORM. 'bulk': how many values and letters a reading holds, each counted each time it is reached (what is shared counts as often as it is met; a slice's spare places count too). A statement '..UptoSaid' is the law's where the arguments, and the package variables that the reading takes, are together of bulk at most 1048576: NARROWER than '..Said'. Prove '..Said' where nothing that the law and all that it calls make is longer than what came in: it says more and counts as full. Else prove '..UptoSaid'. A law counts once. -/
mutual
def uptoBulk {H : Type} : DataW H → Nat
  | .lit (.string bytes) => bytes.length + 1
  | .lit _ => 1
  | .nil => 1
  | .ptr d => uptoBulk d + 1
  | .slice elems spare => uptoBulkAll elems + uptoBulkAll spare + 1
  | .agg parts => uptoBulkAll parts + 1
  | .iface _ d => uptoBulk d + 1
  | .map entries => uptoBulkEntries entries + 1
  | .held _ => 1
def uptoBulkAll {H : Type} : List (DataW H) → Nat
  | [] => 0
  | d :: r => uptoBulk d + uptoBulkAll r
def uptoBulkEntries {H : Type} : List (Lit × DataW H) → Nat
  | [] => 0
  | x :: r => uptoBulkEntry x + uptoBulkEntries r
def uptoBulkEntry {H : Type} : Lit × DataW H → Nat
  | (.string bytes, d) => bytes.length + uptoBulk d + 1
  | (_, d) => uptoBulk d + 1
 end
def uptoSmall : (H : Type) → List (DataW H) → Bool := fun _ ds => decide (uptoBulkAll ds ≤ 1048576)
def OpenSpec.upto (s : _root_.Go.ChangeSpec) : _root_.Go.OpenSpec := { _root_.Go.OpenSpec.ofChange s with cond := some uptoSmall }

/-- 'laws.FnExactSquash', WHERE WHAT IT READS IS OF BULK AT MOST 1048576: true; the input reads as it did. -/
def fnExactSquashUptoRow : OpenClaim := { program := "ytcfebbhiehaocaa", sum := "d874f01b47410713ef9aff4534e6316ec95b8ef9fbba2b977d5a4ad608c16e69", func := "loop.example/comptoir/laws.FnExactSquash", spec := "fnExactSquash", unfollowed := true, recurses := true, apart := false, narrowed := true }
def FnExactSquashUptoSaid : Prop := fnExactSquashUptoRow.holds Try.pinned (OpenSpec.upto fnExactSquashSpec)

/-- 'laws.FnExactRunOk', WHERE WHAT IT READS IS OF BULK AT MOST 1048576: true; the input reads as it did. -/
def fnExactRunOkUptoRow : OpenClaim := { program := "ytcfebbhiehaocaa", sum := "d874f01b47410713ef9aff4534e6316ec95b8ef9fbba2b977d5a4ad608c16e69", func := "loop.example/comptoir/laws.FnExactRunOk", spec := "fnExactRunOk", unfollowed := true, recurses := true, apart := false, narrowed := true }
def FnExactRunOkUptoSaid : Prop := fnExactRunOkUptoRow.holds Try.pinned (OpenSpec.upto fnExactRunOkSpec)

/-- 'laws.FnMerge', WHERE WHAT IT READS IS OF BULK AT MOST 1048576: true; the input reads as it did. -/
def fnMergeUptoRow : OpenClaim := { program := "ytcfebbhiehaocaa", sum := "d874f01b47410713ef9aff4534e6316ec95b8ef9fbba2b977d5a4ad608c16e69", func := "loop.example/comptoir/laws.FnMerge", spec := "fnMerge", unfollowed := true, recurses := true, apart := false, narrowed := true }
def FnMergeUptoSaid : Prop := fnMergeUptoRow.holds Try.pinned (OpenSpec.upto fnMergeSpec)

/-- 'laws.FnSquashTimes', WHERE WHAT IT READS IS OF BULK AT MOST 1048576: true; the input reads as it did. -/
def fnSquashTimesUptoRow : OpenClaim := { program := "ytcfebbhiehaocaa", sum := "d874f01b47410713ef9aff4534e6316ec95b8ef9fbba2b977d5a4ad608c16e69", func := "loop.example/comptoir/laws.FnSquashTimes", spec := "fnSquashTimes", unfollowed := true, recurses := true, apart := false, narrowed := true }
def FnSquashTimesUptoSaid : Prop := fnSquashTimesUptoRow.holds Try.pinned (OpenSpec.upto fnSquashTimesSpec)

/-- 'laws.FnSquashTwice', WHERE WHAT IT READS IS OF BULK AT MOST 1048576: true; the input reads as it did. -/
def fnSquashTwiceUptoRow : OpenClaim := { program := "ytcfebbhiehaocaa", sum := "d874f01b47410713ef9aff4534e6316ec95b8ef9fbba2b977d5a4ad608c16e69", func := "loop.example/comptoir/laws.FnSquashTwice", spec := "fnSquashTwice", unfollowed := true, recurses := true, apart := false, narrowed := true }
def FnSquashTwiceUptoSaid : Prop := fnSquashTwiceUptoRow.holds Try.pinned (OpenSpec.upto fnSquashTwiceSpec)

/-- 'laws.FnSquashFew', WHERE WHAT IT READS IS OF BULK AT MOST 1048576: true; the input reads as it did. -/
def fnSquashFewUptoRow : OpenClaim := { program := "ytcfebbhiehaocaa", sum := "d874f01b47410713ef9aff4534e6316ec95b8ef9fbba2b977d5a4ad608c16e69", func := "loop.example/comptoir/laws.FnSquashFew", spec := "fnSquashFew", unfollowed := true, recurses := true, apart := false, narrowed := true }
def FnSquashFewUptoSaid : Prop := fnSquashFewUptoRow.holds Try.pinned (OpenSpec.upto fnSquashFewSpec)

end Rows
end Go.Proofs.Ytcfebbhiehaocaa
