/-
  No cell of these rows narrows 'for every input' (looked for: loops, veiled, ifaces, maps, wideKeys, modest, calm, conditions, laid).
  DERIVED. THE GIVEN ROWS OF THIS SEAT. 9 by the template 'for every input the law returns true; each argument reads behind the call as it read before'; 0 by the template 'total and deterministic' (their statements: YteijmkjfgieciaaTotals.lean).
  GIVEN WITH THE SEED: the statements are not yours to turn. If you find one false, say at which input.
  Laid BY PROGRAM, IN A SANDBOX (cutbox-rows.mjs): the forced cells as the released guide's own fill.sh prints them over the translation 19cc75d92b9a2b6c… (all of the seat's roots in one cut). By AI agents, Wed Nov 11 2026. No macro, syntax, notation, axiom, sorry.
-/
import Derived.Test.YteijmkjfgieciaaChecked
import GoSem.Claim
import GoSem.ClaimJoined
import GoSem.ClaimMapViews
import Derived.JoinedTies
import Derived.KernelRfl
namespace Go.Proofs.Yteijmkjfgieciaa
/- THE CELL 'sum', in the pinned program and in every row, IS THE sha256 OF THE DUMP (.gsa) THAT YteijmkjfgieciaaProg.lean LOADS. Nothing in Lean hashes anything: it is a label: what it is worth is what the hold of that sum in a sandbox is worth. -/
noncomputable def Try.pinned : Pinned := { name := "yteijmkjfgieciaa", sum := "19cc75d92b9a2b6cdf1ed6e1901f88c19765f2fd0c00d3c2fbb847a7c4f9c4e0", checked := Try.checked }
namespace Rows
def none {H : Type} : Left H := { results := [], args := [] }

/-- 'laws.FnExactBookSame': WHATEVER THE INPUT: true; the input reads as it did. -/
def fnExactBookSameSpec : ChangeSpec := { name := "fnExactBookSame", fn := fun _ => fun
  | [d1, d2] => { results := [.lit (.bool true)], args := [d1, d2] }
  | _ => none }
def fnExactBookSameRow : OpenClaim := { program := "yteijmkjfgieciaa", sum := "19cc75d92b9a2b6cdf1ed6e1901f88c19765f2fd0c00d3c2fbb847a7c4f9c4e0", func := "loop.example/comptoir/laws.FnExactBookSame", spec := "fnExactBookSame", unfollowed := true, recurses := true, plainKeys := false, apart := false }
def FnExactBookSameSaid : Prop := fnExactBookSameRow.holds Try.pinned (OpenSpec.ofChange fnExactBookSameSpec)

/-- ITS FALSE NEIGHBOUR: 'it returns false'. Refute it at one input. -/
def fnExactBookSameWrong : ChangeSpec := { name := "fnExactBookSame", fn := fun _ => fun
  | [d1, d2] => { results := [.lit (.bool false)], args := [d1, d2] }
  | _ => none }
def FnExactBookSameWrongFalsely : Prop := fnExactBookSameRow.holds Try.pinned (OpenSpec.ofChange fnExactBookSameWrong)

/-- 'laws.FnExactBookOk': WHATEVER THE INPUT: true; the input reads as it did. -/
def fnExactBookOkSpec : ChangeSpec := { name := "fnExactBookOk", fn := fun _ => fun
  | [d] => { results := [.lit (.bool true)], args := [d] }
  | _ => none }
def fnExactBookOkRow : OpenClaim := { program := "yteijmkjfgieciaa", sum := "19cc75d92b9a2b6cdf1ed6e1901f88c19765f2fd0c00d3c2fbb847a7c4f9c4e0", func := "loop.example/comptoir/laws.FnExactBookOk", spec := "fnExactBookOk", unfollowed := true, recurses := true, plainKeys := false, apart := false }
def FnExactBookOkSaid : Prop := fnExactBookOkRow.holds Try.pinned (OpenSpec.ofChange fnExactBookOkSpec)

/-- ITS FALSE NEIGHBOUR: 'it returns false'. Refute it at one input. -/
def fnExactBookOkWrong : ChangeSpec := { name := "fnExactBookOk", fn := fun _ => fun
  | [d] => { results := [.lit (.bool false)], args := [d] }
  | _ => none }
def FnExactBookOkWrongFalsely : Prop := fnExactBookOkRow.holds Try.pinned (OpenSpec.ofChange fnExactBookOkWrong)

/-- 'laws.FnExactBookBal': WHATEVER THE INPUT: true; the input reads as it did. -/
def fnExactBookBalSpec : ChangeSpec := { name := "fnExactBookBal", fn := fun _ => fun
  | [d1, d2, d3] => { results := [.lit (.bool true)], args := [d1, d2, d3] }
  | _ => none }
def fnExactBookBalRow : OpenClaim := { program := "yteijmkjfgieciaa", sum := "19cc75d92b9a2b6cdf1ed6e1901f88c19765f2fd0c00d3c2fbb847a7c4f9c4e0", func := "loop.example/comptoir/laws.FnExactBookBal", spec := "fnExactBookBal", unfollowed := true, recurses := true, plainKeys := false, apart := false }
def FnExactBookBalSaid : Prop := fnExactBookBalRow.holds Try.pinned (OpenSpec.ofChange fnExactBookBalSpec)

/-- ITS FALSE NEIGHBOUR: 'it returns false'. Refute it at one input. -/
def fnExactBookBalWrong : ChangeSpec := { name := "fnExactBookBal", fn := fun _ => fun
  | [d1, d2, d3] => { results := [.lit (.bool false)], args := [d1, d2, d3] }
  | _ => none }
def FnExactBookBalWrongFalsely : Prop := fnExactBookBalRow.holds Try.pinned (OpenSpec.ofChange fnExactBookBalWrong)

/-- 'laws.FnExactBookLines': WHATEVER THE INPUT: true; the input reads as it did. -/
def fnExactBookLinesSpec : ChangeSpec := { name := "fnExactBookLines", fn := fun _ => fun
  | [d1, d2] => { results := [.lit (.bool true)], args := [d1, d2] }
  | _ => none }
def fnExactBookLinesRow : OpenClaim := { program := "yteijmkjfgieciaa", sum := "19cc75d92b9a2b6cdf1ed6e1901f88c19765f2fd0c00d3c2fbb847a7c4f9c4e0", func := "loop.example/comptoir/laws.FnExactBookLines", spec := "fnExactBookLines", unfollowed := true, recurses := true, plainKeys := false, apart := false }
def FnExactBookLinesSaid : Prop := fnExactBookLinesRow.holds Try.pinned (OpenSpec.ofChange fnExactBookLinesSpec)

/-- ITS FALSE NEIGHBOUR: 'it returns false'. Refute it at one input. -/
def fnExactBookLinesWrong : ChangeSpec := { name := "fnExactBookLines", fn := fun _ => fun
  | [d1, d2] => { results := [.lit (.bool false)], args := [d1, d2] }
  | _ => none }
def FnExactBookLinesWrongFalsely : Prop := fnExactBookLinesRow.holds Try.pinned (OpenSpec.ofChange fnExactBookLinesWrong)

/-- 'laws.FnExactBookAccts': WHATEVER THE INPUT: true; the input reads as it did. -/
def fnExactBookAcctsSpec : ChangeSpec := { name := "fnExactBookAccts", fn := fun _ => fun
  | [d] => { results := [.lit (.bool true)], args := [d] }
  | _ => none }
def fnExactBookAcctsRow : OpenClaim := { program := "yteijmkjfgieciaa", sum := "19cc75d92b9a2b6cdf1ed6e1901f88c19765f2fd0c00d3c2fbb847a7c4f9c4e0", func := "loop.example/comptoir/laws.FnExactBookAccts", spec := "fnExactBookAccts", inPlace := ["slices.overlaps[string]"], unfollowed := true, recurses := true, plainKeys := false, apart := false }
def FnExactBookAcctsSaid : Prop := fnExactBookAcctsRow.holds Try.pinned (OpenSpec.ofChange fnExactBookAcctsSpec)

/-- ITS FALSE NEIGHBOUR: 'it returns false'. Refute it at one input. -/
def fnExactBookAcctsWrong : ChangeSpec := { name := "fnExactBookAccts", fn := fun _ => fun
  | [d] => { results := [.lit (.bool false)], args := [d] }
  | _ => none }
def FnExactBookAcctsWrongFalsely : Prop := fnExactBookAcctsRow.holds Try.pinned (OpenSpec.ofChange fnExactBookAcctsWrong)

/-- 'laws.FnExactBookSides': WHATEVER THE INPUT: true; the input reads as it did. -/
def fnExactBookSidesSpec : ChangeSpec := { name := "fnExactBookSides", fn := fun _ => fun
  | [d1, d2] => { results := [.lit (.bool true)], args := [d1, d2] }
  | _ => none }
def fnExactBookSidesRow : OpenClaim := { program := "yteijmkjfgieciaa", sum := "19cc75d92b9a2b6cdf1ed6e1901f88c19765f2fd0c00d3c2fbb847a7c4f9c4e0", func := "loop.example/comptoir/laws.FnExactBookSides", spec := "fnExactBookSides", inPlace := ["slices.overlaps[string]"], unfollowed := true, recurses := true, plainKeys := false, apart := false }
def FnExactBookSidesSaid : Prop := fnExactBookSidesRow.holds Try.pinned (OpenSpec.ofChange fnExactBookSidesSpec)

/-- ITS FALSE NEIGHBOUR: 'it returns false'. Refute it at one input. -/
def fnExactBookSidesWrong : ChangeSpec := { name := "fnExactBookSides", fn := fun _ => fun
  | [d1, d2] => { results := [.lit (.bool false)], args := [d1, d2] }
  | _ => none }
def FnExactBookSidesWrongFalsely : Prop := fnExactBookSidesRow.holds Try.pinned (OpenSpec.ofChange fnExactBookSidesWrong)

/-- 'laws.FnBookLines': WHATEVER THE INPUT: true; the input reads as it did. -/
def fnBookLinesSpec : ChangeSpec := { name := "fnBookLines", fn := fun _ => fun
  | [d1, d2] => { results := [.lit (.bool true)], args := [d1, d2] }
  | _ => none }
def fnBookLinesRow : OpenClaim := { program := "yteijmkjfgieciaa", sum := "19cc75d92b9a2b6cdf1ed6e1901f88c19765f2fd0c00d3c2fbb847a7c4f9c4e0", func := "loop.example/comptoir/laws.FnBookLines", spec := "fnBookLines", inPlace := ["slices.overlaps[string]"], unfollowed := true, recurses := true, plainKeys := false, apart := false }
def FnBookLinesSaid : Prop := fnBookLinesRow.holds Try.pinned (OpenSpec.ofChange fnBookLinesSpec)

/-- ITS FALSE NEIGHBOUR: 'it returns false'. Refute it at one input. -/
def fnBookLinesWrong : ChangeSpec := { name := "fnBookLines", fn := fun _ => fun
  | [d1, d2] => { results := [.lit (.bool false)], args := [d1, d2] }
  | _ => none }
def FnBookLinesWrongFalsely : Prop := fnBookLinesRow.holds Try.pinned (OpenSpec.ofChange fnBookLinesWrong)

/-- 'laws.FnBookAccts': WHATEVER THE INPUT: true; the input reads as it did. -/
def fnBookAcctsSpec : ChangeSpec := { name := "fnBookAccts", fn := fun _ => fun
  | [d1, d2] => { results := [.lit (.bool true)], args := [d1, d2] }
  | _ => none }
def fnBookAcctsRow : OpenClaim := { program := "yteijmkjfgieciaa", sum := "19cc75d92b9a2b6cdf1ed6e1901f88c19765f2fd0c00d3c2fbb847a7c4f9c4e0", func := "loop.example/comptoir/laws.FnBookAccts", spec := "fnBookAccts", inPlace := ["slices.overlaps[string]"], unfollowed := true, recurses := true, plainKeys := false, apart := false }
def FnBookAcctsSaid : Prop := fnBookAcctsRow.holds Try.pinned (OpenSpec.ofChange fnBookAcctsSpec)

/-- ITS FALSE NEIGHBOUR: 'it returns false'. Refute it at one input. -/
def fnBookAcctsWrong : ChangeSpec := { name := "fnBookAccts", fn := fun _ => fun
  | [d1, d2] => { results := [.lit (.bool false)], args := [d1, d2] }
  | _ => none }
def FnBookAcctsWrongFalsely : Prop := fnBookAcctsRow.holds Try.pinned (OpenSpec.ofChange fnBookAcctsWrong)

/-- 'laws.FnBookSides': WHATEVER THE INPUT: true; the input reads as it did. -/
def fnBookSidesSpec : ChangeSpec := { name := "fnBookSides", fn := fun _ => fun
  | [d] => { results := [.lit (.bool true)], args := [d] }
  | _ => none }
def fnBookSidesRow : OpenClaim := { program := "yteijmkjfgieciaa", sum := "19cc75d92b9a2b6cdf1ed6e1901f88c19765f2fd0c00d3c2fbb847a7c4f9c4e0", func := "loop.example/comptoir/laws.FnBookSides", spec := "fnBookSides", inPlace := ["slices.overlaps[string]"], unfollowed := true, recurses := true, plainKeys := false, apart := false }
def FnBookSidesSaid : Prop := fnBookSidesRow.holds Try.pinned (OpenSpec.ofChange fnBookSidesSpec)

/-- ITS FALSE NEIGHBOUR: 'it returns false'. Refute it at one input. -/
def fnBookSidesWrong : ChangeSpec := { name := "fnBookSides", fn := fun _ => fun
  | [d] => { results := [.lit (.bool false)], args := [d] }
  | _ => none }
def FnBookSidesWrongFalsely : Prop := fnBookSidesRow.holds Try.pinned (OpenSpec.ofChange fnBookSidesWrong)

/- THE SECOND FORM. 'bulk': how many values and letters a reading holds, each counted each time it is reached (what is shared counts as often as it is met; a slice's spare places count too). A statement '..UptoSaid' is the law's where the arguments, and the package variables that the reading takes, are together of bulk at most 1048576: NARROWER than '..Said'. Prove '..Said' where nothing that the law and all that it calls make is longer than what came in: it says more and counts as full. Else prove '..UptoSaid'. A law counts once. -/
mutual
def uptoBulk {H : Type} : DataW H → Nat
  | .lit (.string bytes) => bytes.length + 1
  | .lit _ => 1
  | .nil => 1
  | .ptr d => uptoBulk d + 1
  | .slice elems spare => uptoBulkAll elems + uptoBulkAll spare + 1
  | .agg parts => uptoBulkAll parts + 1
  | .iface _ d => uptoBulk d + 1
  | .map entries => uptoBulkEntries entries + 1
  | .held _ => 1
def uptoBulkAll {H : Type} : List (DataW H) → Nat
  | [] => 0
  | d :: r => uptoBulk d + uptoBulkAll r
def uptoBulkEntries {H : Type} : List (Lit × DataW H) → Nat
  | [] => 0
  | x :: r => uptoBulkEntry x + uptoBulkEntries r
def uptoBulkEntry {H : Type} : Lit × DataW H → Nat
  | (.string bytes, d) => bytes.length + uptoBulk d + 1
  | (_, d) => uptoBulk d + 1
 end
def uptoSmall : (H : Type) → List (DataW H) → Bool := fun _ ds => decide (uptoBulkAll ds ≤ 1048576)
def OpenSpec.upto (s : _root_.Go.ChangeSpec) : _root_.Go.OpenSpec := { _root_.Go.OpenSpec.ofChange s with cond := some uptoSmall }

/-- 'laws.FnExactBookSame', WHERE WHAT IT READS IS OF BULK AT MOST 1048576: true; the input reads as it did. -/
def fnExactBookSameUptoRow : OpenClaim := { program := "yteijmkjfgieciaa", sum := "19cc75d92b9a2b6cdf1ed6e1901f88c19765f2fd0c00d3c2fbb847a7c4f9c4e0", func := "loop.example/comptoir/laws.FnExactBookSame", spec := "fnExactBookSame", unfollowed := true, recurses := true, plainKeys := false, apart := false, narrowed := true }
def FnExactBookSameUptoSaid : Prop := fnExactBookSameUptoRow.holds Try.pinned (OpenSpec.upto fnExactBookSameSpec)

/-- 'laws.FnExactBookOk', WHERE WHAT IT READS IS OF BULK AT MOST 1048576: true; the input reads as it did. -/
def fnExactBookOkUptoRow : OpenClaim := { program := "yteijmkjfgieciaa", sum := "19cc75d92b9a2b6cdf1ed6e1901f88c19765f2fd0c00d3c2fbb847a7c4f9c4e0", func := "loop.example/comptoir/laws.FnExactBookOk", spec := "fnExactBookOk", unfollowed := true, recurses := true, plainKeys := false, apart := false, narrowed := true }
def FnExactBookOkUptoSaid : Prop := fnExactBookOkUptoRow.holds Try.pinned (OpenSpec.upto fnExactBookOkSpec)

/-- 'laws.FnExactBookBal', WHERE WHAT IT READS IS OF BULK AT MOST 1048576: true; the input reads as it did. -/
def fnExactBookBalUptoRow : OpenClaim := { program := "yteijmkjfgieciaa", sum := "19cc75d92b9a2b6cdf1ed6e1901f88c19765f2fd0c00d3c2fbb847a7c4f9c4e0", func := "loop.example/comptoir/laws.FnExactBookBal", spec := "fnExactBookBal", unfollowed := true, recurses := true, plainKeys := false, apart := false, narrowed := true }
def FnExactBookBalUptoSaid : Prop := fnExactBookBalUptoRow.holds Try.pinned (OpenSpec.upto fnExactBookBalSpec)

/-- 'laws.FnExactBookLines', WHERE WHAT IT READS IS OF BULK AT MOST 1048576: true; the input reads as it did. -/
def fnExactBookLinesUptoRow : OpenClaim := { program := "yteijmkjfgieciaa", sum := "19cc75d92b9a2b6cdf1ed6e1901f88c19765f2fd0c00d3c2fbb847a7c4f9c4e0", func := "loop.example/comptoir/laws.FnExactBookLines", spec := "fnExactBookLines", unfollowed := true, recurses := true, plainKeys := false, apart := false, narrowed := true }
def FnExactBookLinesUptoSaid : Prop := fnExactBookLinesUptoRow.holds Try.pinned (OpenSpec.upto fnExactBookLinesSpec)

/-- 'laws.FnExactBookAccts', WHERE WHAT IT READS IS OF BULK AT MOST 1048576: true; the input reads as it did. -/
def fnExactBookAcctsUptoRow : OpenClaim := { program := "yteijmkjfgieciaa", sum := "19cc75d92b9a2b6cdf1ed6e1901f88c19765f2fd0c00d3c2fbb847a7c4f9c4e0", func := "loop.example/comptoir/laws.FnExactBookAccts", spec := "fnExactBookAccts", inPlace := ["slices.overlaps[string]"], unfollowed := true, recurses := true, plainKeys := false, apart := false, narrowed := true }
def FnExactBookAcctsUptoSaid : Prop := fnExactBookAcctsUptoRow.holds Try.pinned (OpenSpec.upto fnExactBookAcctsSpec)

/-- 'laws.FnExactBookSides', WHERE WHAT IT READS IS OF BULK AT MOST 1048576: true; the input reads as it did. -/
def fnExactBookSidesUptoRow : OpenClaim := { program := "yteijmkjfgieciaa", sum := "19cc75d92b9a2b6cdf1ed6e1901f88c19765f2fd0c00d3c2fbb847a7c4f9c4e0", func := "loop.example/comptoir/laws.FnExactBookSides", spec := "fnExactBookSides", inPlace := ["slices.overlaps[string]"], unfollowed := true, recurses := true, plainKeys := false, apart := false, narrowed := true }
def FnExactBookSidesUptoSaid : Prop := fnExactBookSidesUptoRow.holds Try.pinned (OpenSpec.upto fnExactBookSidesSpec)

/-- 'laws.FnBookLines', WHERE WHAT IT READS IS OF BULK AT MOST 1048576: true; the input reads as it did. -/
def fnBookLinesUptoRow : OpenClaim := { program := "yteijmkjfgieciaa", sum := "19cc75d92b9a2b6cdf1ed6e1901f88c19765f2fd0c00d3c2fbb847a7c4f9c4e0", func := "loop.example/comptoir/laws.FnBookLines", spec := "fnBookLines", inPlace := ["slices.overlaps[string]"], unfollowed := true, recurses := true, plainKeys := false, apart := false, narrowed := true }
def FnBookLinesUptoSaid : Prop := fnBookLinesUptoRow.holds Try.pinned (OpenSpec.upto fnBookLinesSpec)

/-- 'laws.FnBookAccts', WHERE WHAT IT READS IS OF BULK AT MOST 1048576: true; the input reads as it did. -/
def fnBookAcctsUptoRow : OpenClaim := { program := "yteijmkjfgieciaa", sum := "19cc75d92b9a2b6cdf1ed6e1901f88c19765f2fd0c00d3c2fbb847a7c4f9c4e0", func := "loop.example/comptoir/laws.FnBookAccts", spec := "fnBookAccts", inPlace := ["slices.overlaps[string]"], unfollowed := true, recurses := true, plainKeys := false, apart := false, narrowed := true }
def FnBookAcctsUptoSaid : Prop := fnBookAcctsUptoRow.holds Try.pinned (OpenSpec.upto fnBookAcctsSpec)

/-- 'laws.FnBookSides', WHERE WHAT IT READS IS OF BULK AT MOST 1048576: true; the input reads as it did. -/
def fnBookSidesUptoRow : OpenClaim := { program := "yteijmkjfgieciaa", sum := "19cc75d92b9a2b6cdf1ed6e1901f88c19765f2fd0c00d3c2fbb847a7c4f9c4e0", func := "loop.example/comptoir/laws.FnBookSides", spec := "fnBookSides", inPlace := ["slices.overlaps[string]"], unfollowed := true, recurses := true, plainKeys := false, apart := false, narrowed := true }
def FnBookSidesUptoSaid : Prop := fnBookSidesUptoRow.holds Try.pinned (OpenSpec.upto fnBookSidesSpec)

end Rows
end Go.Proofs.Yteijmkjfgieciaa
