/-
  No cell of these rows narrows 'for every input' (looked for: loops, veiled, ifaces, maps, wideKeys, modest, calm, conditions, laid).
  DERIVED. THE GIVEN ROWS OF THIS SEAT. 12 by the template 'for every input the law returns true; each argument reads behind the call as it read before'; 0 by the template 'total and deterministic' (their statements: YtoijegeioafbiaaTotals.lean).
  GIVEN WITH THE SEED: the statements are not yours to turn. If you find one false, say at which input.
  Laid BY PROGRAM, IN A SANDBOX (cutbox-rows.mjs): the forced cells as the released guide's own fill.sh prints them over the translation ec036df6bac2211c… (all of the seat's roots in one cut). By AI agents, Wed Nov 11 2026. No macro, syntax, notation, axiom, sorry.
-/
import Derived.Test.YtoijegeioafbiaaChecked
import GoSem.Claim
import GoSem.ClaimJoined
import GoSem.ClaimMapViews
import Derived.JoinedTies
import Derived.KernelRfl
namespace Go.Proofs.Ytoijegeioafbiaa
/- THE CELL 'sum', in the pinned program and in every row, IS THE sha256 OF THE DUMP (.gsa) THAT YtoijegeioafbiaaProg.lean LOADS. Nothing in Lean hashes anything: it is a label: what it is worth is what the hold of that sum in a sandbox is worth. -/
noncomputable def Try.pinned : Pinned := { name := "ytoijegeioafbiaa", sum := "ec036df6bac2211cbc29774ce36ad1fe66a2ffc64d108e992049337d87c650ad", checked := Try.checked }
namespace Rows
def none {H : Type} : Left H := { results := [], args := [] }

/-- 'laws.FnExactConstants': WHATEVER THE INPUT: true; the input reads as it did. -/
def fnExactConstantsSpec : ChangeSpec := { name := "fnExactConstants", fn := fun _ => fun
  | [] => { results := [.lit (.bool true)], args := [] }
  | _ => none }
def fnExactConstantsRow : OpenClaim := { program := "ytoijegeioafbiaa", sum := "ec036df6bac2211cbc29774ce36ad1fe66a2ffc64d108e992049337d87c650ad", func := "loop.example/comptoir/laws.FnExactConstants", spec := "fnExactConstants", apart := false }
def FnExactConstantsSaid : Prop := fnExactConstantsRow.holds Try.pinned (OpenSpec.ofChange fnExactConstantsSpec)

/-- ITS FALSE NEIGHBOUR: 'it returns false'. Refute it at one input. -/
def fnExactConstantsWrong : ChangeSpec := { name := "fnExactConstants", fn := fun _ => fun
  | [] => { results := [.lit (.bool false)], args := [] }
  | _ => none }
def FnExactConstantsWrongFalsely : Prop := fnExactConstantsRow.holds Try.pinned (OpenSpec.ofChange fnExactConstantsWrong)

/-- 'laws.FnExactAcctOk': WHATEVER THE INPUT: true; the input reads as it did. -/
def fnExactAcctOkSpec : ChangeSpec := { name := "fnExactAcctOk", fn := fun _ => fun
  | [d] => { results := [.lit (.bool true)], args := [d] }
  | _ => none }
def fnExactAcctOkRow : OpenClaim := { program := "ytoijegeioafbiaa", sum := "ec036df6bac2211cbc29774ce36ad1fe66a2ffc64d108e992049337d87c650ad", func := "loop.example/comptoir/laws.FnExactAcctOk", spec := "fnExactAcctOk", apart := false }
def FnExactAcctOkSaid : Prop := fnExactAcctOkRow.holds Try.pinned (OpenSpec.ofChange fnExactAcctOkSpec)

/-- ITS FALSE NEIGHBOUR: 'it returns false'. Refute it at one input. -/
def fnExactAcctOkWrong : ChangeSpec := { name := "fnExactAcctOk", fn := fun _ => fun
  | [d] => { results := [.lit (.bool false)], args := [d] }
  | _ => none }
def FnExactAcctOkWrongFalsely : Prop := fnExactAcctOkRow.holds Try.pinned (OpenSpec.ofChange fnExactAcctOkWrong)

/-- 'laws.FnExactKeyOk': WHATEVER THE INPUT: true; the input reads as it did. -/
def fnExactKeyOkSpec : ChangeSpec := { name := "fnExactKeyOk", fn := fun _ => fun
  | [d] => { results := [.lit (.bool true)], args := [d] }
  | _ => none }
def fnExactKeyOkRow : OpenClaim := { program := "ytoijegeioafbiaa", sum := "ec036df6bac2211cbc29774ce36ad1fe66a2ffc64d108e992049337d87c650ad", func := "loop.example/comptoir/laws.FnExactKeyOk", spec := "fnExactKeyOk", apart := false }
def FnExactKeyOkSaid : Prop := fnExactKeyOkRow.holds Try.pinned (OpenSpec.ofChange fnExactKeyOkSpec)

/-- ITS FALSE NEIGHBOUR: 'it returns false'. Refute it at one input. -/
def fnExactKeyOkWrong : ChangeSpec := { name := "fnExactKeyOk", fn := fun _ => fun
  | [d] => { results := [.lit (.bool false)], args := [d] }
  | _ => none }
def FnExactKeyOkWrongFalsely : Prop := fnExactKeyOkRow.holds Try.pinned (OpenSpec.ofChange fnExactKeyOkWrong)

/-- 'laws.FnExactEntryLess': WHATEVER THE INPUT: true; the input reads as it did. -/
def fnExactEntryLessSpec : ChangeSpec := { name := "fnExactEntryLess", fn := fun _ => fun
  | [d1, d2] => { results := [.lit (.bool true)], args := [d1, d2] }
  | _ => none }
def fnExactEntryLessRow : OpenClaim := { program := "ytoijegeioafbiaa", sum := "ec036df6bac2211cbc29774ce36ad1fe66a2ffc64d108e992049337d87c650ad", func := "loop.example/comptoir/laws.FnExactEntryLess", spec := "fnExactEntryLess", apart := false }
def FnExactEntryLessSaid : Prop := fnExactEntryLessRow.holds Try.pinned (OpenSpec.ofChange fnExactEntryLessSpec)

/-- ITS FALSE NEIGHBOUR: 'it returns false'. Refute it at one input. -/
def fnExactEntryLessWrong : ChangeSpec := { name := "fnExactEntryLess", fn := fun _ => fun
  | [d1, d2] => { results := [.lit (.bool false)], args := [d1, d2] }
  | _ => none }
def FnExactEntryLessWrongFalsely : Prop := fnExactEntryLessRow.holds Try.pinned (OpenSpec.ofChange fnExactEntryLessWrong)

/-- 'laws.FnExactKeyMask': WHATEVER THE INPUT: true; the input reads as it did. -/
def fnExactKeyMaskSpec : ChangeSpec := { name := "fnExactKeyMask", fn := fun _ => fun
  | [d] => { results := [.lit (.bool true)], args := [d] }
  | _ => none }
def fnExactKeyMaskRow : OpenClaim := { program := "ytoijegeioafbiaa", sum := "ec036df6bac2211cbc29774ce36ad1fe66a2ffc64d108e992049337d87c650ad", func := "loop.example/comptoir/laws.FnExactKeyMask", spec := "fnExactKeyMask", apart := false }
def FnExactKeyMaskSaid : Prop := fnExactKeyMaskRow.holds Try.pinned (OpenSpec.ofChange fnExactKeyMaskSpec)

/-- ITS FALSE NEIGHBOUR: 'it returns false'. Refute it at one input. -/
def fnExactKeyMaskWrong : ChangeSpec := { name := "fnExactKeyMask", fn := fun _ => fun
  | [d] => { results := [.lit (.bool false)], args := [d] }
  | _ => none }
def FnExactKeyMaskWrongFalsely : Prop := fnExactKeyMaskRow.holds Try.pinned (OpenSpec.ofChange fnExactKeyMaskWrong)

/-- 'laws.FnExactLegOk': WHATEVER THE INPUT: true; the input reads as it did. -/
def fnExactLegOkSpec : ChangeSpec := { name := "fnExactLegOk", fn := fun _ => fun
  | [d] => { results := [.lit (.bool true)], args := [d] }
  | _ => none }
def fnExactLegOkRow : OpenClaim := { program := "ytoijegeioafbiaa", sum := "ec036df6bac2211cbc29774ce36ad1fe66a2ffc64d108e992049337d87c650ad", func := "loop.example/comptoir/laws.FnExactLegOk", spec := "fnExactLegOk", apart := false }
def FnExactLegOkSaid : Prop := fnExactLegOkRow.holds Try.pinned (OpenSpec.ofChange fnExactLegOkSpec)

/-- ITS FALSE NEIGHBOUR: 'it returns false'. Refute it at one input. -/
def fnExactLegOkWrong : ChangeSpec := { name := "fnExactLegOk", fn := fun _ => fun
  | [d] => { results := [.lit (.bool false)], args := [d] }
  | _ => none }
def FnExactLegOkWrongFalsely : Prop := fnExactLegOkRow.holds Try.pinned (OpenSpec.ofChange fnExactLegOkWrong)

/-- 'laws.FnKeyMask': WHATEVER THE INPUT: true; the input reads as it did. -/
def fnKeyMaskSpec : ChangeSpec := { name := "fnKeyMask", fn := fun _ => fun
  | [d] => { results := [.lit (.bool true)], args := [d] }
  | _ => none }
def fnKeyMaskRow : OpenClaim := { program := "ytoijegeioafbiaa", sum := "ec036df6bac2211cbc29774ce36ad1fe66a2ffc64d108e992049337d87c650ad", func := "loop.example/comptoir/laws.FnKeyMask", spec := "fnKeyMask", apart := false }
def FnKeyMaskSaid : Prop := fnKeyMaskRow.holds Try.pinned (OpenSpec.ofChange fnKeyMaskSpec)

/-- ITS FALSE NEIGHBOUR: 'it returns false'. Refute it at one input. -/
def fnKeyMaskWrong : ChangeSpec := { name := "fnKeyMask", fn := fun _ => fun
  | [d] => { results := [.lit (.bool false)], args := [d] }
  | _ => none }
def FnKeyMaskWrongFalsely : Prop := fnKeyMaskRow.holds Try.pinned (OpenSpec.ofChange fnKeyMaskWrong)

/-- 'laws.FnExactEntryOk': WHATEVER THE INPUT: true; the input reads as it did. -/
def fnExactEntryOkSpec : ChangeSpec := { name := "fnExactEntryOk", fn := fun _ => fun
  | [d] => { results := [.lit (.bool true)], args := [d] }
  | _ => none }
def fnExactEntryOkRow : OpenClaim := { program := "ytoijegeioafbiaa", sum := "ec036df6bac2211cbc29774ce36ad1fe66a2ffc64d108e992049337d87c650ad", func := "loop.example/comptoir/laws.FnExactEntryOk", spec := "fnExactEntryOk", apart := false }
def FnExactEntryOkSaid : Prop := fnExactEntryOkRow.holds Try.pinned (OpenSpec.ofChange fnExactEntryOkSpec)

/-- ITS FALSE NEIGHBOUR: 'it returns false'. Refute it at one input. -/
def fnExactEntryOkWrong : ChangeSpec := { name := "fnExactEntryOk", fn := fun _ => fun
  | [d] => { results := [.lit (.bool false)], args := [d] }
  | _ => none }
def FnExactEntryOkWrongFalsely : Prop := fnExactEntryOkRow.holds Try.pinned (OpenSpec.ofChange fnExactEntryOkWrong)

/-- 'laws.FnEntryLess': WHATEVER THE INPUT: true; the input reads as it did. -/
def fnEntryLessSpec : ChangeSpec := { name := "fnEntryLess", fn := fun _ => fun
  | [d1, d2] => { results := [.lit (.bool true)], args := [d1, d2] }
  | _ => none }
def fnEntryLessRow : OpenClaim := { program := "ytoijegeioafbiaa", sum := "ec036df6bac2211cbc29774ce36ad1fe66a2ffc64d108e992049337d87c650ad", func := "loop.example/comptoir/laws.FnEntryLess", spec := "fnEntryLess", apart := false }
def FnEntryLessSaid : Prop := fnEntryLessRow.holds Try.pinned (OpenSpec.ofChange fnEntryLessSpec)

/-- ITS FALSE NEIGHBOUR: 'it returns false'. Refute it at one input. -/
def fnEntryLessWrong : ChangeSpec := { name := "fnEntryLess", fn := fun _ => fun
  | [d1, d2] => { results := [.lit (.bool false)], args := [d1, d2] }
  | _ => none }
def FnEntryLessWrongFalsely : Prop := fnEntryLessRow.holds Try.pinned (OpenSpec.ofChange fnEntryLessWrong)

/-- 'laws.FnExactPostSame': WHATEVER THE INPUT: true; the input reads as it did. -/
def fnExactPostSameSpec : ChangeSpec := { name := "fnExactPostSame", fn := fun _ => fun
  | [d1, d2] => { results := [.lit (.bool true)], args := [d1, d2] }
  | _ => none }
def fnExactPostSameRow : OpenClaim := { program := "ytoijegeioafbiaa", sum := "ec036df6bac2211cbc29774ce36ad1fe66a2ffc64d108e992049337d87c650ad", func := "loop.example/comptoir/laws.FnExactPostSame", spec := "fnExactPostSame", apart := false }
def FnExactPostSameSaid : Prop := fnExactPostSameRow.holds Try.pinned (OpenSpec.ofChange fnExactPostSameSpec)

/-- ITS FALSE NEIGHBOUR: 'it returns false'. Refute it at one input. -/
def fnExactPostSameWrong : ChangeSpec := { name := "fnExactPostSame", fn := fun _ => fun
  | [d1, d2] => { results := [.lit (.bool false)], args := [d1, d2] }
  | _ => none }
def FnExactPostSameWrongFalsely : Prop := fnExactPostSameRow.holds Try.pinned (OpenSpec.ofChange fnExactPostSameWrong)

/-- 'laws.FnExactRunSame': WHATEVER THE INPUT: true; the input reads as it did. -/
def fnExactRunSameSpec : ChangeSpec := { name := "fnExactRunSame", fn := fun _ => fun
  | [d1, d2] => { results := [.lit (.bool true)], args := [d1, d2] }
  | _ => none }
def fnExactRunSameRow : OpenClaim := { program := "ytoijegeioafbiaa", sum := "ec036df6bac2211cbc29774ce36ad1fe66a2ffc64d108e992049337d87c650ad", func := "loop.example/comptoir/laws.FnExactRunSame", spec := "fnExactRunSame", apart := false }
def FnExactRunSameSaid : Prop := fnExactRunSameRow.holds Try.pinned (OpenSpec.ofChange fnExactRunSameSpec)

/-- ITS FALSE NEIGHBOUR: 'it returns false'. Refute it at one input. -/
def fnExactRunSameWrong : ChangeSpec := { name := "fnExactRunSame", fn := fun _ => fun
  | [d1, d2] => { results := [.lit (.bool false)], args := [d1, d2] }
  | _ => none }
def FnExactRunSameWrongFalsely : Prop := fnExactRunSameRow.holds Try.pinned (OpenSpec.ofChange fnExactRunSameWrong)

/-- 'laws.FnEntryOk': WHATEVER THE INPUT: true; the input reads as it did. -/
def fnEntryOkSpec : ChangeSpec := { name := "fnEntryOk", fn := fun _ => fun
  | [d] => { results := [.lit (.bool true)], args := [d] }
  | _ => none }
def fnEntryOkRow : OpenClaim := { program := "ytoijegeioafbiaa", sum := "ec036df6bac2211cbc29774ce36ad1fe66a2ffc64d108e992049337d87c650ad", func := "loop.example/comptoir/laws.FnEntryOk", spec := "fnEntryOk", apart := false }
def FnEntryOkSaid : Prop := fnEntryOkRow.holds Try.pinned (OpenSpec.ofChange fnEntryOkSpec)

/-- ITS FALSE NEIGHBOUR: 'it returns false'. Refute it at one input. -/
def fnEntryOkWrong : ChangeSpec := { name := "fnEntryOk", fn := fun _ => fun
  | [d] => { results := [.lit (.bool false)], args := [d] }
  | _ => none }
def FnEntryOkWrongFalsely : Prop := fnEntryOkRow.holds Try.pinned (OpenSpec.ofChange fnEntryOkWrong)

/- THE SECOND FORM. 'bulk': how many values and letters a reading holds, each counted each time it is reached (what is shared counts as often as it is met; a slice's spare places count too). A statement '..UptoSaid' is the law's where the arguments, and the package variables that the reading takes, are together of bulk at most 1048576: NARROWER than '..Said'. Prove '..Said' where nothing that the law and all that it calls make is longer than what came in: it says more and counts as full. Else prove '..UptoSaid'. A law counts once. -/
mutual
def uptoBulk {H : Type} : DataW H → Nat
  | .lit (.string bytes) => bytes.length + 1
  | .lit _ => 1
  | .nil => 1
  | .ptr d => uptoBulk d + 1
  | .slice elems spare => uptoBulkAll elems + uptoBulkAll spare + 1
  | .agg parts => uptoBulkAll parts + 1
  | .iface _ d => uptoBulk d + 1
  | .map entries => uptoBulkEntries entries + 1
  | .held _ => 1
def uptoBulkAll {H : Type} : List (DataW H) → Nat
  | [] => 0
  | d :: r => uptoBulk d + uptoBulkAll r
def uptoBulkEntries {H : Type} : List (Lit × DataW H) → Nat
  | [] => 0
  | x :: r => uptoBulkEntry x + uptoBulkEntries r
def uptoBulkEntry {H : Type} : Lit × DataW H → Nat
  | (.string bytes, d) => bytes.length + uptoBulk d + 1
  | (_, d) => uptoBulk d + 1
 end
def uptoSmall : (H : Type) → List (DataW H) → Bool := fun _ ds => decide (uptoBulkAll ds ≤ 1048576)
def OpenSpec.upto (s : _root_.Go.ChangeSpec) : _root_.Go.OpenSpec := { _root_.Go.OpenSpec.ofChange s with cond := some uptoSmall }

/-- 'laws.FnExactConstants', WHERE WHAT IT READS IS OF BULK AT MOST 1048576: true; the input reads as it did. -/
def fnExactConstantsUptoRow : OpenClaim := { program := "ytoijegeioafbiaa", sum := "ec036df6bac2211cbc29774ce36ad1fe66a2ffc64d108e992049337d87c650ad", func := "loop.example/comptoir/laws.FnExactConstants", spec := "fnExactConstants", apart := false, narrowed := true }
def FnExactConstantsUptoSaid : Prop := fnExactConstantsUptoRow.holds Try.pinned (OpenSpec.upto fnExactConstantsSpec)

/-- 'laws.FnExactAcctOk', WHERE WHAT IT READS IS OF BULK AT MOST 1048576: true; the input reads as it did. -/
def fnExactAcctOkUptoRow : OpenClaim := { program := "ytoijegeioafbiaa", sum := "ec036df6bac2211cbc29774ce36ad1fe66a2ffc64d108e992049337d87c650ad", func := "loop.example/comptoir/laws.FnExactAcctOk", spec := "fnExactAcctOk", apart := false, narrowed := true }
def FnExactAcctOkUptoSaid : Prop := fnExactAcctOkUptoRow.holds Try.pinned (OpenSpec.upto fnExactAcctOkSpec)

/-- 'laws.FnExactKeyOk', WHERE WHAT IT READS IS OF BULK AT MOST 1048576: true; the input reads as it did. -/
def fnExactKeyOkUptoRow : OpenClaim := { program := "ytoijegeioafbiaa", sum := "ec036df6bac2211cbc29774ce36ad1fe66a2ffc64d108e992049337d87c650ad", func := "loop.example/comptoir/laws.FnExactKeyOk", spec := "fnExactKeyOk", apart := false, narrowed := true }
def FnExactKeyOkUptoSaid : Prop := fnExactKeyOkUptoRow.holds Try.pinned (OpenSpec.upto fnExactKeyOkSpec)

/-- 'laws.FnExactEntryLess', WHERE WHAT IT READS IS OF BULK AT MOST 1048576: true; the input reads as it did. -/
def fnExactEntryLessUptoRow : OpenClaim := { program := "ytoijegeioafbiaa", sum := "ec036df6bac2211cbc29774ce36ad1fe66a2ffc64d108e992049337d87c650ad", func := "loop.example/comptoir/laws.FnExactEntryLess", spec := "fnExactEntryLess", apart := false, narrowed := true }
def FnExactEntryLessUptoSaid : Prop := fnExactEntryLessUptoRow.holds Try.pinned (OpenSpec.upto fnExactEntryLessSpec)

/-- 'laws.FnExactKeyMask', WHERE WHAT IT READS IS OF BULK AT MOST 1048576: true; the input reads as it did. -/
def fnExactKeyMaskUptoRow : OpenClaim := { program := "ytoijegeioafbiaa", sum := "ec036df6bac2211cbc29774ce36ad1fe66a2ffc64d108e992049337d87c650ad", func := "loop.example/comptoir/laws.FnExactKeyMask", spec := "fnExactKeyMask", apart := false, narrowed := true }
def FnExactKeyMaskUptoSaid : Prop := fnExactKeyMaskUptoRow.holds Try.pinned (OpenSpec.upto fnExactKeyMaskSpec)

/-- 'laws.FnExactLegOk', WHERE WHAT IT READS IS OF BULK AT MOST 1048576: true; the input reads as it did. -/
def fnExactLegOkUptoRow : OpenClaim := { program := "ytoijegeioafbiaa", sum := "ec036df6bac2211cbc29774ce36ad1fe66a2ffc64d108e992049337d87c650ad", func := "loop.example/comptoir/laws.FnExactLegOk", spec := "fnExactLegOk", apart := false, narrowed := true }
def FnExactLegOkUptoSaid : Prop := fnExactLegOkUptoRow.holds Try.pinned (OpenSpec.upto fnExactLegOkSpec)

/-- 'laws.FnKeyMask', WHERE WHAT IT READS IS OF BULK AT MOST 1048576: true; the input reads as it did. -/
def fnKeyMaskUptoRow : OpenClaim := { program := "ytoijegeioafbiaa", sum := "ec036df6bac2211cbc29774ce36ad1fe66a2ffc64d108e992049337d87c650ad", func := "loop.example/comptoir/laws.FnKeyMask", spec := "fnKeyMask", apart := false, narrowed := true }
def FnKeyMaskUptoSaid : Prop := fnKeyMaskUptoRow.holds Try.pinned (OpenSpec.upto fnKeyMaskSpec)

/-- 'laws.FnExactEntryOk', WHERE WHAT IT READS IS OF BULK AT MOST 1048576: true; the input reads as it did. -/
def fnExactEntryOkUptoRow : OpenClaim := { program := "ytoijegeioafbiaa", sum := "ec036df6bac2211cbc29774ce36ad1fe66a2ffc64d108e992049337d87c650ad", func := "loop.example/comptoir/laws.FnExactEntryOk", spec := "fnExactEntryOk", apart := false, narrowed := true }
def FnExactEntryOkUptoSaid : Prop := fnExactEntryOkUptoRow.holds Try.pinned (OpenSpec.upto fnExactEntryOkSpec)

/-- 'laws.FnEntryLess', WHERE WHAT IT READS IS OF BULK AT MOST 1048576: true; the input reads as it did. -/
def fnEntryLessUptoRow : OpenClaim := { program := "ytoijegeioafbiaa", sum := "ec036df6bac2211cbc29774ce36ad1fe66a2ffc64d108e992049337d87c650ad", func := "loop.example/comptoir/laws.FnEntryLess", spec := "fnEntryLess", apart := false, narrowed := true }
def FnEntryLessUptoSaid : Prop := fnEntryLessUptoRow.holds Try.pinned (OpenSpec.upto fnEntryLessSpec)

/-- 'laws.FnExactPostSame', WHERE WHAT IT READS IS OF BULK AT MOST 1048576: true; the input reads as it did. -/
def fnExactPostSameUptoRow : OpenClaim := { program := "ytoijegeioafbiaa", sum := "ec036df6bac2211cbc29774ce36ad1fe66a2ffc64d108e992049337d87c650ad", func := "loop.example/comptoir/laws.FnExactPostSame", spec := "fnExactPostSame", apart := false, narrowed := true }
def FnExactPostSameUptoSaid : Prop := fnExactPostSameUptoRow.holds Try.pinned (OpenSpec.upto fnExactPostSameSpec)

/-- 'laws.FnExactRunSame', WHERE WHAT IT READS IS OF BULK AT MOST 1048576: true; the input reads as it did. -/
def fnExactRunSameUptoRow : OpenClaim := { program := "ytoijegeioafbiaa", sum := "ec036df6bac2211cbc29774ce36ad1fe66a2ffc64d108e992049337d87c650ad", func := "loop.example/comptoir/laws.FnExactRunSame", spec := "fnExactRunSame", apart := false, narrowed := true }
def FnExactRunSameUptoSaid : Prop := fnExactRunSameUptoRow.holds Try.pinned (OpenSpec.upto fnExactRunSameSpec)

/-- 'laws.FnEntryOk', WHERE WHAT IT READS IS OF BULK AT MOST 1048576: true; the input reads as it did. -/
def fnEntryOkUptoRow : OpenClaim := { program := "ytoijegeioafbiaa", sum := "ec036df6bac2211cbc29774ce36ad1fe66a2ffc64d108e992049337d87c650ad", func := "loop.example/comptoir/laws.FnEntryOk", spec := "fnEntryOk", apart := false, narrowed := true }
def FnEntryOkUptoSaid : Prop := fnEntryOkUptoRow.holds Try.pinned (OpenSpec.upto fnEntryOkSpec)

end Rows
end Go.Proofs.Ytoijegeioafbiaa
