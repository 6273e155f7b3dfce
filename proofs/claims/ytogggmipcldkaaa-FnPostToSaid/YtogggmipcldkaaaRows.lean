/-
  No cell of these rows narrows 'for every input' (looked for: loops, veiled, ifaces, maps, wideKeys, modest, calm, conditions, laid).
  DERIVED. THE GIVEN ROWS OF THIS SEAT. 9 by the template 'for every input the law returns true; each argument reads behind the call as it read before'; 0 by the template 'total and deterministic' (their statements: YtogggmipcldkaaaTotals.lean).
  GIVEN WITH THE SEED: the statements are not yours to turn. If you find one false, say at which input.
  Laid BY PROGRAM, IN A SANDBOX (cutbox-rows.mjs): the forced cells as the released guide's own fill.sh prints them over the translation c45357ff09b19740… (all of the seat's roots in one cut). By AI agents, Wed Nov 11 2026. No macro, syntax, notation, axiom, sorry.
-/
import Derived.Test.YtogggmipcldkaaaChecked
import GoSem.Claim
import GoSem.ClaimJoined
import GoSem.ClaimMapViews
import Derived.JoinedTies
import Derived.KernelRfl
namespace Go.Proofs.Ytogggmipcldkaaa
/- THE CELL 'sum', in the pinned program and in every row, IS THE sha256 OF THE DUMP (.gsa) THAT YtogggmipcldkaaaProg.lean LOADS. Nothing in Lean hashes anything: it is a label: what it is worth is what the hold of that sum in a sandbox is worth. -/
noncomputable def Try.pinned : Pinned := { name := "ytogggmipcldkaaa", sum := "c45357ff09b197405d7138da90b0fd9f73e4a84bedf2c6c74eed15bb026896b6", checked := Try.checked }
namespace Rows
def none {H : Type} : Left H := { results := [], args := [] }

/-- 'laws.FnExactPostSum': WHATEVER THE INPUT: true; the input reads as it did. -/
def fnExactPostSumSpec : ChangeSpec := { name := "fnExactPostSum", fn := fun _ => fun
  | [d1, d2] => { results := [.lit (.bool true)], args := [d1, d2] }
  | _ => none }
def fnExactPostSumRow : OpenClaim := { program := "ytogggmipcldkaaa", sum := "c45357ff09b197405d7138da90b0fd9f73e4a84bedf2c6c74eed15bb026896b6", func := "loop.example/comptoir/laws.FnExactPostSum", spec := "fnExactPostSum", unfollowed := true, recurses := true, apart := false }
def FnExactPostSumSaid : Prop := fnExactPostSumRow.holds Try.pinned (OpenSpec.ofChange fnExactPostSumSpec)

/-- ITS FALSE NEIGHBOUR: 'it returns false'. Refute it at one input. -/
def fnExactPostSumWrong : ChangeSpec := { name := "fnExactPostSum", fn := fun _ => fun
  | [d1, d2] => { results := [.lit (.bool false)], args := [d1, d2] }
  | _ => none }
def FnExactPostSumWrongFalsely : Prop := fnExactPostSumRow.holds Try.pinned (OpenSpec.ofChange fnExactPostSumWrong)

/-- 'laws.FnExactPostTo': WHATEVER THE INPUT: true; the input reads as it did. -/
def fnExactPostToSpec : ChangeSpec := { name := "fnExactPostTo", fn := fun _ => fun
  | [d1, d2, d3] => { results := [.lit (.bool true)], args := [d1, d2, d3] }
  | _ => none }
def fnExactPostToRow : OpenClaim := { program := "ytogggmipcldkaaa", sum := "c45357ff09b197405d7138da90b0fd9f73e4a84bedf2c6c74eed15bb026896b6", func := "loop.example/comptoir/laws.FnExactPostTo", spec := "fnExactPostTo", unfollowed := true, recurses := true, apart := false }
def FnExactPostToSaid : Prop := fnExactPostToRow.holds Try.pinned (OpenSpec.ofChange fnExactPostToSpec)

/-- ITS FALSE NEIGHBOUR: 'it returns false'. Refute it at one input. -/
def fnExactPostToWrong : ChangeSpec := { name := "fnExactPostTo", fn := fun _ => fun
  | [d1, d2, d3] => { results := [.lit (.bool false)], args := [d1, d2, d3] }
  | _ => none }
def FnExactPostToWrongFalsely : Prop := fnExactPostToRow.holds Try.pinned (OpenSpec.ofChange fnExactPostToWrong)

/-- 'laws.FnExactPostFair': WHATEVER THE INPUT: true; the input reads as it did. -/
def fnExactPostFairSpec : ChangeSpec := { name := "fnExactPostFair", fn := fun _ => fun
  | [d] => { results := [.lit (.bool true)], args := [d] }
  | _ => none }
def fnExactPostFairRow : OpenClaim := { program := "ytogggmipcldkaaa", sum := "c45357ff09b197405d7138da90b0fd9f73e4a84bedf2c6c74eed15bb026896b6", func := "loop.example/comptoir/laws.FnExactPostFair", spec := "fnExactPostFair", unfollowed := true, recurses := true, apart := false }
def FnExactPostFairSaid : Prop := fnExactPostFairRow.holds Try.pinned (OpenSpec.ofChange fnExactPostFairSpec)

/-- ITS FALSE NEIGHBOUR: 'it returns false'. Refute it at one input. -/
def fnExactPostFairWrong : ChangeSpec := { name := "fnExactPostFair", fn := fun _ => fun
  | [d] => { results := [.lit (.bool false)], args := [d] }
  | _ => none }
def FnExactPostFairWrongFalsely : Prop := fnExactPostFairRow.holds Try.pinned (OpenSpec.ofChange fnExactPostFairWrong)

/-- 'laws.FnExactPostOk': WHATEVER THE INPUT: true; the input reads as it did. -/
def fnExactPostOkSpec : ChangeSpec := { name := "fnExactPostOk", fn := fun _ => fun
  | [d] => { results := [.lit (.bool true)], args := [d] }
  | _ => none }
def fnExactPostOkRow : OpenClaim := { program := "ytogggmipcldkaaa", sum := "c45357ff09b197405d7138da90b0fd9f73e4a84bedf2c6c74eed15bb026896b6", func := "loop.example/comptoir/laws.FnExactPostOk", spec := "fnExactPostOk", apart := false }
def FnExactPostOkSaid : Prop := fnExactPostOkRow.holds Try.pinned (OpenSpec.ofChange fnExactPostOkSpec)

/-- ITS FALSE NEIGHBOUR: 'it returns false'. Refute it at one input. -/
def fnExactPostOkWrong : ChangeSpec := { name := "fnExactPostOk", fn := fun _ => fun
  | [d] => { results := [.lit (.bool false)], args := [d] }
  | _ => none }
def FnExactPostOkWrongFalsely : Prop := fnExactPostOkRow.holds Try.pinned (OpenSpec.ofChange fnExactPostOkWrong)

/-- 'laws.FnPostBent': WHATEVER THE INPUT: true; the input reads as it did. -/
def fnPostBentSpec : ChangeSpec := { name := "fnPostBent", fn := fun _ => fun
  | [d] => { results := [.lit (.bool true)], args := [d] }
  | _ => none }
def fnPostBentRow : OpenClaim := { program := "ytogggmipcldkaaa", sum := "c45357ff09b197405d7138da90b0fd9f73e4a84bedf2c6c74eed15bb026896b6", func := "loop.example/comptoir/laws.FnPostBent", spec := "fnPostBent", apart := false }
def FnPostBentSaid : Prop := fnPostBentRow.holds Try.pinned (OpenSpec.ofChange fnPostBentSpec)

/-- ITS FALSE NEIGHBOUR: 'it returns false'. Refute it at one input. -/
def fnPostBentWrong : ChangeSpec := { name := "fnPostBent", fn := fun _ => fun
  | [d] => { results := [.lit (.bool false)], args := [d] }
  | _ => none }
def FnPostBentWrongFalsely : Prop := fnPostBentRow.holds Try.pinned (OpenSpec.ofChange fnPostBentWrong)

/-- 'laws.FnPostFair': WHATEVER THE INPUT: true; the input reads as it did. -/
def fnPostFairSpec : ChangeSpec := { name := "fnPostFair", fn := fun _ => fun
  | [d] => { results := [.lit (.bool true)], args := [d] }
  | _ => none }
def fnPostFairRow : OpenClaim := { program := "ytogggmipcldkaaa", sum := "c45357ff09b197405d7138da90b0fd9f73e4a84bedf2c6c74eed15bb026896b6", func := "loop.example/comptoir/laws.FnPostFair", spec := "fnPostFair", unfollowed := true, recurses := true, apart := false }
def FnPostFairSaid : Prop := fnPostFairRow.holds Try.pinned (OpenSpec.ofChange fnPostFairSpec)

/-- ITS FALSE NEIGHBOUR: 'it returns false'. Refute it at one input. -/
def fnPostFairWrong : ChangeSpec := { name := "fnPostFair", fn := fun _ => fun
  | [d] => { results := [.lit (.bool false)], args := [d] }
  | _ => none }
def FnPostFairWrongFalsely : Prop := fnPostFairRow.holds Try.pinned (OpenSpec.ofChange fnPostFairWrong)

/-- 'laws.FnPostJoin': WHATEVER THE INPUT: true; the input reads as it did. -/
def fnPostJoinSpec : ChangeSpec := { name := "fnPostJoin", fn := fun _ => fun
  | [d1, d2] => { results := [.lit (.bool true)], args := [d1, d2] }
  | _ => none }
def fnPostJoinRow : OpenClaim := { program := "ytogggmipcldkaaa", sum := "c45357ff09b197405d7138da90b0fd9f73e4a84bedf2c6c74eed15bb026896b6", func := "loop.example/comptoir/laws.FnPostJoin", spec := "fnPostJoin", unfollowed := true, recurses := true, apart := false }
def FnPostJoinSaid : Prop := fnPostJoinRow.holds Try.pinned (OpenSpec.ofChange fnPostJoinSpec)

/-- ITS FALSE NEIGHBOUR: 'it returns false'. Refute it at one input. -/
def fnPostJoinWrong : ChangeSpec := { name := "fnPostJoin", fn := fun _ => fun
  | [d1, d2] => { results := [.lit (.bool false)], args := [d1, d2] }
  | _ => none }
def FnPostJoinWrongFalsely : Prop := fnPostJoinRow.holds Try.pinned (OpenSpec.ofChange fnPostJoinWrong)

/-- 'laws.FnPostTurn': WHATEVER THE INPUT: true; the input reads as it did. -/
def fnPostTurnSpec : ChangeSpec := { name := "fnPostTurn", fn := fun _ => fun
  | [d] => { results := [.lit (.bool true)], args := [d] }
  | _ => none }
def fnPostTurnRow : OpenClaim := { program := "ytogggmipcldkaaa", sum := "c45357ff09b197405d7138da90b0fd9f73e4a84bedf2c6c74eed15bb026896b6", func := "loop.example/comptoir/laws.FnPostTurn", spec := "fnPostTurn", unfollowed := true, recurses := true, apart := false }
def FnPostTurnSaid : Prop := fnPostTurnRow.holds Try.pinned (OpenSpec.ofChange fnPostTurnSpec)

/-- ITS FALSE NEIGHBOUR: 'it returns false'. Refute it at one input. -/
def fnPostTurnWrong : ChangeSpec := { name := "fnPostTurn", fn := fun _ => fun
  | [d] => { results := [.lit (.bool false)], args := [d] }
  | _ => none }
def FnPostTurnWrongFalsely : Prop := fnPostTurnRow.holds Try.pinned (OpenSpec.ofChange fnPostTurnWrong)

/-- 'laws.FnPostTo': WHATEVER THE INPUT: true; the input reads as it did. -/
def fnPostToSpec : ChangeSpec := { name := "fnPostTo", fn := fun _ => fun
  | [d] => { results := [.lit (.bool true)], args := [d] }
  | _ => none }
def fnPostToRow : OpenClaim := { program := "ytogggmipcldkaaa", sum := "c45357ff09b197405d7138da90b0fd9f73e4a84bedf2c6c74eed15bb026896b6", func := "loop.example/comptoir/laws.FnPostTo", spec := "fnPostTo", unfollowed := true, recurses := true, apart := false }
def FnPostToSaid : Prop := fnPostToRow.holds Try.pinned (OpenSpec.ofChange fnPostToSpec)

/-- ITS FALSE NEIGHBOUR: 'it returns false'. Refute it at one input. -/
def fnPostToWrong : ChangeSpec := { name := "fnPostTo", fn := fun _ => fun
  | [d] => { results := [.lit (.bool false)], args := [d] }
  | _ => none }
def FnPostToWrongFalsely : Prop := fnPostToRow.holds Try.pinned (OpenSpec.ofChange fnPostToWrong)

/- THE SECOND FORM. 'bulk': how many values and letters a reading holds, each counted each time it is reached (what is shared counts as often as it is met; a slice's spare places count too). A statement '..UptoSaid' is the law's where the arguments, and the package variables that the reading takes, are together of bulk at most 1048576: NARROWER than '..Said'. Prove '..Said' where nothing that the law and all that it calls make is longer than what came in: it says more and counts as full. Else prove '..UptoSaid'. A law counts once. -/
mutual
def uptoBulk {H : Type} : DataW H → Nat
  | .lit (.string bytes) => bytes.length + 1
  | .lit _ => 1
  | .nil => 1
  | .ptr d => uptoBulk d + 1
  | .slice elems spare => uptoBulkAll elems + uptoBulkAll spare + 1
  | .agg parts => uptoBulkAll parts + 1
  | .iface _ d => uptoBulk d + 1
  | .map entries => uptoBulkEntries entries + 1
  | .held _ => 1
def uptoBulkAll {H : Type} : List (DataW H) → Nat
  | [] => 0
  | d :: r => uptoBulk d + uptoBulkAll r
def uptoBulkEntries {H : Type} : List (Lit × DataW H) → Nat
  | [] => 0
  | x :: r => uptoBulkEntry x + uptoBulkEntries r
def uptoBulkEntry {H : Type} : Lit × DataW H → Nat
  | (.string bytes, d) => bytes.length + uptoBulk d + 1
  | (_, d) => uptoBulk d + 1
 end
def uptoSmall : (H : Type) → List (DataW H) → Bool := fun _ ds => decide (uptoBulkAll ds ≤ 1048576)
def OpenSpec.upto (s : _root_.Go.ChangeSpec) : _root_.Go.OpenSpec := { _root_.Go.OpenSpec.ofChange s with cond := some uptoSmall }

/-- 'laws.FnExactPostSum', WHERE WHAT IT READS IS OF BULK AT MOST 1048576: true; the input reads as it did. -/
def fnExactPostSumUptoRow : OpenClaim := { program := "ytogggmipcldkaaa", sum := "c45357ff09b197405d7138da90b0fd9f73e4a84bedf2c6c74eed15bb026896b6", func := "loop.example/comptoir/laws.FnExactPostSum", spec := "fnExactPostSum", unfollowed := true, recurses := true, apart := false, narrowed := true }
def FnExactPostSumUptoSaid : Prop := fnExactPostSumUptoRow.holds Try.pinned (OpenSpec.upto fnExactPostSumSpec)

/-- 'laws.FnExactPostTo', WHERE WHAT IT READS IS OF BULK AT MOST 1048576: true; the input reads as it did. -/
def fnExactPostToUptoRow : OpenClaim := { program := "ytogggmipcldkaaa", sum := "c45357ff09b197405d7138da90b0fd9f73e4a84bedf2c6c74eed15bb026896b6", func := "loop.example/comptoir/laws.FnExactPostTo", spec := "fnExactPostTo", unfollowed := true, recurses := true, apart := false, narrowed := true }
def FnExactPostToUptoSaid : Prop := fnExactPostToUptoRow.holds Try.pinned (OpenSpec.upto fnExactPostToSpec)

/-- 'laws.FnExactPostFair', WHERE WHAT IT READS IS OF BULK AT MOST 1048576: true; the input reads as it did. -/
def fnExactPostFairUptoRow : OpenClaim := { program := "ytogggmipcldkaaa", sum := "c45357ff09b197405d7138da90b0fd9f73e4a84bedf2c6c74eed15bb026896b6", func := "loop.example/comptoir/laws.FnExactPostFair", spec := "fnExactPostFair", unfollowed := true, recurses := true, apart := false, narrowed := true }
def FnExactPostFairUptoSaid : Prop := fnExactPostFairUptoRow.holds Try.pinned (OpenSpec.upto fnExactPostFairSpec)

/-- 'laws.FnExactPostOk', WHERE WHAT IT READS IS OF BULK AT MOST 1048576: true; the input reads as it did. -/
def fnExactPostOkUptoRow : OpenClaim := { program := "ytogggmipcldkaaa", sum := "c45357ff09b197405d7138da90b0fd9f73e4a84bedf2c6c74eed15bb026896b6", func := "loop.example/comptoir/laws.FnExactPostOk", spec := "fnExactPostOk", apart := false, narrowed := true }
def FnExactPostOkUptoSaid : Prop := fnExactPostOkUptoRow.holds Try.pinned (OpenSpec.upto fnExactPostOkSpec)

/-- 'laws.FnPostBent', WHERE WHAT IT READS IS OF BULK AT MOST 1048576: true; the input reads as it did. -/
def fnPostBentUptoRow : OpenClaim := { program := "ytogggmipcldkaaa", sum := "c45357ff09b197405d7138da90b0fd9f73e4a84bedf2c6c74eed15bb026896b6", func := "loop.example/comptoir/laws.FnPostBent", spec := "fnPostBent", apart := false, narrowed := true }
def FnPostBentUptoSaid : Prop := fnPostBentUptoRow.holds Try.pinned (OpenSpec.upto fnPostBentSpec)

/-- 'laws.FnPostFair', WHERE WHAT IT READS IS OF BULK AT MOST 1048576: true; the input reads as it did. -/
def fnPostFairUptoRow : OpenClaim := { program := "ytogggmipcldkaaa", sum := "c45357ff09b197405d7138da90b0fd9f73e4a84bedf2c6c74eed15bb026896b6", func := "loop.example/comptoir/laws.FnPostFair", spec := "fnPostFair", unfollowed := true, recurses := true, apart := false, narrowed := true }
def FnPostFairUptoSaid : Prop := fnPostFairUptoRow.holds Try.pinned (OpenSpec.upto fnPostFairSpec)

/-- 'laws.FnPostJoin', WHERE WHAT IT READS IS OF BULK AT MOST 1048576: true; the input reads as it did. -/
def fnPostJoinUptoRow : OpenClaim := { program := "ytogggmipcldkaaa", sum := "c45357ff09b197405d7138da90b0fd9f73e4a84bedf2c6c74eed15bb026896b6", func := "loop.example/comptoir/laws.FnPostJoin", spec := "fnPostJoin", unfollowed := true, recurses := true, apart := false, narrowed := true }
def FnPostJoinUptoSaid : Prop := fnPostJoinUptoRow.holds Try.pinned (OpenSpec.upto fnPostJoinSpec)

/-- 'laws.FnPostTurn', WHERE WHAT IT READS IS OF BULK AT MOST 1048576: true; the input reads as it did. -/
def fnPostTurnUptoRow : OpenClaim := { program := "ytogggmipcldkaaa", sum := "c45357ff09b197405d7138da90b0fd9f73e4a84bedf2c6c74eed15bb026896b6", func := "loop.example/comptoir/laws.FnPostTurn", spec := "fnPostTurn", unfollowed := true, recurses := true, apart := false, narrowed := true }
def FnPostTurnUptoSaid : Prop := fnPostTurnUptoRow.holds Try.pinned (OpenSpec.upto fnPostTurnSpec)

/-- 'laws.FnPostTo', WHERE WHAT IT READS IS OF BULK AT MOST 1048576: true; the input reads as it did. -/
def fnPostToUptoRow : OpenClaim := { program := "ytogggmipcldkaaa", sum := "c45357ff09b197405d7138da90b0fd9f73e4a84bedf2c6c74eed15bb026896b6", func := "loop.example/comptoir/laws.FnPostTo", spec := "fnPostTo", unfollowed := true, recurses := true, apart := false, narrowed := true }
def FnPostToUptoSaid : Prop := fnPostToUptoRow.holds Try.pinned (OpenSpec.upto fnPostToSpec)

end Rows
end Go.Proofs.Ytogggmipcldkaaa
