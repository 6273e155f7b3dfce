/-
  DERIVED. GIVEN WITH THE SEED: THE CARDS: each row of YtdjohhobmipagaaDoorRows.lean that lists a variable, with what it lists TIED to the program's text (the seventh form; the later family's looks); each row that meets fmt, with fmt's text TOLD by the authors' own Lean function (tested against real Go, not proved from fmt's source: count such statements apart). THE CARD IS WHAT COUNTS. Prove the row's statement (the work); the ties are given (YtdjohhobmipagaaDoorTie.lean); close each card by the builder's one call (the guide's Derived/Test/ToyasCard.lean, 'card_holds'). Laid BY PROGRAM, IN A SANDBOX (cutbox-door.mjs). By AI agents, Wed Nov 11 2026. No macro, syntax, notation, axiom, sorry.
-/
import Derived.Test.YtdjohhobmipagaaDoorRows
import GoSem.ClaimSeven
namespace Go.Proofs.YtdjohhobmipagaaDoor
namespace Rows

/-- THE TIED CARD OF 'laws.FnExactPostText'. -/
def fnExactPostTextCard : Claim7 := { stood := { row := fnExactPostTextRow, standIns := [], harness := (true, "58542d85c60e1e785dbd55eb3b3d2e94068c12ce56014012b6d176bd7d7bc565"), looks := true }, kinds := [], alts := [], laidByText := true, laidKinds := [.data, .data, .data], laidTests := true, laidLooks := .later }
def FnExactPostTextCardSaid : Prop := Claim7.holds Tryd.pinned (.plain (OpenSpec.ofChange fnExactPostTextSpec)) fnExactPostTextCard

/-- THE TIED CARD OF 'laws.FnExactPostRead'. -/
def fnExactPostReadCard : Claim7 := { stood := { row := fnExactPostReadRow, standIns := [], harness := (true, "58542d85c60e1e785dbd55eb3b3d2e94068c12ce56014012b6d176bd7d7bc565"), looks := true }, kinds := [], alts := [], laidByText := true, laidKinds := [.data, .data, .data, .sentinel, .sentinel], laidTests := true, laidLooks := .later }
def FnExactPostReadCardSaid : Prop := Claim7.holds Tryd.pinned (.plain (OpenSpec.ofChange fnExactPostReadSpec)) fnExactPostReadCard

/-- THE TIED CARD OF 'laws.FnPost'. -/
def fnPostCard : Claim7 := { stood := { row := fnPostRow, standIns := [], harness := (true, "58542d85c60e1e785dbd55eb3b3d2e94068c12ce56014012b6d176bd7d7bc565"), looks := true }, kinds := [], alts := [], laidByText := true, laidKinds := [.data, .data, .data, .sentinel, .sentinel], laidTests := true, laidLooks := .later }
def FnPostCardSaid : Prop := Claim7.holds Tryd.pinned (.plain (OpenSpec.ofChange fnPostSpec)) fnPostCard

/-- THE SECOND FORM's CARD OF 'laws.FnExactPostText'. -/
def fnExactPostTextUptoCard : Claim7 := { stood := { row := fnExactPostTextUptoRow, standIns := [], harness := (true, "58542d85c60e1e785dbd55eb3b3d2e94068c12ce56014012b6d176bd7d7bc565"), looks := true }, kinds := [], alts := [], laidByText := true, laidKinds := [.data, .data, .data], laidTests := true, laidLooks := .later }
def FnExactPostTextUptoCardSaid : Prop := Claim7.holds Tryd.pinned (.plain (OpenSpec.upto fnExactPostTextSpec)) fnExactPostTextUptoCard

/-- THE SECOND FORM's CARD OF 'laws.FnExactPostRead'. -/
def fnExactPostReadUptoCard : Claim7 := { stood := { row := fnExactPostReadUptoRow, standIns := [], harness := (true, "58542d85c60e1e785dbd55eb3b3d2e94068c12ce56014012b6d176bd7d7bc565"), looks := true }, kinds := [], alts := [], laidByText := true, laidKinds := [.data, .data, .data, .sentinel, .sentinel], laidTests := true, laidLooks := .later }
def FnExactPostReadUptoCardSaid : Prop := Claim7.holds Tryd.pinned (.plain (OpenSpec.upto fnExactPostReadSpec)) fnExactPostReadUptoCard

/-- THE SECOND FORM's CARD OF 'laws.FnPost'. -/
def fnPostUptoCard : Claim7 := { stood := { row := fnPostUptoRow, standIns := [], harness := (true, "58542d85c60e1e785dbd55eb3b3d2e94068c12ce56014012b6d176bd7d7bc565"), looks := true }, kinds := [], alts := [], laidByText := true, laidKinds := [.data, .data, .data, .sentinel, .sentinel], laidTests := true, laidLooks := .later }
def FnPostUptoCardSaid : Prop := Claim7.holds Tryd.pinned (.plain (OpenSpec.upto fnPostSpec)) fnPostUptoCard
end Rows
end Go.Proofs.YtdjohhobmipagaaDoor
