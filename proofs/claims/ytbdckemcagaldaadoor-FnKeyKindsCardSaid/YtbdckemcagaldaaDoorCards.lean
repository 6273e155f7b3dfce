/-
  DERIVED. GIVEN WITH THE SEED: THE CARDS: each row of YtbdckemcagaldaaDoorRows.lean that lists a variable, with what it lists TIED to the program's text (the seventh form; the later family's looks); each row that meets fmt, with fmt's text TOLD by the authors' own Lean function (tested against real Go, not proved from fmt's source: count such statements apart). THE CARD IS WHAT COUNTS. Prove the row's statement (the work); the ties are given (YtbdckemcagaldaaDoorTie.lean); close each card by the builder's one call (the guide's Derived/Test/ToyasCard.lean, 'card_holds'). Laid BY PROGRAM, IN A SANDBOX (cutbox-door.mjs). By AI agents, Wed Nov 11 2026. No macro, syntax, notation, axiom, sorry.
-/
import Derived.Test.YtbdckemcagaldaaDoorRows
import GoSem.ClaimSeven
namespace Go.Proofs.YtbdckemcagaldaaDoor
namespace Rows

/-- THE TIED CARD OF 'laws.FnExactKeyId'. -/
def fnExactKeyIdCard : Claim7 := { stood := { row := fnExactKeyIdRow, standIns := [], harness := (true, "c3a19a822ea150b47b6f7e548ef08aa39db89d1a52e29b933e32e19873ada18a"), looks := false }, kinds := [], alts := [], laidByText := true, laidKinds := [.sentinel], laidTests := true, laidLooks := .later }
def FnExactKeyIdCardSaid : Prop := Claim7.holds Tryd.pinned (.plain (OpenSpec.ofChange fnExactKeyIdSpec)) fnExactKeyIdCard

/-- THE TIED CARD OF 'laws.FnExactKeyLog'. -/
def fnExactKeyLogCard : Claim7 := { stood := { row := fnExactKeyLogRow, standIns := [], harness := (true, "c3a19a822ea150b47b6f7e548ef08aa39db89d1a52e29b933e32e19873ada18a"), looks := false }, kinds := [], alts := [], laidByText := true, laidKinds := [.sentinel], laidTests := true, laidLooks := .later }
def FnExactKeyLogCardSaid : Prop := Claim7.holds Tryd.pinned (.plain (OpenSpec.ofChange fnExactKeyLogSpec)) fnExactKeyLogCard

/-- THE TIED CARD OF 'laws.FnExactKeyBal'. -/
def fnExactKeyBalCard : Claim7 := { stood := { row := fnExactKeyBalRow, standIns := [], harness := (true, "c3a19a822ea150b47b6f7e548ef08aa39db89d1a52e29b933e32e19873ada18a"), looks := false }, kinds := [], alts := [], laidByText := true, laidKinds := [.data, .data, .data, .sentinel], laidTests := true, laidLooks := .later }
def FnExactKeyBalCardSaid : Prop := Claim7.holds Tryd.pinned (.plain (OpenSpec.ofChange fnExactKeyBalSpec)) fnExactKeyBalCard

/-- THE TIED CARD OF 'laws.FnKeyOrder'. -/
def fnKeyOrderCard : Claim7 := { stood := { row := fnKeyOrderRow, standIns := [], harness := (true, "c3a19a822ea150b47b6f7e548ef08aa39db89d1a52e29b933e32e19873ada18a"), looks := false }, kinds := [], alts := [], laidByText := true, laidKinds := [.data, .data, .data, .sentinel], laidTests := true, laidLooks := .later }
def FnKeyOrderCardSaid : Prop := Claim7.holds Tryd.pinned (.plain (OpenSpec.ofChange fnKeyOrderSpec)) fnKeyOrderCard

/-- THE TIED CARD OF 'laws.FnKeyKinds'. -/
def fnKeyKindsCard : Claim7 := { stood := { row := fnKeyKindsRow, standIns := [], harness := (true, "c3a19a822ea150b47b6f7e548ef08aa39db89d1a52e29b933e32e19873ada18a"), looks := false }, kinds := [], alts := [], laidByText := true, laidKinds := [.data, .data, .data, .sentinel], laidTests := true, laidLooks := .later }
def FnKeyKindsCardSaid : Prop := Claim7.holds Tryd.pinned (.plain (OpenSpec.ofChange fnKeyKindsSpec)) fnKeyKindsCard

/-- THE SECOND FORM's CARD OF 'laws.FnExactKeyId'. -/
def fnExactKeyIdUptoCard : Claim7 := { stood := { row := fnExactKeyIdUptoRow, standIns := [], harness := (true, "c3a19a822ea150b47b6f7e548ef08aa39db89d1a52e29b933e32e19873ada18a"), looks := false }, kinds := [], alts := [], laidByText := true, laidKinds := [.sentinel], laidTests := true, laidLooks := .later }
def FnExactKeyIdUptoCardSaid : Prop := Claim7.holds Tryd.pinned (.plain (OpenSpec.upto fnExactKeyIdSpec)) fnExactKeyIdUptoCard

/-- THE SECOND FORM's CARD OF 'laws.FnExactKeyLog'. -/
def fnExactKeyLogUptoCard : Claim7 := { stood := { row := fnExactKeyLogUptoRow, standIns := [], harness := (true, "c3a19a822ea150b47b6f7e548ef08aa39db89d1a52e29b933e32e19873ada18a"), looks := false }, kinds := [], alts := [], laidByText := true, laidKinds := [.sentinel], laidTests := true, laidLooks := .later }
def FnExactKeyLogUptoCardSaid : Prop := Claim7.holds Tryd.pinned (.plain (OpenSpec.upto fnExactKeyLogSpec)) fnExactKeyLogUptoCard

/-- THE SECOND FORM's CARD OF 'laws.FnExactKeyBal'. -/
def fnExactKeyBalUptoCard : Claim7 := { stood := { row := fnExactKeyBalUptoRow, standIns := [], harness := (true, "c3a19a822ea150b47b6f7e548ef08aa39db89d1a52e29b933e32e19873ada18a"), looks := false }, kinds := [], alts := [], laidByText := true, laidKinds := [.data, .data, .data, .sentinel], laidTests := true, laidLooks := .later }
def FnExactKeyBalUptoCardSaid : Prop := Claim7.holds Tryd.pinned (.plain (OpenSpec.upto fnExactKeyBalSpec)) fnExactKeyBalUptoCard

/-- THE SECOND FORM's CARD OF 'laws.FnKeyOrder'. -/
def fnKeyOrderUptoCard : Claim7 := { stood := { row := fnKeyOrderUptoRow, standIns := [], harness := (true, "c3a19a822ea150b47b6f7e548ef08aa39db89d1a52e29b933e32e19873ada18a"), looks := false }, kinds := [], alts := [], laidByText := true, laidKinds := [.data, .data, .data, .sentinel], laidTests := true, laidLooks := .later }
def FnKeyOrderUptoCardSaid : Prop := Claim7.holds Tryd.pinned (.plain (OpenSpec.upto fnKeyOrderSpec)) fnKeyOrderUptoCard

/-- THE SECOND FORM's CARD OF 'laws.FnKeyKinds'. -/
def fnKeyKindsUptoCard : Claim7 := { stood := { row := fnKeyKindsUptoRow, standIns := [], harness := (true, "c3a19a822ea150b47b6f7e548ef08aa39db89d1a52e29b933e32e19873ada18a"), looks := false }, kinds := [], alts := [], laidByText := true, laidKinds := [.data, .data, .data, .sentinel], laidTests := true, laidLooks := .later }
def FnKeyKindsUptoCardSaid : Prop := Claim7.holds Tryd.pinned (.plain (OpenSpec.upto fnKeyKindsSpec)) fnKeyKindsUptoCard
end Rows
end Go.Proofs.YtbdckemcagaldaaDoor
