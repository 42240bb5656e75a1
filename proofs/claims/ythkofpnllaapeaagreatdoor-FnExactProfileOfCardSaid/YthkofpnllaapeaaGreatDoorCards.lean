/-
  DERIVED. GIVEN WITH THE SEED: THE CARDS: each row of YthkofpnllaapeaaGreatDoorRows.lean that lists a variable, with what it lists TIED to the program's text (the seventh form; the later family's looks); each row that meets fmt, with fmt's text TOLD by the authors' own Lean function (tested against real Go, not proved from fmt's source: count such statements apart). THE CARD IS WHAT COUNTS. Prove the row's statement (the work); the ties are given (YthkofpnllaapeaaGreatDoorTie.lean); close each card by the builder's one call (the guide's Derived/Test/ToyasCard.lean, 'card_holds'). Laid BY PROGRAM, IN A SANDBOX (cutbox-door.mjs). By AI agents, Wed Nov 11 2026. No macro, syntax, notation, axiom, sorry.
-/
import Derived.Test.YthkofpnllaapeaaGreatDoorRows
import GoSem.ClaimSeven
namespace Go.Proofs.YthkofpnllaapeaaGreatDoor
namespace Rows

/-- THE TIED CARD OF 'laws.FnExactRun'. -/
def fnExactRunCard : Claim7 := { stood := { row := fnExactRunRow, standIns := [], harness := (true, "e5ac1799c9057c93ee31d03d6b8dc43d40c7ca6afb598a110861ea6d9e58f471"), looks := true }, kinds := [], alts := [], laidByText := true, laidKinds := [.data, .data, .data], laidTests := true, laidLooks := .later }
def FnExactRunCardSaid : Prop := Claim7.holds Tryz.pinned (.plain (OpenSpec.ofChange fnExactRunSpec)) fnExactRunCard

/-- THE TIED CARD OF 'laws.FnExactProfileOf'. -/
def fnExactProfileOfCard : Claim7 := { stood := { row := fnExactProfileOfRow, standIns := [], harness := (true, "e5ac1799c9057c93ee31d03d6b8dc43d40c7ca6afb598a110861ea6d9e58f471"), looks := true }, kinds := [], alts := [], laidByText := true, laidKinds := [.data, .data, .data], laidTests := true, laidLooks := .later }
def FnExactProfileOfCardSaid : Prop := Claim7.holds Tryz.pinned (.plain (OpenSpec.ofChange fnExactProfileOfSpec)) fnExactProfileOfCard

/-- THE TIED CARD OF 'laws.FnExactStep'. -/
def fnExactStepCard : Claim7 := { stood := { row := fnExactStepRow, standIns := [], harness := (true, "e5ac1799c9057c93ee31d03d6b8dc43d40c7ca6afb598a110861ea6d9e58f471"), looks := true }, kinds := [], alts := [], laidByText := true, laidKinds := [.data, .data, .data], laidTests := true, laidLooks := .later }
def FnExactStepCardSaid : Prop := Claim7.holds Tryz.pinned (.plain (OpenSpec.ofChange fnExactStepSpec)) fnExactStepCard

/-- THE TIED CARD OF 'laws.FnExactLocalsOf'. -/
def fnExactLocalsOfCard : Claim7 := { stood := { row := fnExactLocalsOfRow, standIns := [], harness := (true, "e5ac1799c9057c93ee31d03d6b8dc43d40c7ca6afb598a110861ea6d9e58f471"), looks := true }, kinds := [], alts := [], laidByText := true, laidKinds := [.data, .data, .data, .sentinel, .sentinel], laidTests := true, laidLooks := .later }
def FnExactLocalsOfCardSaid : Prop := Claim7.holds Tryz.pinned (.plain (OpenSpec.ofChange fnExactLocalsOfSpec)) fnExactLocalsOfCard

/-- THE SECOND FORM's CARD OF 'laws.FnExactRun'. -/
def fnExactRunUptoCard : Claim7 := { stood := { row := fnExactRunUptoRow, standIns := [], harness := (true, "e5ac1799c9057c93ee31d03d6b8dc43d40c7ca6afb598a110861ea6d9e58f471"), looks := true }, kinds := [], alts := [], laidByText := true, laidKinds := [.data, .data, .data], laidTests := true, laidLooks := .later }
def FnExactRunUptoCardSaid : Prop := Claim7.holds Tryz.pinned (.plain (OpenSpec.upto fnExactRunSpec)) fnExactRunUptoCard

/-- THE SECOND FORM's CARD OF 'laws.FnExactProfileOf'. -/
def fnExactProfileOfUptoCard : Claim7 := { stood := { row := fnExactProfileOfUptoRow, standIns := [], harness := (true, "e5ac1799c9057c93ee31d03d6b8dc43d40c7ca6afb598a110861ea6d9e58f471"), looks := true }, kinds := [], alts := [], laidByText := true, laidKinds := [.data, .data, .data], laidTests := true, laidLooks := .later }
def FnExactProfileOfUptoCardSaid : Prop := Claim7.holds Tryz.pinned (.plain (OpenSpec.upto fnExactProfileOfSpec)) fnExactProfileOfUptoCard

/-- THE SECOND FORM's CARD OF 'laws.FnExactStep'. -/
def fnExactStepUptoCard : Claim7 := { stood := { row := fnExactStepUptoRow, standIns := [], harness := (true, "e5ac1799c9057c93ee31d03d6b8dc43d40c7ca6afb598a110861ea6d9e58f471"), looks := true }, kinds := [], alts := [], laidByText := true, laidKinds := [.data, .data, .data], laidTests := true, laidLooks := .later }
def FnExactStepUptoCardSaid : Prop := Claim7.holds Tryz.pinned (.plain (OpenSpec.upto fnExactStepSpec)) fnExactStepUptoCard

/-- THE SECOND FORM's CARD OF 'laws.FnExactLocalsOf'. -/
def fnExactLocalsOfUptoCard : Claim7 := { stood := { row := fnExactLocalsOfUptoRow, standIns := [], harness := (true, "e5ac1799c9057c93ee31d03d6b8dc43d40c7ca6afb598a110861ea6d9e58f471"), looks := true }, kinds := [], alts := [], laidByText := true, laidKinds := [.data, .data, .data, .sentinel, .sentinel], laidTests := true, laidLooks := .later }
def FnExactLocalsOfUptoCardSaid : Prop := Claim7.holds Tryz.pinned (.plain (OpenSpec.upto fnExactLocalsOfSpec)) fnExactLocalsOfUptoCard
end Rows
end Go.Proofs.YthkofpnllaapeaaGreatDoor
