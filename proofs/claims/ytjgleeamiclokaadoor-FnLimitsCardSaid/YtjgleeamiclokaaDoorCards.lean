/-
  DERIVED. GIVEN WITH THE SEED: THE CARDS: each row of YtjgleeamiclokaaDoorRows.lean that lists a variable, with what it lists TIED to the program's text (the seventh form; the later family's looks); each row that meets fmt, with fmt's text TOLD by the authors' own Lean function (tested against real Go, not proved from fmt's source: count such statements apart). THE CARD IS WHAT COUNTS. Prove the row's statement (the work); the ties are given (YtjgleeamiclokaaDoorTie.lean); close each card by the builder's one call (the guide's Derived/Test/ToyasCard.lean, 'card_holds'). Laid BY PROGRAM, IN A SANDBOX (cutbox-door.mjs). By AI agents, Wed Nov 11 2026. No macro, syntax, notation, axiom, sorry.
-/
import Derived.Test.YtjgleeamiclokaaDoorRows
import GoSem.ClaimSeven
namespace Go.Proofs.YtjgleeamiclokaaDoor
namespace Rows

/-- THE TIED CARD OF 'laws.FnLimits'. -/
def fnLimitsCard : Claim7 := { stood := { row := fnLimitsRow, standIns := [], harness := (true, "4a6dc273c77b9d274ba8818a97e3be89746c4c2c650d6e6c7cf45f99f875eef6"), looks := false }, kinds := [], alts := [], laidByText := true, laidKinds := [.data, .data, .data], laidTests := true, laidLooks := .later }
def FnLimitsCardSaid : Prop := Claim7.holds Tryd.pinned (.plain (OpenSpec.ofChange fnLimitsSpec)) fnLimitsCard

/-- THE SECOND FORM's CARD OF 'laws.FnLimits'. -/
def fnLimitsUptoCard : Claim7 := { stood := { row := fnLimitsUptoRow, standIns := [], harness := (true, "4a6dc273c77b9d274ba8818a97e3be89746c4c2c650d6e6c7cf45f99f875eef6"), looks := false }, kinds := [], alts := [], laidByText := true, laidKinds := [.data, .data, .data], laidTests := true, laidLooks := .later }
def FnLimitsUptoCardSaid : Prop := Claim7.holds Tryd.pinned (.plain (OpenSpec.upto fnLimitsSpec)) fnLimitsUptoCard
end Rows
end Go.Proofs.YtjgleeamiclokaaDoor
