/-
  DERIVED. GIVEN WITH THE SEED: THE CARDS: each row of YtllmobkkbpdchaaGreatDoorRows.lean that lists a variable, with what it lists TIED to the program's text (the seventh form; the later family's looks); each row that meets fmt, with fmt's text TOLD by the authors' own Lean function (tested against real Go, not proved from fmt's source: count such statements apart). THE CARD IS WHAT COUNTS. Prove the row's statement (the work); the ties are given (YtllmobkkbpdchaaGreatDoorTie.lean); close each card by the builder's one call (the guide's Derived/Test/ToyasCard.lean, 'card_holds'). Laid BY PROGRAM, IN A SANDBOX (cutbox-door.mjs). By AI agents, Wed Nov 11 2026. No macro, syntax, notation, axiom, sorry.
-/
import Derived.Test.YtllmobkkbpdchaaGreatDoorRows
import GoSem.ClaimSeven
namespace Go.Proofs.YtllmobkkbpdchaaGreatDoor
namespace Rows

/-- THE TIED CARD OF 'laws.FnAlikeSteps'. -/
def fnAlikeStepsCard : Claim7 := { stood := { row := fnAlikeStepsRow, standIns := [], harness := (true, "0545bfdb2a050e384d87a887e8b37c2ee42262f262ff61b1acc4580f1329e17a"), looks := false }, kinds := [], alts := [], laidByText := true, laidKinds := [.data, .data, .data], laidTests := true, laidLooks := .later }
def FnAlikeStepsCardSaid : Prop := Claim7.holds Tryz.pinned (.plain (OpenSpec.ofChange fnAlikeStepsSpec)) fnAlikeStepsCard

/-- THE TIED CARD OF 'laws.FnWatched'. -/
def fnWatchedCard : Claim7 := { stood := { row := fnWatchedRow, standIns := [], harness := (true, "0545bfdb2a050e384d87a887e8b37c2ee42262f262ff61b1acc4580f1329e17a"), looks := false }, kinds := [], alts := [], laidByText := true, laidKinds := [.data, .data, .data], laidTests := true, laidLooks := .later }
def FnWatchedCardSaid : Prop := Claim7.holds Tryz.pinned (.plain (OpenSpec.ofChange fnWatchedSpec)) fnWatchedCard

/-- THE SECOND FORM's CARD OF 'laws.FnAlikeSteps'. -/
def fnAlikeStepsUptoCard : Claim7 := { stood := { row := fnAlikeStepsUptoRow, standIns := [], harness := (true, "0545bfdb2a050e384d87a887e8b37c2ee42262f262ff61b1acc4580f1329e17a"), looks := false }, kinds := [], alts := [], laidByText := true, laidKinds := [.data, .data, .data], laidTests := true, laidLooks := .later }
def FnAlikeStepsUptoCardSaid : Prop := Claim7.holds Tryz.pinned (.plain (OpenSpec.upto fnAlikeStepsSpec)) fnAlikeStepsUptoCard

/-- THE SECOND FORM's CARD OF 'laws.FnWatched'. -/
def fnWatchedUptoCard : Claim7 := { stood := { row := fnWatchedUptoRow, standIns := [], harness := (true, "0545bfdb2a050e384d87a887e8b37c2ee42262f262ff61b1acc4580f1329e17a"), looks := false }, kinds := [], alts := [], laidByText := true, laidKinds := [.data, .data, .data], laidTests := true, laidLooks := .later }
def FnWatchedUptoCardSaid : Prop := Claim7.holds Tryz.pinned (.plain (OpenSpec.upto fnWatchedSpec)) fnWatchedUptoCard
end Rows
end Go.Proofs.YtllmobkkbpdchaaGreatDoor
