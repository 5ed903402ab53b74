/-
  DERIVED. GIVEN WITH THE SEED: THE CARDS: each row of YthcbjeeajoliiaaGreatDoorRows.lean that lists a variable, with what it lists TIED to the program's text (the seventh form; the later family's looks); each row that meets fmt, with fmt's text TOLD by the authors' own Lean function (tested against real Go, not proved from fmt's source: count such statements apart). THE CARD IS WHAT COUNTS. Prove the row's statement (the work); the ties are given (YthcbjeeajoliiaaGreatDoorTie.lean); close each card by the builder's one call (the guide's Derived/Test/ToyasCard.lean, 'card_holds'). Laid BY PROGRAM, IN A SANDBOX (cutbox-door.mjs). By AI agents, Wed Nov 11 2026. No macro, syntax, notation, axiom, sorry.
-/
import Derived.Test.YthcbjeeajoliiaaGreatDoorRows
import GoSem.ClaimSeven
namespace Go.Proofs.YthcbjeeajoliiaaGreatDoor
namespace Rows

/-- THE TIED CARD OF 'crossroadlaw18.ScriptCounts'. -/
def scriptCountsCard : Claim7 := { stood := { row := scriptCountsRow, standIns := [], harness := (true, "4033b7744ab5696c1ec5b29904c18f590f0028c9494259134f4e5aebf9e375ae"), looks := false }, kinds := [], alts := [], laidByText := true, laidKinds := [.data, .data, .data, .data], laidTests := true, laidLooks := .later }
def ScriptCountsCardSaid : Prop := Claim7.holds Tryz.pinned (.plain (OpenSpec.ofChange scriptCountsSpec)) scriptCountsCard

/-- THE TIED CARD OF 'crossroadlaw18.ScriptRuns'. -/
def scriptRunsCard : Claim7 := { stood := { row := scriptRunsRow, standIns := [], harness := (true, "4033b7744ab5696c1ec5b29904c18f590f0028c9494259134f4e5aebf9e375ae"), looks := false }, kinds := [], alts := [], laidByText := true, laidKinds := [.data, .data, .data, .data], laidTests := true, laidLooks := .later }
def ScriptRunsCardSaid : Prop := Claim7.holds Tryz.pinned (.plain (OpenSpec.ofChange scriptRunsSpec)) scriptRunsCard

/-- THE TIED CARD OF 'crossroadlaw19.TellTimes'. -/
def tellTimesCard : Claim7 := { stood := { row := tellTimesRow, standIns := [], harness := (true, "4033b7744ab5696c1ec5b29904c18f590f0028c9494259134f4e5aebf9e375ae"), looks := false }, kinds := [], alts := [], laidByText := true, laidKinds := [.data, .data, .data, .data], laidTests := true, laidLooks := .later }
def TellTimesCardSaid : Prop := Claim7.holds Tryz.pinned (.plain (OpenSpec.ofChange tellTimesSpec)) tellTimesCard

/-- THE SECOND FORM's CARD OF 'crossroadlaw18.ScriptCounts'. -/
def scriptCountsUptoCard : Claim7 := { stood := { row := scriptCountsUptoRow, standIns := [], harness := (true, "4033b7744ab5696c1ec5b29904c18f590f0028c9494259134f4e5aebf9e375ae"), looks := false }, kinds := [], alts := [], laidByText := true, laidKinds := [.data, .data, .data, .data], laidTests := true, laidLooks := .later }
def ScriptCountsUptoCardSaid : Prop := Claim7.holds Tryz.pinned (.plain (OpenSpec.upto scriptCountsSpec)) scriptCountsUptoCard

/-- THE SECOND FORM's CARD OF 'crossroadlaw18.ScriptRuns'. -/
def scriptRunsUptoCard : Claim7 := { stood := { row := scriptRunsUptoRow, standIns := [], harness := (true, "4033b7744ab5696c1ec5b29904c18f590f0028c9494259134f4e5aebf9e375ae"), looks := false }, kinds := [], alts := [], laidByText := true, laidKinds := [.data, .data, .data, .data], laidTests := true, laidLooks := .later }
def ScriptRunsUptoCardSaid : Prop := Claim7.holds Tryz.pinned (.plain (OpenSpec.upto scriptRunsSpec)) scriptRunsUptoCard

/-- THE SECOND FORM's CARD OF 'crossroadlaw19.TellTimes'. -/
def tellTimesUptoCard : Claim7 := { stood := { row := tellTimesUptoRow, standIns := [], harness := (true, "4033b7744ab5696c1ec5b29904c18f590f0028c9494259134f4e5aebf9e375ae"), looks := false }, kinds := [], alts := [], laidByText := true, laidKinds := [.data, .data, .data, .data], laidTests := true, laidLooks := .later }
def TellTimesUptoCardSaid : Prop := Claim7.holds Tryz.pinned (.plain (OpenSpec.upto tellTimesSpec)) tellTimesUptoCard
end Rows
end Go.Proofs.YthcbjeeajoliiaaGreatDoor
