/-
  DERIVED. GIVEN WITH THE SEED: THE CARDS: each row of YtmlclmbplbbbhaaDoorRows.lean that lists a variable, with what it lists TIED to the program's text (the seventh form; the later family's looks); each row that meets fmt, with fmt's text TOLD by the authors' own Lean function (tested against real Go, not proved from fmt's source: count such statements apart). THE CARD IS WHAT COUNTS. Prove the row's statement (the work); the ties are given (YtmlclmbplbbbhaaDoorTie.lean); close each card by the builder's one call (the guide's Derived/Test/ToyasCard.lean, 'card_holds'). Laid BY PROGRAM, IN A SANDBOX (cutbox-door.mjs). By AI agents, Wed Nov 11 2026. No macro, syntax, notation, axiom, sorry.
-/
import Derived.Test.YtmlclmbplbbbhaaDoorRows
import GoSem.ClaimSeven
namespace Go.Proofs.YtmlclmbplbbbhaaDoor
namespace Rows

/-- THE TIED CARD OF 'laws.FnExactAppendFile'. -/
def fnExactAppendFileCard : Claim7 := { stood := { row := fnExactAppendFileRow, standIns := [], harness := (true, "f17f0eca07c51690a4619ded57bb7d3894f853b06b03bd7acb8b0fc1f86a8723"), looks := false }, kinds := [], alts := [], laidByText := true, laidKinds := [.data, .pinned], laidTests := true, laidLooks := .later }
def FnExactAppendFileCardSaid : Prop := Claim7.holds Tryd.pinned (.plain (OpenSpec.ofChange fnExactAppendFileSpec)) fnExactAppendFileCard

/-- THE TIED CARD OF 'laws.FnExactRemoveFile'. -/
def fnExactRemoveFileCard : Claim7 := { stood := { row := fnExactRemoveFileRow, standIns := [], harness := (true, "f17f0eca07c51690a4619ded57bb7d3894f853b06b03bd7acb8b0fc1f86a8723"), looks := false }, kinds := [], alts := [], laidByText := true, laidKinds := [.data, .pinned], laidTests := true, laidLooks := .later }
def FnExactRemoveFileCardSaid : Prop := Claim7.holds Tryd.pinned (.plain (OpenSpec.ofChange fnExactRemoveFileSpec)) fnExactRemoveFileCard

/-- THE TIED CARD OF 'laws.FnExactCrashFiles'. -/
def fnExactCrashFilesCard : Claim7 := { stood := { row := fnExactCrashFilesRow, standIns := [], harness := (true, "f17f0eca07c51690a4619ded57bb7d3894f853b06b03bd7acb8b0fc1f86a8723"), looks := false }, kinds := [], alts := [], laidByText := true, laidKinds := [.data, .pinned], laidTests := true, laidLooks := .later }
def FnExactCrashFilesCardSaid : Prop := Claim7.holds Tryd.pinned (.plain (OpenSpec.ofChange fnExactCrashFilesSpec)) fnExactCrashFilesCard

/-- THE TIED CARD OF 'laws.FnFiles'. -/
def fnFilesCard : Claim7 := { stood := { row := fnFilesRow, standIns := [], harness := (true, "f17f0eca07c51690a4619ded57bb7d3894f853b06b03bd7acb8b0fc1f86a8723"), looks := false }, kinds := [], alts := [], laidByText := true, laidKinds := [.data, .pinned], laidTests := true, laidLooks := .later }
def FnFilesCardSaid : Prop := Claim7.holds Tryd.pinned (.plain (OpenSpec.ofChange fnFilesSpec)) fnFilesCard

/-- THE TIED CARD OF 'laws.FnExactCreateFile'. -/
def fnExactCreateFileCard : Claim7 := { stood := { row := fnExactCreateFileRow, standIns := [], harness := (true, "f17f0eca07c51690a4619ded57bb7d3894f853b06b03bd7acb8b0fc1f86a8723"), looks := false }, kinds := [], alts := [], laidByText := true, laidKinds := [.data, .pinned], laidTests := true, laidLooks := .later }
def FnExactCreateFileCardSaid : Prop := Claim7.holds Tryd.pinned (.plain (OpenSpec.ofChange fnExactCreateFileSpec)) fnExactCreateFileCard

/-- THE TIED CARD OF 'laws.FnExactRenameFile'. -/
def fnExactRenameFileCard : Claim7 := { stood := { row := fnExactRenameFileRow, standIns := [], harness := (true, "f17f0eca07c51690a4619ded57bb7d3894f853b06b03bd7acb8b0fc1f86a8723"), looks := false }, kinds := [], alts := [], laidByText := true, laidKinds := [.data, .pinned], laidTests := true, laidLooks := .later }
def FnExactRenameFileCardSaid : Prop := Claim7.holds Tryd.pinned (.plain (OpenSpec.ofChange fnExactRenameFileSpec)) fnExactRenameFileCard

/-- THE SECOND FORM's CARD OF 'laws.FnExactAppendFile'. -/
def fnExactAppendFileUptoCard : Claim7 := { stood := { row := fnExactAppendFileUptoRow, standIns := [], harness := (true, "f17f0eca07c51690a4619ded57bb7d3894f853b06b03bd7acb8b0fc1f86a8723"), looks := false }, kinds := [], alts := [], laidByText := true, laidKinds := [.data, .pinned], laidTests := true, laidLooks := .later }
def FnExactAppendFileUptoCardSaid : Prop := Claim7.holds Tryd.pinned (.plain (OpenSpec.upto fnExactAppendFileSpec)) fnExactAppendFileUptoCard

/-- THE SECOND FORM's CARD OF 'laws.FnExactRemoveFile'. -/
def fnExactRemoveFileUptoCard : Claim7 := { stood := { row := fnExactRemoveFileUptoRow, standIns := [], harness := (true, "f17f0eca07c51690a4619ded57bb7d3894f853b06b03bd7acb8b0fc1f86a8723"), looks := false }, kinds := [], alts := [], laidByText := true, laidKinds := [.data, .pinned], laidTests := true, laidLooks := .later }
def FnExactRemoveFileUptoCardSaid : Prop := Claim7.holds Tryd.pinned (.plain (OpenSpec.upto fnExactRemoveFileSpec)) fnExactRemoveFileUptoCard

/-- THE SECOND FORM's CARD OF 'laws.FnExactCrashFiles'. -/
def fnExactCrashFilesUptoCard : Claim7 := { stood := { row := fnExactCrashFilesUptoRow, standIns := [], harness := (true, "f17f0eca07c51690a4619ded57bb7d3894f853b06b03bd7acb8b0fc1f86a8723"), looks := false }, kinds := [], alts := [], laidByText := true, laidKinds := [.data, .pinned], laidTests := true, laidLooks := .later }
def FnExactCrashFilesUptoCardSaid : Prop := Claim7.holds Tryd.pinned (.plain (OpenSpec.upto fnExactCrashFilesSpec)) fnExactCrashFilesUptoCard

/-- THE SECOND FORM's CARD OF 'laws.FnFiles'. -/
def fnFilesUptoCard : Claim7 := { stood := { row := fnFilesUptoRow, standIns := [], harness := (true, "f17f0eca07c51690a4619ded57bb7d3894f853b06b03bd7acb8b0fc1f86a8723"), looks := false }, kinds := [], alts := [], laidByText := true, laidKinds := [.data, .pinned], laidTests := true, laidLooks := .later }
def FnFilesUptoCardSaid : Prop := Claim7.holds Tryd.pinned (.plain (OpenSpec.upto fnFilesSpec)) fnFilesUptoCard

/-- THE SECOND FORM's CARD OF 'laws.FnExactCreateFile'. -/
def fnExactCreateFileUptoCard : Claim7 := { stood := { row := fnExactCreateFileUptoRow, standIns := [], harness := (true, "f17f0eca07c51690a4619ded57bb7d3894f853b06b03bd7acb8b0fc1f86a8723"), looks := false }, kinds := [], alts := [], laidByText := true, laidKinds := [.data, .pinned], laidTests := true, laidLooks := .later }
def FnExactCreateFileUptoCardSaid : Prop := Claim7.holds Tryd.pinned (.plain (OpenSpec.upto fnExactCreateFileSpec)) fnExactCreateFileUptoCard

/-- THE SECOND FORM's CARD OF 'laws.FnExactRenameFile'. -/
def fnExactRenameFileUptoCard : Claim7 := { stood := { row := fnExactRenameFileUptoRow, standIns := [], harness := (true, "f17f0eca07c51690a4619ded57bb7d3894f853b06b03bd7acb8b0fc1f86a8723"), looks := false }, kinds := [], alts := [], laidByText := true, laidKinds := [.data, .pinned], laidTests := true, laidLooks := .later }
def FnExactRenameFileUptoCardSaid : Prop := Claim7.holds Tryd.pinned (.plain (OpenSpec.upto fnExactRenameFileSpec)) fnExactRenameFileUptoCard
end Rows
end Go.Proofs.YtmlclmbplbbbhaaDoor
