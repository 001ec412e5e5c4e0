/-
  DERIVED. GIVEN WITH THE SEED: THE CARDS: each row of YtkgmoajdcibafaaDoorRows.lean that lists a variable, with what it lists TIED to the program's text (the seventh form; the later family's looks); each row that meets fmt, with fmt's text TOLD by the authors' own Lean function (tested against real Go, not proved from fmt's source: count such statements apart). THE CARD IS WHAT COUNTS. Prove the row's statement (the work); the ties are given (YtkgmoajdcibafaaDoorTie.lean); close each card by the builder's one call (the guide's Derived/Test/ToyasCard.lean, 'card_holds'). Laid BY PROGRAM, IN A SANDBOX (cutbox-door.mjs). By AI agents, Wed Nov 11 2026. No macro, syntax, notation, axiom, sorry.
-/
import Derived.Test.YtkgmoajdcibafaaDoorRows
import GoSem.ClaimSeven
namespace Go.Proofs.YtkgmoajdcibafaaDoor
namespace Rows

/-- THE TIED CARD OF 'laws.FnExactWinOf'. -/
def fnExactWinOfCard : Claim7 := { stood := { row := fnExactWinOfRow, standIns := [], harness := (true, "dbe4185d9b14acd1f21281ce2ffaf2428158838d079ea547a5009293e05bd213"), looks := false }, kinds := [], alts := [], laidByText := true, laidKinds := [.data, .pinned], laidTests := true, laidLooks := .later }
def FnExactWinOfCardSaid : Prop := Claim7.holds Tryd.pinned (.plain (OpenSpec.ofChange fnExactWinOfSpec)) fnExactWinOfCard

/-- THE TIED CARD OF 'laws.FnExactRaiseMark'. -/
def fnExactRaiseMarkCard : Claim7 := { stood := { row := fnExactRaiseMarkRow, standIns := [], harness := (true, "dbe4185d9b14acd1f21281ce2ffaf2428158838d079ea547a5009293e05bd213"), looks := false }, kinds := [], alts := [], laidByText := true, laidKinds := [.data, .pinned], laidTests := true, laidLooks := .later }
def FnExactRaiseMarkCardSaid : Prop := Claim7.holds Tryd.pinned (.plain (OpenSpec.ofChange fnExactRaiseMarkSpec)) fnExactRaiseMarkCard

/-- THE TIED CARD OF 'laws.FnExactLastTold'. -/
def fnExactLastToldCard : Claim7 := { stood := { row := fnExactLastToldRow, standIns := [], harness := (true, "dbe4185d9b14acd1f21281ce2ffaf2428158838d079ea547a5009293e05bd213"), looks := false }, kinds := [], alts := [], laidByText := true, laidKinds := [.data, .pinned], laidTests := true, laidLooks := .later }
def FnExactLastToldCardSaid : Prop := Claim7.holds Tryd.pinned (.plain (OpenSpec.ofChange fnExactLastToldSpec)) fnExactLastToldCard

/-- THE TIED CARD OF 'laws.FnExactExpireWins'. -/
def fnExactExpireWinsCard : Claim7 := { stood := { row := fnExactExpireWinsRow, standIns := [], harness := (true, "dbe4185d9b14acd1f21281ce2ffaf2428158838d079ea547a5009293e05bd213"), looks := false }, kinds := [], alts := [], laidByText := true, laidKinds := [.data, .pinned], laidTests := true, laidLooks := .later }
def FnExactExpireWinsCardSaid : Prop := Claim7.holds Tryd.pinned (.plain (OpenSpec.ofChange fnExactExpireWinsSpec)) fnExactExpireWinsCard

/-- THE TIED CARD OF 'laws.FnExactTellDirty'. -/
def fnExactTellDirtyCard : Claim7 := { stood := { row := fnExactTellDirtyRow, standIns := [], harness := (true, "dbe4185d9b14acd1f21281ce2ffaf2428158838d079ea547a5009293e05bd213"), looks := false }, kinds := [], alts := [], laidByText := true, laidKinds := [.data, .pinned], laidTests := true, laidLooks := .later }
def FnExactTellDirtyCardSaid : Prop := Claim7.holds Tryd.pinned (.plain (OpenSpec.ofChange fnExactTellDirtySpec)) fnExactTellDirtyCard

/-- THE SECOND FORM's CARD OF 'laws.FnExactWinOf'. -/
def fnExactWinOfUptoCard : Claim7 := { stood := { row := fnExactWinOfUptoRow, standIns := [], harness := (true, "dbe4185d9b14acd1f21281ce2ffaf2428158838d079ea547a5009293e05bd213"), looks := false }, kinds := [], alts := [], laidByText := true, laidKinds := [.data, .pinned], laidTests := true, laidLooks := .later }
def FnExactWinOfUptoCardSaid : Prop := Claim7.holds Tryd.pinned (.plain (OpenSpec.upto fnExactWinOfSpec)) fnExactWinOfUptoCard

/-- THE SECOND FORM's CARD OF 'laws.FnExactRaiseMark'. -/
def fnExactRaiseMarkUptoCard : Claim7 := { stood := { row := fnExactRaiseMarkUptoRow, standIns := [], harness := (true, "dbe4185d9b14acd1f21281ce2ffaf2428158838d079ea547a5009293e05bd213"), looks := false }, kinds := [], alts := [], laidByText := true, laidKinds := [.data, .pinned], laidTests := true, laidLooks := .later }
def FnExactRaiseMarkUptoCardSaid : Prop := Claim7.holds Tryd.pinned (.plain (OpenSpec.upto fnExactRaiseMarkSpec)) fnExactRaiseMarkUptoCard

/-- THE SECOND FORM's CARD OF 'laws.FnExactLastTold'. -/
def fnExactLastToldUptoCard : Claim7 := { stood := { row := fnExactLastToldUptoRow, standIns := [], harness := (true, "dbe4185d9b14acd1f21281ce2ffaf2428158838d079ea547a5009293e05bd213"), looks := false }, kinds := [], alts := [], laidByText := true, laidKinds := [.data, .pinned], laidTests := true, laidLooks := .later }
def FnExactLastToldUptoCardSaid : Prop := Claim7.holds Tryd.pinned (.plain (OpenSpec.upto fnExactLastToldSpec)) fnExactLastToldUptoCard

/-- THE SECOND FORM's CARD OF 'laws.FnExactExpireWins'. -/
def fnExactExpireWinsUptoCard : Claim7 := { stood := { row := fnExactExpireWinsUptoRow, standIns := [], harness := (true, "dbe4185d9b14acd1f21281ce2ffaf2428158838d079ea547a5009293e05bd213"), looks := false }, kinds := [], alts := [], laidByText := true, laidKinds := [.data, .pinned], laidTests := true, laidLooks := .later }
def FnExactExpireWinsUptoCardSaid : Prop := Claim7.holds Tryd.pinned (.plain (OpenSpec.upto fnExactExpireWinsSpec)) fnExactExpireWinsUptoCard

/-- THE SECOND FORM's CARD OF 'laws.FnExactTellDirty'. -/
def fnExactTellDirtyUptoCard : Claim7 := { stood := { row := fnExactTellDirtyUptoRow, standIns := [], harness := (true, "dbe4185d9b14acd1f21281ce2ffaf2428158838d079ea547a5009293e05bd213"), looks := false }, kinds := [], alts := [], laidByText := true, laidKinds := [.data, .pinned], laidTests := true, laidLooks := .later }
def FnExactTellDirtyUptoCardSaid : Prop := Claim7.holds Tryd.pinned (.plain (OpenSpec.upto fnExactTellDirtySpec)) fnExactTellDirtyUptoCard
end Rows
end Go.Proofs.YtkgmoajdcibafaaDoor
