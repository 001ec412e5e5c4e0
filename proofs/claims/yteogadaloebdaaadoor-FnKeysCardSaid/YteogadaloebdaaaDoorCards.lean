/-
  DERIVED. GIVEN WITH THE SEED: THE CARDS: each row of YteogadaloebdaaaDoorRows.lean that lists a variable, with what it lists TIED to the program's text (the seventh form; the later family's looks); each row that meets fmt, with fmt's text TOLD by the authors' own Lean function (tested against real Go, not proved from fmt's source: count such statements apart). THE CARD IS WHAT COUNTS. Prove the row's statement (the work); the ties are given (YteogadaloebdaaaDoorTie.lean); close each card by the builder's one call (the guide's Derived/Test/ToyasCard.lean, 'card_holds'). Laid BY PROGRAM, IN A SANDBOX (cutbox-door.mjs). By AI agents, Wed Nov 11 2026. No macro, syntax, notation, axiom, sorry.
-/
import Derived.Test.YteogadaloebdaaaDoorRows
import GoSem.ClaimSeven
namespace Go.Proofs.YteogadaloebdaaaDoor
namespace Rows

/-- THE TIED CARD OF 'laws.FnKeys'. -/
def fnKeysCard : Claim7 := { stood := { row := fnKeysRow, standIns := [], harness := (true, "530680aa149a9bfdf8426b77c2dd44bb6360f0ccd4b9951516dd54b6e96286e5"), looks := true }, kinds := [], alts := [], laidByText := true, laidKinds := [.data, .pinned], laidTests := true, laidLooks := .later }
def FnKeysCardSaid : Prop := Claim7.holds Tryd.pinned (.plain (OpenSpec.ofChange fnKeysSpec)) fnKeysCard

/-- THE TIED CARD OF 'laws.FnExactKeyText'. -/
def fnExactKeyTextCard : Claim7 := { stood := { row := fnExactKeyTextRow, standIns := [], harness := (true, "530680aa149a9bfdf8426b77c2dd44bb6360f0ccd4b9951516dd54b6e96286e5"), looks := true }, kinds := [], alts := [], laidByText := true, laidKinds := [.data, .data, .data, .data, .pinned], laidTests := true, laidLooks := .later }
def FnExactKeyTextCardSaid : Prop := Claim7.holds Tryd.pinned (.plain (OpenSpec.ofChange fnExactKeyTextSpec)) fnExactKeyTextCard

/-- THE TIED CARD OF 'laws.FnTexts'. -/
def fnTextsCard : Claim7 := { stood := { row := fnTextsRow, standIns := [], harness := (true, "530680aa149a9bfdf8426b77c2dd44bb6360f0ccd4b9951516dd54b6e96286e5"), looks := true }, kinds := [], alts := [], laidByText := true, laidKinds := [.data, .data, .data, .data, .sentinel, .sentinel, .pinned], laidTests := true, laidLooks := .later }
def FnTextsCardSaid : Prop := Claim7.holds Tryd.pinned (.plain (OpenSpec.ofChange fnTextsSpec)) fnTextsCard

/-- THE TIED CARD OF 'laws.FnExactReadKeyText'. -/
def fnExactReadKeyTextCard : Claim7 := { stood := { row := fnExactReadKeyTextRow, standIns := [], harness := (true, "530680aa149a9bfdf8426b77c2dd44bb6360f0ccd4b9951516dd54b6e96286e5"), looks := true }, kinds := [], alts := [], laidByText := true, laidKinds := [.data, .data, .data, .data, .sentinel, .sentinel, .pinned], laidTests := true, laidLooks := .later }
def FnExactReadKeyTextCardSaid : Prop := Claim7.holds Tryd.pinned (.plain (OpenSpec.ofChange fnExactReadKeyTextSpec)) fnExactReadKeyTextCard

/-- THE TIED CARD OF 'laws.FnExactGoodBoard'. -/
def fnExactGoodBoardCard : Claim7 := { stood := { row := fnExactGoodBoardRow, standIns := [], harness := (true, "530680aa149a9bfdf8426b77c2dd44bb6360f0ccd4b9951516dd54b6e96286e5"), looks := true }, kinds := [], alts := [], laidByText := true, laidKinds := [.data, .pinned], laidTests := true, laidLooks := .later }
def FnExactGoodBoardCardSaid : Prop := Claim7.holds Tryd.pinned (.plain (OpenSpec.ofChange fnExactGoodBoardSpec)) fnExactGoodBoardCard

/-- THE SECOND FORM's CARD OF 'laws.FnKeys'. -/
def fnKeysUptoCard : Claim7 := { stood := { row := fnKeysUptoRow, standIns := [], harness := (true, "530680aa149a9bfdf8426b77c2dd44bb6360f0ccd4b9951516dd54b6e96286e5"), looks := true }, kinds := [], alts := [], laidByText := true, laidKinds := [.data, .pinned], laidTests := true, laidLooks := .later }
def FnKeysUptoCardSaid : Prop := Claim7.holds Tryd.pinned (.plain (OpenSpec.upto fnKeysSpec)) fnKeysUptoCard

/-- THE SECOND FORM's CARD OF 'laws.FnExactKeyText'. -/
def fnExactKeyTextUptoCard : Claim7 := { stood := { row := fnExactKeyTextUptoRow, standIns := [], harness := (true, "530680aa149a9bfdf8426b77c2dd44bb6360f0ccd4b9951516dd54b6e96286e5"), looks := true }, kinds := [], alts := [], laidByText := true, laidKinds := [.data, .data, .data, .data, .pinned], laidTests := true, laidLooks := .later }
def FnExactKeyTextUptoCardSaid : Prop := Claim7.holds Tryd.pinned (.plain (OpenSpec.upto fnExactKeyTextSpec)) fnExactKeyTextUptoCard

/-- THE SECOND FORM's CARD OF 'laws.FnTexts'. -/
def fnTextsUptoCard : Claim7 := { stood := { row := fnTextsUptoRow, standIns := [], harness := (true, "530680aa149a9bfdf8426b77c2dd44bb6360f0ccd4b9951516dd54b6e96286e5"), looks := true }, kinds := [], alts := [], laidByText := true, laidKinds := [.data, .data, .data, .data, .sentinel, .sentinel, .pinned], laidTests := true, laidLooks := .later }
def FnTextsUptoCardSaid : Prop := Claim7.holds Tryd.pinned (.plain (OpenSpec.upto fnTextsSpec)) fnTextsUptoCard

/-- THE SECOND FORM's CARD OF 'laws.FnExactReadKeyText'. -/
def fnExactReadKeyTextUptoCard : Claim7 := { stood := { row := fnExactReadKeyTextUptoRow, standIns := [], harness := (true, "530680aa149a9bfdf8426b77c2dd44bb6360f0ccd4b9951516dd54b6e96286e5"), looks := true }, kinds := [], alts := [], laidByText := true, laidKinds := [.data, .data, .data, .data, .sentinel, .sentinel, .pinned], laidTests := true, laidLooks := .later }
def FnExactReadKeyTextUptoCardSaid : Prop := Claim7.holds Tryd.pinned (.plain (OpenSpec.upto fnExactReadKeyTextSpec)) fnExactReadKeyTextUptoCard

/-- THE SECOND FORM's CARD OF 'laws.FnExactGoodBoard'. -/
def fnExactGoodBoardUptoCard : Claim7 := { stood := { row := fnExactGoodBoardUptoRow, standIns := [], harness := (true, "530680aa149a9bfdf8426b77c2dd44bb6360f0ccd4b9951516dd54b6e96286e5"), looks := true }, kinds := [], alts := [], laidByText := true, laidKinds := [.data, .pinned], laidTests := true, laidLooks := .later }
def FnExactGoodBoardUptoCardSaid : Prop := Claim7.holds Tryd.pinned (.plain (OpenSpec.upto fnExactGoodBoardSpec)) fnExactGoodBoardUptoCard
end Rows
end Go.Proofs.YteogadaloebdaaaDoor
