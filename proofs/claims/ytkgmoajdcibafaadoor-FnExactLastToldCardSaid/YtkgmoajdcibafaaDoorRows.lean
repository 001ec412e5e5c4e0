/-
  NARROWER THAN 'FOR EVERY INPUT', by the rows' own cells (each row's printed sentence says how): FnExactWinOf: laid · FnExactRaiseMark: laid · FnExactLastTold: laid · FnExactExpireWins: laid · FnExactTellDirty: laid.
  DERIVED. THE GIVEN ROWS OF THIS SEAT. 5 by the template 'for every input the law returns true; each argument reads behind the call as it read before'; 0 by the template 'total and deterministic' (their statements: YtkgmoajdcibafaaDoorTotals.lean).
  GIVEN WITH THE SEED: the statements are not yours to turn. If you find one false, say at which input.
  Laid BY PROGRAM, IN A SANDBOX (cutbox-rows.mjs): the forced cells as the released guide's own fill.sh prints them over the translation 1cc7cd0b0d124620… (all of the seat's roots in one cut). By AI agents, Wed Nov 11 2026. No macro, syntax, notation, axiom, sorry.
-/
import Derived.Test.YtkgmoajdcibafaaDoorChecked
import GoSem.PinnedTables
import GoSem.Claim
import GoSem.ClaimJoined
import GoSem.ClaimMapViews
import Derived.JoinedTies
import Derived.KernelRfl
namespace Go.Proofs.YtkgmoajdcibafaaDoor
/- THE CELL 'sum', in the pinned program and in every row, IS THE sha256 OF THE DUMP (.gsa) THAT YtkgmoajdcibafaaDoorProg.lean LOADS. Nothing in Lean hashes anything: it is a label: what it is worth is what the hold of that sum in a sandbox is worth. -/
noncomputable def Tryd.pinned : Pinned := { name := "ytkgmoajdcibafaadoor", sum := "1cc7cd0b0d124620b1215e0ee99a4262215a727f4cdd0f3cfbe2a7ff24babbe6", checked := Tryd.checked }
namespace Rows
def none {H : Type} : Left H := { results := [], args := [] }

/- WHAT THE LISTED PACKAGE-LEVEL VARIABLES READ AS WHEN THE CALL BEGINS. Each datum BY PROGRAM (the guide's laid-datum.mjs) off the statement by which the dump's own 'gosem.cut.vars' lays the variable. In a bare row this is a premise. The card (YtkgmoajdcibafaaDoorCards.lean) ties it to the program's text. -/
def laid_unicode_utf8_acceptRanges {H : Type} : DataW H := .agg [.agg [.lit (.int .u8 128), .lit (.int .u8 191)], .agg [.lit (.int .u8 160), .lit (.int .u8 191)], .agg [.lit (.int .u8 128), .lit (.int .u8 159)], .agg [.lit (.int .u8 144), .lit (.int .u8 191)], .agg [.lit (.int .u8 128), .lit (.int .u8 143)], .agg [.lit (.int .u8 0), .lit (.int .u8 0)], .agg [.lit (.int .u8 0), .lit (.int .u8 0)], .agg [.lit (.int .u8 0), .lit (.int .u8 0)], .agg [.lit (.int .u8 0), .lit (.int .u8 0)], .agg [.lit (.int .u8 0), .lit (.int .u8 0)], .agg [.lit (.int .u8 0), .lit (.int .u8 0)], .agg [.lit (.int .u8 0), .lit (.int .u8 0)], .agg [.lit (.int .u8 0), .lit (.int .u8 0)], .agg [.lit (.int .u8 0), .lit (.int .u8 0)], .agg [.lit (.int .u8 0), .lit (.int .u8 0)], .agg [.lit (.int .u8 0), .lit (.int .u8 0)]]
/-- One of Go's own tables, pinned by name: the form's constant. -/
def laid_unicode_utf8_first : DataW Unit := Go.Pinned.utf8First

/-- 'laws.FnExactWinOf': WHATEVER THE INPUT: true; the input reads as it did. -/
def fnExactWinOfSpec : ChangeSpec := { name := "fnExactWinOf", fn := fun _ => fun
  | [d1, d2] => { results := [.lit (.bool true)], args := [d1, d2] }
  | _ => none }
def fnExactWinOfRow : OpenClaim := { program := "ytkgmoajdcibafaadoor", sum := "1cc7cd0b0d124620b1215e0ee99a4262215a727f4cdd0f3cfbe2a7ff24babbe6", func := "loop.example/g00150/laws.FnExactWinOf", spec := "fnExactWinOf", inPlace := ["internal/bytealg.IndexByteString", "internal/bytealg.IndexString"], unfollowed := true, recurses := true, named := ["unicode/utf8.first", "unicode/utf8.acceptRanges", "internal/bytealg.MaxLen"], apart := false, laid := [("unicode/utf8.acceptRanges", laid_unicode_utf8_acceptRanges), ("unicode/utf8.first", laid_unicode_utf8_first)] }
def FnExactWinOfSaid : Prop := fnExactWinOfRow.holds Tryd.pinned (OpenSpec.ofChange fnExactWinOfSpec)

/-- ITS FALSE NEIGHBOUR: 'it returns false'. Refute it at one input. -/
def fnExactWinOfWrong : ChangeSpec := { name := "fnExactWinOf", fn := fun _ => fun
  | [d1, d2] => { results := [.lit (.bool false)], args := [d1, d2] }
  | _ => none }
def FnExactWinOfWrongFalsely : Prop := fnExactWinOfRow.holds Tryd.pinned (OpenSpec.ofChange fnExactWinOfWrong)

/-- 'laws.FnExactRaiseMark': WHATEVER THE INPUT: true; the input reads as it did. -/
def fnExactRaiseMarkSpec : ChangeSpec := { name := "fnExactRaiseMark", fn := fun _ => fun
  | [d1, d2] => { results := [.lit (.bool true)], args := [d1, d2] }
  | _ => none }
def fnExactRaiseMarkRow : OpenClaim := { program := "ytkgmoajdcibafaadoor", sum := "1cc7cd0b0d124620b1215e0ee99a4262215a727f4cdd0f3cfbe2a7ff24babbe6", func := "loop.example/g00150/laws.FnExactRaiseMark", spec := "fnExactRaiseMark", inPlace := ["internal/bytealg.IndexByteString", "internal/bytealg.IndexString"], unfollowed := true, recurses := true, named := ["unicode/utf8.first", "unicode/utf8.acceptRanges", "internal/bytealg.MaxLen"], apart := false, laid := [("unicode/utf8.acceptRanges", laid_unicode_utf8_acceptRanges), ("unicode/utf8.first", laid_unicode_utf8_first)] }
def FnExactRaiseMarkSaid : Prop := fnExactRaiseMarkRow.holds Tryd.pinned (OpenSpec.ofChange fnExactRaiseMarkSpec)

/-- ITS FALSE NEIGHBOUR: 'it returns false'. Refute it at one input. -/
def fnExactRaiseMarkWrong : ChangeSpec := { name := "fnExactRaiseMark", fn := fun _ => fun
  | [d1, d2] => { results := [.lit (.bool false)], args := [d1, d2] }
  | _ => none }
def FnExactRaiseMarkWrongFalsely : Prop := fnExactRaiseMarkRow.holds Tryd.pinned (OpenSpec.ofChange fnExactRaiseMarkWrong)

/-- 'laws.FnExactLastTold': WHATEVER THE INPUT: true; the input reads as it did. -/
def fnExactLastToldSpec : ChangeSpec := { name := "fnExactLastTold", fn := fun _ => fun
  | [d] => { results := [.lit (.bool true)], args := [d] }
  | _ => none }
def fnExactLastToldRow : OpenClaim := { program := "ytkgmoajdcibafaadoor", sum := "1cc7cd0b0d124620b1215e0ee99a4262215a727f4cdd0f3cfbe2a7ff24babbe6", func := "loop.example/g00150/laws.FnExactLastTold", spec := "fnExactLastTold", inPlace := ["internal/bytealg.IndexByteString", "internal/bytealg.IndexString", "slices.overlaps[loop.example/g00150/impl.Told]"], unfollowed := true, recurses := true, named := ["unicode/utf8.first", "unicode/utf8.acceptRanges", "internal/bytealg.MaxLen"], apart := false, laid := [("unicode/utf8.acceptRanges", laid_unicode_utf8_acceptRanges), ("unicode/utf8.first", laid_unicode_utf8_first)] }
def FnExactLastToldSaid : Prop := fnExactLastToldRow.holds Tryd.pinned (OpenSpec.ofChange fnExactLastToldSpec)

/-- ITS FALSE NEIGHBOUR: 'it returns false'. Refute it at one input. -/
def fnExactLastToldWrong : ChangeSpec := { name := "fnExactLastTold", fn := fun _ => fun
  | [d] => { results := [.lit (.bool false)], args := [d] }
  | _ => none }
def FnExactLastToldWrongFalsely : Prop := fnExactLastToldRow.holds Tryd.pinned (OpenSpec.ofChange fnExactLastToldWrong)

/-- 'laws.FnExactExpireWins': WHATEVER THE INPUT: true; the input reads as it did. -/
def fnExactExpireWinsSpec : ChangeSpec := { name := "fnExactExpireWins", fn := fun _ => fun
  | [d] => { results := [.lit (.bool true)], args := [d] }
  | _ => none }
def fnExactExpireWinsRow : OpenClaim := { program := "ytkgmoajdcibafaadoor", sum := "1cc7cd0b0d124620b1215e0ee99a4262215a727f4cdd0f3cfbe2a7ff24babbe6", func := "loop.example/g00150/laws.FnExactExpireWins", spec := "fnExactExpireWins", inPlace := ["internal/bytealg.IndexByteString", "internal/bytealg.IndexString"], unfollowed := true, recurses := true, named := ["unicode/utf8.first", "unicode/utf8.acceptRanges", "internal/bytealg.MaxLen"], apart := false, laid := [("unicode/utf8.acceptRanges", laid_unicode_utf8_acceptRanges), ("unicode/utf8.first", laid_unicode_utf8_first)] }
def FnExactExpireWinsSaid : Prop := fnExactExpireWinsRow.holds Tryd.pinned (OpenSpec.ofChange fnExactExpireWinsSpec)

/-- ITS FALSE NEIGHBOUR: 'it returns false'. Refute it at one input. -/
def fnExactExpireWinsWrong : ChangeSpec := { name := "fnExactExpireWins", fn := fun _ => fun
  | [d] => { results := [.lit (.bool false)], args := [d] }
  | _ => none }
def FnExactExpireWinsWrongFalsely : Prop := fnExactExpireWinsRow.holds Tryd.pinned (OpenSpec.ofChange fnExactExpireWinsWrong)

/-- 'laws.FnExactTellDirty': WHATEVER THE INPUT: true; the input reads as it did. -/
def fnExactTellDirtySpec : ChangeSpec := { name := "fnExactTellDirty", fn := fun _ => fun
  | [d] => { results := [.lit (.bool true)], args := [d] }
  | _ => none }
def fnExactTellDirtyRow : OpenClaim := { program := "ytkgmoajdcibafaadoor", sum := "1cc7cd0b0d124620b1215e0ee99a4262215a727f4cdd0f3cfbe2a7ff24babbe6", func := "loop.example/g00150/laws.FnExactTellDirty", spec := "fnExactTellDirty", inPlace := ["internal/bytealg.IndexByteString", "internal/bytealg.IndexString"], unfollowed := true, recurses := true, named := ["unicode/utf8.first", "unicode/utf8.acceptRanges", "internal/bytealg.MaxLen"], apart := false, laid := [("unicode/utf8.acceptRanges", laid_unicode_utf8_acceptRanges), ("unicode/utf8.first", laid_unicode_utf8_first)] }
def FnExactTellDirtySaid : Prop := fnExactTellDirtyRow.holds Tryd.pinned (OpenSpec.ofChange fnExactTellDirtySpec)

/-- ITS FALSE NEIGHBOUR: 'it returns false'. Refute it at one input. -/
def fnExactTellDirtyWrong : ChangeSpec := { name := "fnExactTellDirty", fn := fun _ => fun
  | [d] => { results := [.lit (.bool false)], args := [d] }
  | _ => none }
def FnExactTellDirtyWrongFalsely : Prop := fnExactTellDirtyRow.holds Tryd.pinned (OpenSpec.ofChange fnExactTellDirtyWrong)

/- THE SECOND FORM. 'bulk': how many values and letters a reading holds, each counted each time it is reached (what is shared counts as often as it is met; a slice's spare places count too). A statement '..UptoSaid' is the law's where the arguments, and the package variables that the reading takes, are together of bulk at most 1048576: NARROWER than '..Said'. Prove '..Said' where nothing that the law and all that it calls make is longer than what came in: it says more and counts as full. Else prove '..UptoSaid'. A law counts once. -/
mutual
def uptoBulk {H : Type} : DataW H → Nat
  | .lit (.string bytes) => bytes.length + 1
  | .lit _ => 1
  | .nil => 1
  | .ptr d => uptoBulk d + 1
  | .slice elems spare => uptoBulkAll elems + uptoBulkAll spare + 1
  | .agg parts => uptoBulkAll parts + 1
  | .iface _ d => uptoBulk d + 1
  | .map entries => uptoBulkEntries entries + 1
  | .held _ => 1
def uptoBulkAll {H : Type} : List (DataW H) → Nat
  | [] => 0
  | d :: r => uptoBulk d + uptoBulkAll r
def uptoBulkEntries {H : Type} : List (Lit × DataW H) → Nat
  | [] => 0
  | x :: r => uptoBulkEntry x + uptoBulkEntries r
def uptoBulkEntry {H : Type} : Lit × DataW H → Nat
  | (.string bytes, d) => bytes.length + uptoBulk d + 1
  | (_, d) => uptoBulk d + 1
 end
def uptoSmall : (H : Type) → List (DataW H) → Bool := fun _ ds => decide (uptoBulkAll ds ≤ 1048576)
def OpenSpec.upto (s : _root_.Go.ChangeSpec) : _root_.Go.OpenSpec := { _root_.Go.OpenSpec.ofChange s with cond := some uptoSmall }

/-- 'laws.FnExactWinOf', WHERE WHAT IT READS IS OF BULK AT MOST 1048576: true; the input reads as it did. -/
def fnExactWinOfUptoRow : OpenClaim := { program := "ytkgmoajdcibafaadoor", sum := "1cc7cd0b0d124620b1215e0ee99a4262215a727f4cdd0f3cfbe2a7ff24babbe6", func := "loop.example/g00150/laws.FnExactWinOf", spec := "fnExactWinOf", inPlace := ["internal/bytealg.IndexByteString", "internal/bytealg.IndexString"], unfollowed := true, recurses := true, named := ["unicode/utf8.first", "unicode/utf8.acceptRanges", "internal/bytealg.MaxLen"], apart := false, laid := [("unicode/utf8.acceptRanges", laid_unicode_utf8_acceptRanges), ("unicode/utf8.first", laid_unicode_utf8_first)], narrowed := true }
def FnExactWinOfUptoSaid : Prop := fnExactWinOfUptoRow.holds Tryd.pinned (OpenSpec.upto fnExactWinOfSpec)

/-- 'laws.FnExactRaiseMark', WHERE WHAT IT READS IS OF BULK AT MOST 1048576: true; the input reads as it did. -/
def fnExactRaiseMarkUptoRow : OpenClaim := { program := "ytkgmoajdcibafaadoor", sum := "1cc7cd0b0d124620b1215e0ee99a4262215a727f4cdd0f3cfbe2a7ff24babbe6", func := "loop.example/g00150/laws.FnExactRaiseMark", spec := "fnExactRaiseMark", inPlace := ["internal/bytealg.IndexByteString", "internal/bytealg.IndexString"], unfollowed := true, recurses := true, named := ["unicode/utf8.first", "unicode/utf8.acceptRanges", "internal/bytealg.MaxLen"], apart := false, laid := [("unicode/utf8.acceptRanges", laid_unicode_utf8_acceptRanges), ("unicode/utf8.first", laid_unicode_utf8_first)], narrowed := true }
def FnExactRaiseMarkUptoSaid : Prop := fnExactRaiseMarkUptoRow.holds Tryd.pinned (OpenSpec.upto fnExactRaiseMarkSpec)

/-- 'laws.FnExactLastTold', WHERE WHAT IT READS IS OF BULK AT MOST 1048576: true; the input reads as it did. -/
def fnExactLastToldUptoRow : OpenClaim := { program := "ytkgmoajdcibafaadoor", sum := "1cc7cd0b0d124620b1215e0ee99a4262215a727f4cdd0f3cfbe2a7ff24babbe6", func := "loop.example/g00150/laws.FnExactLastTold", spec := "fnExactLastTold", inPlace := ["internal/bytealg.IndexByteString", "internal/bytealg.IndexString", "slices.overlaps[loop.example/g00150/impl.Told]"], unfollowed := true, recurses := true, named := ["unicode/utf8.first", "unicode/utf8.acceptRanges", "internal/bytealg.MaxLen"], apart := false, laid := [("unicode/utf8.acceptRanges", laid_unicode_utf8_acceptRanges), ("unicode/utf8.first", laid_unicode_utf8_first)], narrowed := true }
def FnExactLastToldUptoSaid : Prop := fnExactLastToldUptoRow.holds Tryd.pinned (OpenSpec.upto fnExactLastToldSpec)

/-- 'laws.FnExactExpireWins', WHERE WHAT IT READS IS OF BULK AT MOST 1048576: true; the input reads as it did. -/
def fnExactExpireWinsUptoRow : OpenClaim := { program := "ytkgmoajdcibafaadoor", sum := "1cc7cd0b0d124620b1215e0ee99a4262215a727f4cdd0f3cfbe2a7ff24babbe6", func := "loop.example/g00150/laws.FnExactExpireWins", spec := "fnExactExpireWins", inPlace := ["internal/bytealg.IndexByteString", "internal/bytealg.IndexString"], unfollowed := true, recurses := true, named := ["unicode/utf8.first", "unicode/utf8.acceptRanges", "internal/bytealg.MaxLen"], apart := false, laid := [("unicode/utf8.acceptRanges", laid_unicode_utf8_acceptRanges), ("unicode/utf8.first", laid_unicode_utf8_first)], narrowed := true }
def FnExactExpireWinsUptoSaid : Prop := fnExactExpireWinsUptoRow.holds Tryd.pinned (OpenSpec.upto fnExactExpireWinsSpec)

/-- 'laws.FnExactTellDirty', WHERE WHAT IT READS IS OF BULK AT MOST 1048576: true; the input reads as it did. -/
def fnExactTellDirtyUptoRow : OpenClaim := { program := "ytkgmoajdcibafaadoor", sum := "1cc7cd0b0d124620b1215e0ee99a4262215a727f4cdd0f3cfbe2a7ff24babbe6", func := "loop.example/g00150/laws.FnExactTellDirty", spec := "fnExactTellDirty", inPlace := ["internal/bytealg.IndexByteString", "internal/bytealg.IndexString"], unfollowed := true, recurses := true, named := ["unicode/utf8.first", "unicode/utf8.acceptRanges", "internal/bytealg.MaxLen"], apart := false, laid := [("unicode/utf8.acceptRanges", laid_unicode_utf8_acceptRanges), ("unicode/utf8.first", laid_unicode_utf8_first)], narrowed := true }
def FnExactTellDirtyUptoSaid : Prop := fnExactTellDirtyUptoRow.holds Tryd.pinned (OpenSpec.upto fnExactTellDirtySpec)

end Rows
end Go.Proofs.YtkgmoajdcibafaaDoor
