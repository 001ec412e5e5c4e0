/-
  NARROWER THAN 'FOR EVERY INPUT', by the rows' own cells (each row's printed sentence says how): FnExactAppendFile: laid · FnExactRemoveFile: laid · FnExactCrashFiles: laid · FnFiles: laid · FnExactCreateFile: laid · FnExactRenameFile: laid.
  DERIVED. THE GIVEN ROWS OF THIS SEAT. 6 by the template 'for every input the law returns true; each argument reads behind the call as it read before'; 0 by the template 'total and deterministic' (their statements: YtmlclmbplbbbhaaDoorTotals.lean).
  GIVEN WITH THE SEED: the statements are not yours to turn. If you find one false, say at which input.
  Laid BY PROGRAM, IN A SANDBOX (cutbox-rows.mjs): the forced cells as the released guide's own fill.sh prints them over the translation fae11716d5789ccd… (all of the seat's roots in one cut). By AI agents, Wed Nov 11 2026. No macro, syntax, notation, axiom, sorry.
-/
import Derived.Test.YtmlclmbplbbbhaaDoorChecked
import GoSem.PinnedTables
import GoSem.Claim
import GoSem.ClaimJoined
import GoSem.ClaimMapViews
import Derived.JoinedTies
import Derived.KernelRfl
namespace Go.Proofs.YtmlclmbplbbbhaaDoor
/- THE CELL 'sum', in the pinned program and in every row, IS THE sha256 OF THE DUMP (.gsa) THAT YtmlclmbplbbbhaaDoorProg.lean LOADS. Nothing in Lean hashes anything: it is a label: what it is worth is what the hold of that sum in a sandbox is worth. -/
noncomputable def Tryd.pinned : Pinned := { name := "ytmlclmbplbbbhaadoor", sum := "fae11716d5789ccd91818dde3af3e50d6c5e9418fed3c4a3a976a1b1c07fbaa0", checked := Tryd.checked }
namespace Rows
def none {H : Type} : Left H := { results := [], args := [] }

/- WHAT THE LISTED PACKAGE-LEVEL VARIABLES READ AS WHEN THE CALL BEGINS. Each datum BY PROGRAM (the guide's laid-datum.mjs) off the statement by which the dump's own 'gosem.cut.vars' lays the variable. In a bare row this is a premise. The card (YtmlclmbplbbbhaaDoorCards.lean) ties it to the program's text. -/
def laid_unicode_utf8_acceptRanges {H : Type} : DataW H := .agg [.agg [.lit (.int .u8 128), .lit (.int .u8 191)], .agg [.lit (.int .u8 160), .lit (.int .u8 191)], .agg [.lit (.int .u8 128), .lit (.int .u8 159)], .agg [.lit (.int .u8 144), .lit (.int .u8 191)], .agg [.lit (.int .u8 128), .lit (.int .u8 143)], .agg [.lit (.int .u8 0), .lit (.int .u8 0)], .agg [.lit (.int .u8 0), .lit (.int .u8 0)], .agg [.lit (.int .u8 0), .lit (.int .u8 0)], .agg [.lit (.int .u8 0), .lit (.int .u8 0)], .agg [.lit (.int .u8 0), .lit (.int .u8 0)], .agg [.lit (.int .u8 0), .lit (.int .u8 0)], .agg [.lit (.int .u8 0), .lit (.int .u8 0)], .agg [.lit (.int .u8 0), .lit (.int .u8 0)], .agg [.lit (.int .u8 0), .lit (.int .u8 0)], .agg [.lit (.int .u8 0), .lit (.int .u8 0)], .agg [.lit (.int .u8 0), .lit (.int .u8 0)]]
/-- One of Go's own tables, pinned by name: the form's constant. -/
def laid_unicode_utf8_first : DataW Unit := Go.Pinned.utf8First

/-- 'laws.FnExactAppendFile': WHATEVER THE INPUT: true; the input reads as it did. -/
def fnExactAppendFileSpec : ChangeSpec := { name := "fnExactAppendFile", fn := fun _ => fun
  | [d1, d2, d3] => { results := [.lit (.bool true)], args := [d1, d2, d3] }
  | _ => none }
def fnExactAppendFileRow : OpenClaim := { program := "ytmlclmbplbbbhaadoor", sum := "fae11716d5789ccd91818dde3af3e50d6c5e9418fed3c4a3a976a1b1c07fbaa0", func := "loop.example/g00150/laws.FnExactAppendFile", spec := "fnExactAppendFile", inPlace := ["internal/bytealg.abigen_runtime_cmpstring", "internal/bytealg.IndexByteString", "internal/bytealg.IndexString"], unfollowed := true, recurses := true, named := ["unicode/utf8.first", "unicode/utf8.acceptRanges", "internal/bytealg.MaxLen"], apart := false, laid := [("unicode/utf8.acceptRanges", laid_unicode_utf8_acceptRanges), ("unicode/utf8.first", laid_unicode_utf8_first)] }
def FnExactAppendFileSaid : Prop := fnExactAppendFileRow.holds Tryd.pinned (OpenSpec.ofChange fnExactAppendFileSpec)

/-- ITS FALSE NEIGHBOUR: 'it returns false'. Refute it at one input. -/
def fnExactAppendFileWrong : ChangeSpec := { name := "fnExactAppendFile", fn := fun _ => fun
  | [d1, d2, d3] => { results := [.lit (.bool false)], args := [d1, d2, d3] }
  | _ => none }
def FnExactAppendFileWrongFalsely : Prop := fnExactAppendFileRow.holds Tryd.pinned (OpenSpec.ofChange fnExactAppendFileWrong)

/-- 'laws.FnExactRemoveFile': WHATEVER THE INPUT: true; the input reads as it did. -/
def fnExactRemoveFileSpec : ChangeSpec := { name := "fnExactRemoveFile", fn := fun _ => fun
  | [d1, d2] => { results := [.lit (.bool true)], args := [d1, d2] }
  | _ => none }
def fnExactRemoveFileRow : OpenClaim := { program := "ytmlclmbplbbbhaadoor", sum := "fae11716d5789ccd91818dde3af3e50d6c5e9418fed3c4a3a976a1b1c07fbaa0", func := "loop.example/g00150/laws.FnExactRemoveFile", spec := "fnExactRemoveFile", inPlace := ["internal/bytealg.abigen_runtime_cmpstring", "internal/bytealg.IndexByteString", "internal/bytealg.IndexString"], unfollowed := true, recurses := true, named := ["unicode/utf8.first", "unicode/utf8.acceptRanges", "internal/bytealg.MaxLen"], apart := false, laid := [("unicode/utf8.acceptRanges", laid_unicode_utf8_acceptRanges), ("unicode/utf8.first", laid_unicode_utf8_first)] }
def FnExactRemoveFileSaid : Prop := fnExactRemoveFileRow.holds Tryd.pinned (OpenSpec.ofChange fnExactRemoveFileSpec)

/-- ITS FALSE NEIGHBOUR: 'it returns false'. Refute it at one input. -/
def fnExactRemoveFileWrong : ChangeSpec := { name := "fnExactRemoveFile", fn := fun _ => fun
  | [d1, d2] => { results := [.lit (.bool false)], args := [d1, d2] }
  | _ => none }
def FnExactRemoveFileWrongFalsely : Prop := fnExactRemoveFileRow.holds Tryd.pinned (OpenSpec.ofChange fnExactRemoveFileWrong)

/-- 'laws.FnExactCrashFiles': WHATEVER THE INPUT: true; the input reads as it did. -/
def fnExactCrashFilesSpec : ChangeSpec := { name := "fnExactCrashFiles", fn := fun _ => fun
  | [d1, d2] => { results := [.lit (.bool true)], args := [d1, d2] }
  | _ => none }
def fnExactCrashFilesRow : OpenClaim := { program := "ytmlclmbplbbbhaadoor", sum := "fae11716d5789ccd91818dde3af3e50d6c5e9418fed3c4a3a976a1b1c07fbaa0", func := "loop.example/g00150/laws.FnExactCrashFiles", spec := "fnExactCrashFiles", inPlace := ["internal/bytealg.IndexByteString", "internal/bytealg.IndexString"], unfollowed := true, recurses := true, named := ["unicode/utf8.first", "unicode/utf8.acceptRanges", "internal/bytealg.MaxLen"], apart := false, laid := [("unicode/utf8.acceptRanges", laid_unicode_utf8_acceptRanges), ("unicode/utf8.first", laid_unicode_utf8_first)] }
def FnExactCrashFilesSaid : Prop := fnExactCrashFilesRow.holds Tryd.pinned (OpenSpec.ofChange fnExactCrashFilesSpec)

/-- ITS FALSE NEIGHBOUR: 'it returns false'. Refute it at one input. -/
def fnExactCrashFilesWrong : ChangeSpec := { name := "fnExactCrashFiles", fn := fun _ => fun
  | [d1, d2] => { results := [.lit (.bool false)], args := [d1, d2] }
  | _ => none }
def FnExactCrashFilesWrongFalsely : Prop := fnExactCrashFilesRow.holds Tryd.pinned (OpenSpec.ofChange fnExactCrashFilesWrong)

/-- 'laws.FnFiles': WHATEVER THE INPUT: true; the input reads as it did. -/
def fnFilesSpec : ChangeSpec := { name := "fnFiles", fn := fun _ => fun
  | [d] => { results := [.lit (.bool true)], args := [d] }
  | _ => none }
def fnFilesRow : OpenClaim := { program := "ytmlclmbplbbbhaadoor", sum := "fae11716d5789ccd91818dde3af3e50d6c5e9418fed3c4a3a976a1b1c07fbaa0", func := "loop.example/g00150/laws.FnFiles", spec := "fnFiles", inPlace := ["internal/bytealg.IndexByteString", "internal/bytealg.IndexString"], unfollowed := true, recurses := true, named := ["unicode/utf8.first", "unicode/utf8.acceptRanges", "internal/bytealg.MaxLen"], apart := false, laid := [("unicode/utf8.acceptRanges", laid_unicode_utf8_acceptRanges), ("unicode/utf8.first", laid_unicode_utf8_first)] }
def FnFilesSaid : Prop := fnFilesRow.holds Tryd.pinned (OpenSpec.ofChange fnFilesSpec)

/-- ITS FALSE NEIGHBOUR: 'it returns false'. Refute it at one input. -/
def fnFilesWrong : ChangeSpec := { name := "fnFiles", fn := fun _ => fun
  | [d] => { results := [.lit (.bool false)], args := [d] }
  | _ => none }
def FnFilesWrongFalsely : Prop := fnFilesRow.holds Tryd.pinned (OpenSpec.ofChange fnFilesWrong)

/-- 'laws.FnExactCreateFile': WHATEVER THE INPUT: true; the input reads as it did. -/
def fnExactCreateFileSpec : ChangeSpec := { name := "fnExactCreateFile", fn := fun _ => fun
  | [d1, d2] => { results := [.lit (.bool true)], args := [d1, d2] }
  | _ => none }
def fnExactCreateFileRow : OpenClaim := { program := "ytmlclmbplbbbhaadoor", sum := "fae11716d5789ccd91818dde3af3e50d6c5e9418fed3c4a3a976a1b1c07fbaa0", func := "loop.example/g00150/laws.FnExactCreateFile", spec := "fnExactCreateFile", inPlace := ["internal/bytealg.abigen_runtime_cmpstring", "slices.overlaps[loop.example/g00150/impl.File]", "internal/bytealg.IndexByteString", "internal/bytealg.IndexString"], unfollowed := true, recurses := true, named := ["unicode/utf8.first", "unicode/utf8.acceptRanges", "internal/bytealg.MaxLen"], apart := false, laid := [("unicode/utf8.acceptRanges", laid_unicode_utf8_acceptRanges), ("unicode/utf8.first", laid_unicode_utf8_first)] }
def FnExactCreateFileSaid : Prop := fnExactCreateFileRow.holds Tryd.pinned (OpenSpec.ofChange fnExactCreateFileSpec)

/-- ITS FALSE NEIGHBOUR: 'it returns false'. Refute it at one input. -/
def fnExactCreateFileWrong : ChangeSpec := { name := "fnExactCreateFile", fn := fun _ => fun
  | [d1, d2] => { results := [.lit (.bool false)], args := [d1, d2] }
  | _ => none }
def FnExactCreateFileWrongFalsely : Prop := fnExactCreateFileRow.holds Tryd.pinned (OpenSpec.ofChange fnExactCreateFileWrong)

/-- 'laws.FnExactRenameFile': WHATEVER THE INPUT: true; the input reads as it did. -/
def fnExactRenameFileSpec : ChangeSpec := { name := "fnExactRenameFile", fn := fun _ => fun
  | [d1, d2, d3] => { results := [.lit (.bool true)], args := [d1, d2, d3] }
  | _ => none }
def fnExactRenameFileRow : OpenClaim := { program := "ytmlclmbplbbbhaadoor", sum := "fae11716d5789ccd91818dde3af3e50d6c5e9418fed3c4a3a976a1b1c07fbaa0", func := "loop.example/g00150/laws.FnExactRenameFile", spec := "fnExactRenameFile", inPlace := ["internal/bytealg.abigen_runtime_cmpstring", "slices.overlaps[loop.example/g00150/impl.File]", "internal/bytealg.IndexByteString", "internal/bytealg.IndexString"], unfollowed := true, recurses := true, named := ["unicode/utf8.first", "unicode/utf8.acceptRanges", "internal/bytealg.MaxLen"], apart := false, laid := [("unicode/utf8.acceptRanges", laid_unicode_utf8_acceptRanges), ("unicode/utf8.first", laid_unicode_utf8_first)] }
def FnExactRenameFileSaid : Prop := fnExactRenameFileRow.holds Tryd.pinned (OpenSpec.ofChange fnExactRenameFileSpec)

/-- ITS FALSE NEIGHBOUR: 'it returns false'. Refute it at one input. -/
def fnExactRenameFileWrong : ChangeSpec := { name := "fnExactRenameFile", fn := fun _ => fun
  | [d1, d2, d3] => { results := [.lit (.bool false)], args := [d1, d2, d3] }
  | _ => none }
def FnExactRenameFileWrongFalsely : Prop := fnExactRenameFileRow.holds Tryd.pinned (OpenSpec.ofChange fnExactRenameFileWrong)

/- THE SECOND FORM. 'bulk': how many values and letters a reading holds, each counted each time it is reached (what is shared counts as often as it is met; a slice's spare places count too). A statement '..UptoSaid' is the law's where the arguments, and the package variables that the reading takes, are together of bulk at most 1048576: NARROWER than '..Said'. Prove '..Said' where nothing that the law and all that it calls make is longer than what came in: it says more and counts as full. Else prove '..UptoSaid'. A law counts once. -/
mutual
def uptoBulk {H : Type} : DataW H → Nat
  | .lit (.string bytes) => bytes.length + 1
  | .lit _ => 1
  | .nil => 1
  | .ptr d => uptoBulk d + 1
  | .slice elems spare => uptoBulkAll elems + uptoBulkAll spare + 1
  | .agg parts => uptoBulkAll parts + 1
  | .iface _ d => uptoBulk d + 1
  | .map entries => uptoBulkEntries entries + 1
  | .held _ => 1
def uptoBulkAll {H : Type} : List (DataW H) → Nat
  | [] => 0
  | d :: r => uptoBulk d + uptoBulkAll r
def uptoBulkEntries {H : Type} : List (Lit × DataW H) → Nat
  | [] => 0
  | x :: r => uptoBulkEntry x + uptoBulkEntries r
def uptoBulkEntry {H : Type} : Lit × DataW H → Nat
  | (.string bytes, d) => bytes.length + uptoBulk d + 1
  | (_, d) => uptoBulk d + 1
 end
def uptoSmall : (H : Type) → List (DataW H) → Bool := fun _ ds => decide (uptoBulkAll ds ≤ 1048576)
def OpenSpec.upto (s : _root_.Go.ChangeSpec) : _root_.Go.OpenSpec := { _root_.Go.OpenSpec.ofChange s with cond := some uptoSmall }

/-- 'laws.FnExactAppendFile', WHERE WHAT IT READS IS OF BULK AT MOST 1048576: true; the input reads as it did. -/
def fnExactAppendFileUptoRow : OpenClaim := { program := "ytmlclmbplbbbhaadoor", sum := "fae11716d5789ccd91818dde3af3e50d6c5e9418fed3c4a3a976a1b1c07fbaa0", func := "loop.example/g00150/laws.FnExactAppendFile", spec := "fnExactAppendFile", inPlace := ["internal/bytealg.abigen_runtime_cmpstring", "internal/bytealg.IndexByteString", "internal/bytealg.IndexString"], unfollowed := true, recurses := true, named := ["unicode/utf8.first", "unicode/utf8.acceptRanges", "internal/bytealg.MaxLen"], apart := false, laid := [("unicode/utf8.acceptRanges", laid_unicode_utf8_acceptRanges), ("unicode/utf8.first", laid_unicode_utf8_first)], narrowed := true }
def FnExactAppendFileUptoSaid : Prop := fnExactAppendFileUptoRow.holds Tryd.pinned (OpenSpec.upto fnExactAppendFileSpec)

/-- 'laws.FnExactRemoveFile', WHERE WHAT IT READS IS OF BULK AT MOST 1048576: true; the input reads as it did. -/
def fnExactRemoveFileUptoRow : OpenClaim := { program := "ytmlclmbplbbbhaadoor", sum := "fae11716d5789ccd91818dde3af3e50d6c5e9418fed3c4a3a976a1b1c07fbaa0", func := "loop.example/g00150/laws.FnExactRemoveFile", spec := "fnExactRemoveFile", inPlace := ["internal/bytealg.abigen_runtime_cmpstring", "internal/bytealg.IndexByteString", "internal/bytealg.IndexString"], unfollowed := true, recurses := true, named := ["unicode/utf8.first", "unicode/utf8.acceptRanges", "internal/bytealg.MaxLen"], apart := false, laid := [("unicode/utf8.acceptRanges", laid_unicode_utf8_acceptRanges), ("unicode/utf8.first", laid_unicode_utf8_first)], narrowed := true }
def FnExactRemoveFileUptoSaid : Prop := fnExactRemoveFileUptoRow.holds Tryd.pinned (OpenSpec.upto fnExactRemoveFileSpec)

/-- 'laws.FnExactCrashFiles', WHERE WHAT IT READS IS OF BULK AT MOST 1048576: true; the input reads as it did. -/
def fnExactCrashFilesUptoRow : OpenClaim := { program := "ytmlclmbplbbbhaadoor", sum := "fae11716d5789ccd91818dde3af3e50d6c5e9418fed3c4a3a976a1b1c07fbaa0", func := "loop.example/g00150/laws.FnExactCrashFiles", spec := "fnExactCrashFiles", inPlace := ["internal/bytealg.IndexByteString", "internal/bytealg.IndexString"], unfollowed := true, recurses := true, named := ["unicode/utf8.first", "unicode/utf8.acceptRanges", "internal/bytealg.MaxLen"], apart := false, laid := [("unicode/utf8.acceptRanges", laid_unicode_utf8_acceptRanges), ("unicode/utf8.first", laid_unicode_utf8_first)], narrowed := true }
def FnExactCrashFilesUptoSaid : Prop := fnExactCrashFilesUptoRow.holds Tryd.pinned (OpenSpec.upto fnExactCrashFilesSpec)

/-- 'laws.FnFiles', WHERE WHAT IT READS IS OF BULK AT MOST 1048576: true; the input reads as it did. -/
def fnFilesUptoRow : OpenClaim := { program := "ytmlclmbplbbbhaadoor", sum := "fae11716d5789ccd91818dde3af3e50d6c5e9418fed3c4a3a976a1b1c07fbaa0", func := "loop.example/g00150/laws.FnFiles", spec := "fnFiles", inPlace := ["internal/bytealg.IndexByteString", "internal/bytealg.IndexString"], unfollowed := true, recurses := true, named := ["unicode/utf8.first", "unicode/utf8.acceptRanges", "internal/bytealg.MaxLen"], apart := false, laid := [("unicode/utf8.acceptRanges", laid_unicode_utf8_acceptRanges), ("unicode/utf8.first", laid_unicode_utf8_first)], narrowed := true }
def FnFilesUptoSaid : Prop := fnFilesUptoRow.holds Tryd.pinned (OpenSpec.upto fnFilesSpec)

/-- 'laws.FnExactCreateFile', WHERE WHAT IT READS IS OF BULK AT MOST 1048576: true; the input reads as it did. -/
def fnExactCreateFileUptoRow : OpenClaim := { program := "ytmlclmbplbbbhaadoor", sum := "fae11716d5789ccd91818dde3af3e50d6c5e9418fed3c4a3a976a1b1c07fbaa0", func := "loop.example/g00150/laws.FnExactCreateFile", spec := "fnExactCreateFile", inPlace := ["internal/bytealg.abigen_runtime_cmpstring", "slices.overlaps[loop.example/g00150/impl.File]", "internal/bytealg.IndexByteString", "internal/bytealg.IndexString"], unfollowed := true, recurses := true, named := ["unicode/utf8.first", "unicode/utf8.acceptRanges", "internal/bytealg.MaxLen"], apart := false, laid := [("unicode/utf8.acceptRanges", laid_unicode_utf8_acceptRanges), ("unicode/utf8.first", laid_unicode_utf8_first)], narrowed := true }
def FnExactCreateFileUptoSaid : Prop := fnExactCreateFileUptoRow.holds Tryd.pinned (OpenSpec.upto fnExactCreateFileSpec)

/-- 'laws.FnExactRenameFile', WHERE WHAT IT READS IS OF BULK AT MOST 1048576: true; the input reads as it did. -/
def fnExactRenameFileUptoRow : OpenClaim := { program := "ytmlclmbplbbbhaadoor", sum := "fae11716d5789ccd91818dde3af3e50d6c5e9418fed3c4a3a976a1b1c07fbaa0", func := "loop.example/g00150/laws.FnExactRenameFile", spec := "fnExactRenameFile", inPlace := ["internal/bytealg.abigen_runtime_cmpstring", "slices.overlaps[loop.example/g00150/impl.File]", "internal/bytealg.IndexByteString", "internal/bytealg.IndexString"], unfollowed := true, recurses := true, named := ["unicode/utf8.first", "unicode/utf8.acceptRanges", "internal/bytealg.MaxLen"], apart := false, laid := [("unicode/utf8.acceptRanges", laid_unicode_utf8_acceptRanges), ("unicode/utf8.first", laid_unicode_utf8_first)], narrowed := true }
def FnExactRenameFileUptoSaid : Prop := fnExactRenameFileUptoRow.holds Tryd.pinned (OpenSpec.upto fnExactRenameFileSpec)

end Rows
end Go.Proofs.YtmlclmbplbbbhaaDoor
