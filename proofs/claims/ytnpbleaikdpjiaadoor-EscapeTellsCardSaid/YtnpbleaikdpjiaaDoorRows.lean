/-
  NARROWER THAN 'FOR EVERY INPUT', by the rows' own cells (each row's printed sentence says how): EscapeTells: laid · EscapeBack: laid · EscapePairs: laid · EscapeSigns: laid · EscapeShort: laid · EscapeJoins: laid · EscapeOpens: laid.
  DERIVED. THE GIVEN ROWS OF THIS SEAT. 7 by the template 'for every input the law returns true; each argument reads behind the call as it read before'; 0 by the template 'total and deterministic' (their statements: YtnpbleaikdpjiaaDoorTotals.lean).
  GIVEN WITH THE SEED: the statements are not yours to turn. If you find one false, say at which input.
  Laid BY PROGRAM, IN A SANDBOX (cutbox-rows.mjs): the forced cells as the released guide's own fill.sh prints them over the translation e28399af32497564… (all of the seat's roots in one cut). By AI agents, Wed Nov 11 2026. No macro, syntax, notation, axiom, sorry.
-/
import Derived.Test.YtnpbleaikdpjiaaDoorChecked
import GoSem.PinnedTables
import GoSem.Claim
import GoSem.ClaimJoined
import GoSem.ClaimMapViews
import Derived.JoinedTies
import Derived.KernelRfl
namespace Go.Proofs.YtnpbleaikdpjiaaDoor
/- THE CELL 'sum', in the pinned program and in every row, IS THE sha256 OF THE DUMP (.gsa) THAT YtnpbleaikdpjiaaDoorProg.lean LOADS. Nothing in Lean hashes anything: it is a label: what it is worth is what the hold of that sum in a sandbox is worth. -/
noncomputable def Tryd.pinned : Pinned := { name := "ytnpbleaikdpjiaadoor", sum := "e28399af32497564682a4e4fdda5801f29df67a4eed24b83ab312fe30e613d64", checked := Tryd.checked }
namespace Rows
def none {H : Type} : Left H := { results := [], args := [] }

/- WHAT THE LISTED PACKAGE-LEVEL VARIABLES READ AS WHEN THE CALL BEGINS. Each datum BY PROGRAM (the guide's laid-datum.mjs) off the statement by which the dump's own 'gosem.cut.vars' lays the variable. In a bare row this is a premise. The card (YtnpbleaikdpjiaaDoorCards.lean) ties it to the program's text. -/
def laid_unicode_utf8_acceptRanges {H : Type} : DataW H := .agg [.agg [.lit (.int .u8 128), .lit (.int .u8 191)], .agg [.lit (.int .u8 160), .lit (.int .u8 191)], .agg [.lit (.int .u8 128), .lit (.int .u8 159)], .agg [.lit (.int .u8 144), .lit (.int .u8 191)], .agg [.lit (.int .u8 128), .lit (.int .u8 143)], .agg [.lit (.int .u8 0), .lit (.int .u8 0)], .agg [.lit (.int .u8 0), .lit (.int .u8 0)], .agg [.lit (.int .u8 0), .lit (.int .u8 0)], .agg [.lit (.int .u8 0), .lit (.int .u8 0)], .agg [.lit (.int .u8 0), .lit (.int .u8 0)], .agg [.lit (.int .u8 0), .lit (.int .u8 0)], .agg [.lit (.int .u8 0), .lit (.int .u8 0)], .agg [.lit (.int .u8 0), .lit (.int .u8 0)], .agg [.lit (.int .u8 0), .lit (.int .u8 0)], .agg [.lit (.int .u8 0), .lit (.int .u8 0)], .agg [.lit (.int .u8 0), .lit (.int .u8 0)]]
/-- One of Go's own tables, pinned by name: the form's constant. -/
def laid_unicode_utf8_first : DataW Unit := Go.Pinned.utf8First

/-- 'truchmanlaw5.EscapeTells': WHATEVER THE INPUT: true; the input reads as it did. -/
def escapeTellsSpec : ChangeSpec := { name := "escapeTells", fn := fun _ => fun
  | [d1, d2] => { results := [.lit (.bool true)], args := [d1, d2] }
  | _ => none }
def escapeTellsRow : OpenClaim := { program := "ytnpbleaikdpjiaadoor", sum := "e28399af32497564682a4e4fdda5801f29df67a4eed24b83ab312fe30e613d64", func := "truchman/truchmanlaw5.EscapeTells", spec := "escapeTells", inPlace := ["internal/bytealg.IndexByteString", "internal/abi.NoEscape", "internal/bytealg.IndexString"], named := ["unicode/utf8.first", "unicode/utf8.acceptRanges", "internal/bytealg.MaxLen"], apart := false, laid := [("unicode/utf8.acceptRanges", laid_unicode_utf8_acceptRanges), ("unicode/utf8.first", laid_unicode_utf8_first)] }
def EscapeTellsSaid : Prop := escapeTellsRow.holds Tryd.pinned (OpenSpec.ofChange escapeTellsSpec)

/-- ITS FALSE NEIGHBOUR: 'it returns false'. Refute it at one input. -/
def escapeTellsWrong : ChangeSpec := { name := "escapeTells", fn := fun _ => fun
  | [d1, d2] => { results := [.lit (.bool false)], args := [d1, d2] }
  | _ => none }
def EscapeTellsWrongFalsely : Prop := escapeTellsRow.holds Tryd.pinned (OpenSpec.ofChange escapeTellsWrong)

/-- 'truchmanlaw5.EscapeBack': WHATEVER THE INPUT: true; the input reads as it did. -/
def escapeBackSpec : ChangeSpec := { name := "escapeBack", fn := fun _ => fun
  | [d] => { results := [.lit (.bool true)], args := [d] }
  | _ => none }
def escapeBackRow : OpenClaim := { program := "ytnpbleaikdpjiaadoor", sum := "e28399af32497564682a4e4fdda5801f29df67a4eed24b83ab312fe30e613d64", func := "truchman/truchmanlaw5.EscapeBack", spec := "escapeBack", inPlace := ["internal/bytealg.IndexByteString", "internal/abi.NoEscape", "internal/bytealg.IndexString"], named := ["unicode/utf8.first", "unicode/utf8.acceptRanges", "internal/bytealg.MaxLen"], apart := false, laid := [("unicode/utf8.acceptRanges", laid_unicode_utf8_acceptRanges), ("unicode/utf8.first", laid_unicode_utf8_first)] }
def EscapeBackSaid : Prop := escapeBackRow.holds Tryd.pinned (OpenSpec.ofChange escapeBackSpec)

/-- ITS FALSE NEIGHBOUR: 'it returns false'. Refute it at one input. -/
def escapeBackWrong : ChangeSpec := { name := "escapeBack", fn := fun _ => fun
  | [d] => { results := [.lit (.bool false)], args := [d] }
  | _ => none }
def EscapeBackWrongFalsely : Prop := escapeBackRow.holds Tryd.pinned (OpenSpec.ofChange escapeBackWrong)

/-- 'truchmanlaw5.EscapePairs': WHATEVER THE INPUT: true; the input reads as it did. -/
def escapePairsSpec : ChangeSpec := { name := "escapePairs", fn := fun _ => fun
  | [d1, d2] => { results := [.lit (.bool true)], args := [d1, d2] }
  | _ => none }
def escapePairsRow : OpenClaim := { program := "ytnpbleaikdpjiaadoor", sum := "e28399af32497564682a4e4fdda5801f29df67a4eed24b83ab312fe30e613d64", func := "truchman/truchmanlaw5.EscapePairs", spec := "escapePairs", inPlace := ["internal/bytealg.IndexByteString", "internal/abi.NoEscape", "internal/bytealg.IndexString"], unfollowed := true, recurses := true, named := ["unicode/utf8.first", "unicode/utf8.acceptRanges", "internal/bytealg.MaxLen"], apart := false, laid := [("unicode/utf8.acceptRanges", laid_unicode_utf8_acceptRanges), ("unicode/utf8.first", laid_unicode_utf8_first)] }
def EscapePairsSaid : Prop := escapePairsRow.holds Tryd.pinned (OpenSpec.ofChange escapePairsSpec)

/-- ITS FALSE NEIGHBOUR: 'it returns false'. Refute it at one input. -/
def escapePairsWrong : ChangeSpec := { name := "escapePairs", fn := fun _ => fun
  | [d1, d2] => { results := [.lit (.bool false)], args := [d1, d2] }
  | _ => none }
def EscapePairsWrongFalsely : Prop := escapePairsRow.holds Tryd.pinned (OpenSpec.ofChange escapePairsWrong)

/-- 'truchmanlaw5.EscapeSigns': WHATEVER THE INPUT: true; the input reads as it did. -/
def escapeSignsSpec : ChangeSpec := { name := "escapeSigns", fn := fun _ => fun
  | [d] => { results := [.lit (.bool true)], args := [d] }
  | _ => none }
def escapeSignsRow : OpenClaim := { program := "ytnpbleaikdpjiaadoor", sum := "e28399af32497564682a4e4fdda5801f29df67a4eed24b83ab312fe30e613d64", func := "truchman/truchmanlaw5.EscapeSigns", spec := "escapeSigns", inPlace := ["internal/bytealg.IndexByteString", "internal/abi.NoEscape", "internal/bytealg.IndexString"], named := ["unicode/utf8.first", "unicode/utf8.acceptRanges", "internal/bytealg.MaxLen"], apart := false, laid := [("unicode/utf8.acceptRanges", laid_unicode_utf8_acceptRanges), ("unicode/utf8.first", laid_unicode_utf8_first)] }
def EscapeSignsSaid : Prop := escapeSignsRow.holds Tryd.pinned (OpenSpec.ofChange escapeSignsSpec)

/-- ITS FALSE NEIGHBOUR: 'it returns false'. Refute it at one input. -/
def escapeSignsWrong : ChangeSpec := { name := "escapeSigns", fn := fun _ => fun
  | [d] => { results := [.lit (.bool false)], args := [d] }
  | _ => none }
def EscapeSignsWrongFalsely : Prop := escapeSignsRow.holds Tryd.pinned (OpenSpec.ofChange escapeSignsWrong)

/-- 'truchmanlaw5.EscapeShort': WHATEVER THE INPUT: true; the input reads as it did. -/
def escapeShortSpec : ChangeSpec := { name := "escapeShort", fn := fun _ => fun
  | [d] => { results := [.lit (.bool true)], args := [d] }
  | _ => none }
def escapeShortRow : OpenClaim := { program := "ytnpbleaikdpjiaadoor", sum := "e28399af32497564682a4e4fdda5801f29df67a4eed24b83ab312fe30e613d64", func := "truchman/truchmanlaw5.EscapeShort", spec := "escapeShort", inPlace := ["internal/bytealg.IndexByteString", "internal/abi.NoEscape", "internal/bytealg.IndexString"], named := ["unicode/utf8.first", "unicode/utf8.acceptRanges", "internal/bytealg.MaxLen"], apart := false, laid := [("unicode/utf8.acceptRanges", laid_unicode_utf8_acceptRanges), ("unicode/utf8.first", laid_unicode_utf8_first)] }
def EscapeShortSaid : Prop := escapeShortRow.holds Tryd.pinned (OpenSpec.ofChange escapeShortSpec)

/-- ITS FALSE NEIGHBOUR: 'it returns false'. Refute it at one input. -/
def escapeShortWrong : ChangeSpec := { name := "escapeShort", fn := fun _ => fun
  | [d] => { results := [.lit (.bool false)], args := [d] }
  | _ => none }
def EscapeShortWrongFalsely : Prop := escapeShortRow.holds Tryd.pinned (OpenSpec.ofChange escapeShortWrong)

/-- 'truchmanlaw5.EscapeJoins': WHATEVER THE INPUT: true; the input reads as it did. -/
def escapeJoinsSpec : ChangeSpec := { name := "escapeJoins", fn := fun _ => fun
  | [d1, d2] => { results := [.lit (.bool true)], args := [d1, d2] }
  | _ => none }
def escapeJoinsRow : OpenClaim := { program := "ytnpbleaikdpjiaadoor", sum := "e28399af32497564682a4e4fdda5801f29df67a4eed24b83ab312fe30e613d64", func := "truchman/truchmanlaw5.EscapeJoins", spec := "escapeJoins", inPlace := ["internal/bytealg.IndexByteString", "internal/abi.NoEscape", "internal/bytealg.IndexString"], named := ["unicode/utf8.first", "unicode/utf8.acceptRanges", "internal/bytealg.MaxLen"], apart := false, laid := [("unicode/utf8.acceptRanges", laid_unicode_utf8_acceptRanges), ("unicode/utf8.first", laid_unicode_utf8_first)] }
def EscapeJoinsSaid : Prop := escapeJoinsRow.holds Tryd.pinned (OpenSpec.ofChange escapeJoinsSpec)

/-- ITS FALSE NEIGHBOUR: 'it returns false'. Refute it at one input. -/
def escapeJoinsWrong : ChangeSpec := { name := "escapeJoins", fn := fun _ => fun
  | [d1, d2] => { results := [.lit (.bool false)], args := [d1, d2] }
  | _ => none }
def EscapeJoinsWrongFalsely : Prop := escapeJoinsRow.holds Tryd.pinned (OpenSpec.ofChange escapeJoinsWrong)

/-- 'truchmanlaw5.EscapeOpens': WHATEVER THE INPUT: true; the input reads as it did. -/
def escapeOpensSpec : ChangeSpec := { name := "escapeOpens", fn := fun _ => fun
  | [d1, d2] => { results := [.lit (.bool true)], args := [d1, d2] }
  | _ => none }
def escapeOpensRow : OpenClaim := { program := "ytnpbleaikdpjiaadoor", sum := "e28399af32497564682a4e4fdda5801f29df67a4eed24b83ab312fe30e613d64", func := "truchman/truchmanlaw5.EscapeOpens", spec := "escapeOpens", inPlace := ["internal/bytealg.IndexByteString", "internal/abi.NoEscape", "internal/bytealg.IndexString"], named := ["unicode/utf8.first", "unicode/utf8.acceptRanges", "internal/bytealg.MaxLen"], apart := false, laid := [("unicode/utf8.acceptRanges", laid_unicode_utf8_acceptRanges), ("unicode/utf8.first", laid_unicode_utf8_first)] }
def EscapeOpensSaid : Prop := escapeOpensRow.holds Tryd.pinned (OpenSpec.ofChange escapeOpensSpec)

/-- ITS FALSE NEIGHBOUR: 'it returns false'. Refute it at one input. -/
def escapeOpensWrong : ChangeSpec := { name := "escapeOpens", fn := fun _ => fun
  | [d1, d2] => { results := [.lit (.bool false)], args := [d1, d2] }
  | _ => none }
def EscapeOpensWrongFalsely : Prop := escapeOpensRow.holds Tryd.pinned (OpenSpec.ofChange escapeOpensWrong)

/- THE SECOND FORM. 'bulk': how many values and letters a reading holds, each counted each time it is reached (what is shared counts as often as it is met; a slice's spare places count too). A statement '..UptoSaid' is the law's where the arguments, and the package variables that the reading takes, are together of bulk at most 1048576: NARROWER than '..Said'. Prove '..Said' where nothing that the law and all that it calls make is longer than what came in: it says more and counts as full. Else prove '..UptoSaid'. A law counts once. -/
mutual
def uptoBulk {H : Type} : DataW H → Nat
  | .lit (.string bytes) => bytes.length + 1
  | .lit _ => 1
  | .nil => 1
  | .ptr d => uptoBulk d + 1
  | .slice elems spare => uptoBulkAll elems + uptoBulkAll spare + 1
  | .agg parts => uptoBulkAll parts + 1
  | .iface _ d => uptoBulk d + 1
  | .map entries => uptoBulkEntries entries + 1
  | .held _ => 1
def uptoBulkAll {H : Type} : List (DataW H) → Nat
  | [] => 0
  | d :: r => uptoBulk d + uptoBulkAll r
def uptoBulkEntries {H : Type} : List (Lit × DataW H) → Nat
  | [] => 0
  | x :: r => uptoBulkEntry x + uptoBulkEntries r
def uptoBulkEntry {H : Type} : Lit × DataW H → Nat
  | (.string bytes, d) => bytes.length + uptoBulk d + 1
  | (_, d) => uptoBulk d + 1
 end
def uptoSmall : (H : Type) → List (DataW H) → Bool := fun _ ds => decide (uptoBulkAll ds ≤ 1048576)
def OpenSpec.upto (s : _root_.Go.ChangeSpec) : _root_.Go.OpenSpec := { _root_.Go.OpenSpec.ofChange s with cond := some uptoSmall }

/-- 'truchmanlaw5.EscapeTells', WHERE WHAT IT READS IS OF BULK AT MOST 1048576: true; the input reads as it did. -/
def escapeTellsUptoRow : OpenClaim := { program := "ytnpbleaikdpjiaadoor", sum := "e28399af32497564682a4e4fdda5801f29df67a4eed24b83ab312fe30e613d64", func := "truchman/truchmanlaw5.EscapeTells", spec := "escapeTells", inPlace := ["internal/bytealg.IndexByteString", "internal/abi.NoEscape", "internal/bytealg.IndexString"], named := ["unicode/utf8.first", "unicode/utf8.acceptRanges", "internal/bytealg.MaxLen"], apart := false, laid := [("unicode/utf8.acceptRanges", laid_unicode_utf8_acceptRanges), ("unicode/utf8.first", laid_unicode_utf8_first)], narrowed := true }
def EscapeTellsUptoSaid : Prop := escapeTellsUptoRow.holds Tryd.pinned (OpenSpec.upto escapeTellsSpec)

/-- 'truchmanlaw5.EscapeBack', WHERE WHAT IT READS IS OF BULK AT MOST 1048576: true; the input reads as it did. -/
def escapeBackUptoRow : OpenClaim := { program := "ytnpbleaikdpjiaadoor", sum := "e28399af32497564682a4e4fdda5801f29df67a4eed24b83ab312fe30e613d64", func := "truchman/truchmanlaw5.EscapeBack", spec := "escapeBack", inPlace := ["internal/bytealg.IndexByteString", "internal/abi.NoEscape", "internal/bytealg.IndexString"], named := ["unicode/utf8.first", "unicode/utf8.acceptRanges", "internal/bytealg.MaxLen"], apart := false, laid := [("unicode/utf8.acceptRanges", laid_unicode_utf8_acceptRanges), ("unicode/utf8.first", laid_unicode_utf8_first)], narrowed := true }
def EscapeBackUptoSaid : Prop := escapeBackUptoRow.holds Tryd.pinned (OpenSpec.upto escapeBackSpec)

/-- 'truchmanlaw5.EscapePairs', WHERE WHAT IT READS IS OF BULK AT MOST 1048576: true; the input reads as it did. -/
def escapePairsUptoRow : OpenClaim := { program := "ytnpbleaikdpjiaadoor", sum := "e28399af32497564682a4e4fdda5801f29df67a4eed24b83ab312fe30e613d64", func := "truchman/truchmanlaw5.EscapePairs", spec := "escapePairs", inPlace := ["internal/bytealg.IndexByteString", "internal/abi.NoEscape", "internal/bytealg.IndexString"], unfollowed := true, recurses := true, named := ["unicode/utf8.first", "unicode/utf8.acceptRanges", "internal/bytealg.MaxLen"], apart := false, laid := [("unicode/utf8.acceptRanges", laid_unicode_utf8_acceptRanges), ("unicode/utf8.first", laid_unicode_utf8_first)], narrowed := true }
def EscapePairsUptoSaid : Prop := escapePairsUptoRow.holds Tryd.pinned (OpenSpec.upto escapePairsSpec)

/-- 'truchmanlaw5.EscapeSigns', WHERE WHAT IT READS IS OF BULK AT MOST 1048576: true; the input reads as it did. -/
def escapeSignsUptoRow : OpenClaim := { program := "ytnpbleaikdpjiaadoor", sum := "e28399af32497564682a4e4fdda5801f29df67a4eed24b83ab312fe30e613d64", func := "truchman/truchmanlaw5.EscapeSigns", spec := "escapeSigns", inPlace := ["internal/bytealg.IndexByteString", "internal/abi.NoEscape", "internal/bytealg.IndexString"], named := ["unicode/utf8.first", "unicode/utf8.acceptRanges", "internal/bytealg.MaxLen"], apart := false, laid := [("unicode/utf8.acceptRanges", laid_unicode_utf8_acceptRanges), ("unicode/utf8.first", laid_unicode_utf8_first)], narrowed := true }
def EscapeSignsUptoSaid : Prop := escapeSignsUptoRow.holds Tryd.pinned (OpenSpec.upto escapeSignsSpec)

/-- 'truchmanlaw5.EscapeShort', WHERE WHAT IT READS IS OF BULK AT MOST 1048576: true; the input reads as it did. -/
def escapeShortUptoRow : OpenClaim := { program := "ytnpbleaikdpjiaadoor", sum := "e28399af32497564682a4e4fdda5801f29df67a4eed24b83ab312fe30e613d64", func := "truchman/truchmanlaw5.EscapeShort", spec := "escapeShort", inPlace := ["internal/bytealg.IndexByteString", "internal/abi.NoEscape", "internal/bytealg.IndexString"], named := ["unicode/utf8.first", "unicode/utf8.acceptRanges", "internal/bytealg.MaxLen"], apart := false, laid := [("unicode/utf8.acceptRanges", laid_unicode_utf8_acceptRanges), ("unicode/utf8.first", laid_unicode_utf8_first)], narrowed := true }
def EscapeShortUptoSaid : Prop := escapeShortUptoRow.holds Tryd.pinned (OpenSpec.upto escapeShortSpec)

/-- 'truchmanlaw5.EscapeJoins', WHERE WHAT IT READS IS OF BULK AT MOST 1048576: true; the input reads as it did. -/
def escapeJoinsUptoRow : OpenClaim := { program := "ytnpbleaikdpjiaadoor", sum := "e28399af32497564682a4e4fdda5801f29df67a4eed24b83ab312fe30e613d64", func := "truchman/truchmanlaw5.EscapeJoins", spec := "escapeJoins", inPlace := ["internal/bytealg.IndexByteString", "internal/abi.NoEscape", "internal/bytealg.IndexString"], named := ["unicode/utf8.first", "unicode/utf8.acceptRanges", "internal/bytealg.MaxLen"], apart := false, laid := [("unicode/utf8.acceptRanges", laid_unicode_utf8_acceptRanges), ("unicode/utf8.first", laid_unicode_utf8_first)], narrowed := true }
def EscapeJoinsUptoSaid : Prop := escapeJoinsUptoRow.holds Tryd.pinned (OpenSpec.upto escapeJoinsSpec)

/-- 'truchmanlaw5.EscapeOpens', WHERE WHAT IT READS IS OF BULK AT MOST 1048576: true; the input reads as it did. -/
def escapeOpensUptoRow : OpenClaim := { program := "ytnpbleaikdpjiaadoor", sum := "e28399af32497564682a4e4fdda5801f29df67a4eed24b83ab312fe30e613d64", func := "truchman/truchmanlaw5.EscapeOpens", spec := "escapeOpens", inPlace := ["internal/bytealg.IndexByteString", "internal/abi.NoEscape", "internal/bytealg.IndexString"], named := ["unicode/utf8.first", "unicode/utf8.acceptRanges", "internal/bytealg.MaxLen"], apart := false, laid := [("unicode/utf8.acceptRanges", laid_unicode_utf8_acceptRanges), ("unicode/utf8.first", laid_unicode_utf8_first)], narrowed := true }
def EscapeOpensUptoSaid : Prop := escapeOpensUptoRow.holds Tryd.pinned (OpenSpec.upto escapeOpensSpec)

end Rows
end Go.Proofs.YtnpbleaikdpjiaaDoor
