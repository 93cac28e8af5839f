/-
  No cell of these rows narrows 'for every input' (looked for: loops, veiled, ifaces, maps, wideKeys, modest, calm, conditions, laid).
  DERIVED. THE GIVEN ROWS OF THIS SEAT. 5 by the template 'for every input the law returns true; each argument reads behind the call as it read before'; 0 by the template 'total and deterministic' (their statements: YtpdkolhnahpncaaTotals.lean).
  GIVEN WITH THE SEED: the statements are not yours to turn. If you find one false, say at which input.
  Laid BY PROGRAM, IN A SANDBOX (cutbox-rows.mjs): the forced cells as the released guide's own fill.sh prints them over the translation a198b28c539928ce… (all of the seat's roots in one cut). By AI agents, Wed Nov 11 2026. No macro, syntax, notation, axiom, sorry.
-/
import Derived.Test.YtpdkolhnahpncaaChecked
import GoSem.Claim
import GoSem.ClaimJoined
import GoSem.ClaimMapViews
import Derived.JoinedTies
import Derived.KernelRfl
namespace Go.Proofs.Ytpdkolhnahpncaa
/- THE CELL 'sum', in the pinned program and in every row, IS THE sha256 OF THE DUMP (.gsa) THAT YtpdkolhnahpncaaProg.lean LOADS. Nothing in Lean hashes anything: it is a label: what it is worth is what the hold of that sum in a sandbox is worth. -/
noncomputable def Try.pinned : Pinned := { name := "ytpdkolhnahpncaa", sum := "a198b28c539928ceb3abe6e8f88c6eda66fc5e8fd002d2bcf4b90fec386cfd3c", checked := Try.checked }
namespace Rows
def none {H : Type} : Left H := { results := [], args := [] }

/-- 'truchmanlaw8.BaseTells': WHATEVER THE INPUT: true; the input reads as it did. -/
def baseTellsSpec : ChangeSpec := { name := "baseTells", fn := fun _ => fun
  | [d1, d2, d3] => { results := [.lit (.bool true)], args := [d1, d2, d3] }
  | _ => none }
def baseTellsRow : OpenClaim := { program := "ytpdkolhnahpncaa", sum := "a198b28c539928ceb3abe6e8f88c6eda66fc5e8fd002d2bcf4b90fec386cfd3c", func := "truchman/truchmanlaw8.BaseTells", spec := "baseTells", inPlace := ["internal/bytealg.IndexByteString", "internal/bytealg.IndexString", "internal/abi.NoEscape"], named := ["internal/bytealg.MaxLen"], apart := false }
def BaseTellsSaid : Prop := baseTellsRow.holds Try.pinned (OpenSpec.ofChange baseTellsSpec)

/-- ITS FALSE NEIGHBOUR: 'it returns false'. Refute it at one input. -/
def baseTellsWrong : ChangeSpec := { name := "baseTells", fn := fun _ => fun
  | [d1, d2, d3] => { results := [.lit (.bool false)], args := [d1, d2, d3] }
  | _ => none }
def BaseTellsWrongFalsely : Prop := baseTellsRow.holds Try.pinned (OpenSpec.ofChange baseTellsWrong)

/-- 'truchmanlaw8.BaseParts': WHATEVER THE INPUT: true; the input reads as it did. -/
def basePartsSpec : ChangeSpec := { name := "baseParts", fn := fun _ => fun
  | [d1, d2] => { results := [.lit (.bool true)], args := [d1, d2] }
  | _ => none }
def basePartsRow : OpenClaim := { program := "ytpdkolhnahpncaa", sum := "a198b28c539928ceb3abe6e8f88c6eda66fc5e8fd002d2bcf4b90fec386cfd3c", func := "truchman/truchmanlaw8.BaseParts", spec := "baseParts", inPlace := ["internal/bytealg.IndexByteString", "internal/bytealg.IndexString", "internal/abi.NoEscape"], named := ["internal/bytealg.MaxLen"], apart := false }
def BasePartsSaid : Prop := basePartsRow.holds Try.pinned (OpenSpec.ofChange basePartsSpec)

/-- ITS FALSE NEIGHBOUR: 'it returns false'. Refute it at one input. -/
def basePartsWrong : ChangeSpec := { name := "baseParts", fn := fun _ => fun
  | [d1, d2] => { results := [.lit (.bool false)], args := [d1, d2] }
  | _ => none }
def BasePartsWrongFalsely : Prop := basePartsRow.holds Try.pinned (OpenSpec.ofChange basePartsWrong)

/-- 'truchmanlaw8.BaseSigns': WHATEVER THE INPUT: true; the input reads as it did. -/
def baseSignsSpec : ChangeSpec := { name := "baseSigns", fn := fun _ => fun
  | [d] => { results := [.lit (.bool true)], args := [d] }
  | _ => none }
def baseSignsRow : OpenClaim := { program := "ytpdkolhnahpncaa", sum := "a198b28c539928ceb3abe6e8f88c6eda66fc5e8fd002d2bcf4b90fec386cfd3c", func := "truchman/truchmanlaw8.BaseSigns", spec := "baseSigns", inPlace := ["internal/bytealg.IndexByteString", "internal/bytealg.IndexString", "internal/abi.NoEscape"], named := ["internal/bytealg.MaxLen"], apart := false }
def BaseSignsSaid : Prop := baseSignsRow.holds Try.pinned (OpenSpec.ofChange baseSignsSpec)

/-- ITS FALSE NEIGHBOUR: 'it returns false'. Refute it at one input. -/
def baseSignsWrong : ChangeSpec := { name := "baseSigns", fn := fun _ => fun
  | [d] => { results := [.lit (.bool false)], args := [d] }
  | _ => none }
def BaseSignsWrongFalsely : Prop := baseSignsRow.holds Try.pinned (OpenSpec.ofChange baseSignsWrong)

/-- 'truchmanlaw8.BaseTurned': WHATEVER THE INPUT: true; the input reads as it did. -/
def baseTurnedSpec : ChangeSpec := { name := "baseTurned", fn := fun _ => fun
  | [d1, d2, d3] => { results := [.lit (.bool true)], args := [d1, d2, d3] }
  | _ => none }
def baseTurnedRow : OpenClaim := { program := "ytpdkolhnahpncaa", sum := "a198b28c539928ceb3abe6e8f88c6eda66fc5e8fd002d2bcf4b90fec386cfd3c", func := "truchman/truchmanlaw8.BaseTurned", spec := "baseTurned", inPlace := ["internal/bytealg.IndexByteString", "internal/bytealg.IndexString", "internal/abi.NoEscape"], named := ["internal/bytealg.MaxLen"], apart := false }
def BaseTurnedSaid : Prop := baseTurnedRow.holds Try.pinned (OpenSpec.ofChange baseTurnedSpec)

/-- ITS FALSE NEIGHBOUR: 'it returns false'. Refute it at one input. -/
def baseTurnedWrong : ChangeSpec := { name := "baseTurned", fn := fun _ => fun
  | [d1, d2, d3] => { results := [.lit (.bool false)], args := [d1, d2, d3] }
  | _ => none }
def BaseTurnedWrongFalsely : Prop := baseTurnedRow.holds Try.pinned (OpenSpec.ofChange baseTurnedWrong)

/-- 'truchmanlaw8.BaseLengths': WHATEVER THE INPUT: true; the input reads as it did. -/
def baseLengthsSpec : ChangeSpec := { name := "baseLengths", fn := fun _ => fun
  | [d] => { results := [.lit (.bool true)], args := [d] }
  | _ => none }
def baseLengthsRow : OpenClaim := { program := "ytpdkolhnahpncaa", sum := "a198b28c539928ceb3abe6e8f88c6eda66fc5e8fd002d2bcf4b90fec386cfd3c", func := "truchman/truchmanlaw8.BaseLengths", spec := "baseLengths", inPlace := ["internal/bytealg.IndexByteString", "internal/bytealg.IndexString", "internal/abi.NoEscape"], named := ["internal/bytealg.MaxLen"], apart := false }
def BaseLengthsSaid : Prop := baseLengthsRow.holds Try.pinned (OpenSpec.ofChange baseLengthsSpec)

/-- ITS FALSE NEIGHBOUR: 'it returns false'. Refute it at one input. -/
def baseLengthsWrong : ChangeSpec := { name := "baseLengths", fn := fun _ => fun
  | [d] => { results := [.lit (.bool false)], args := [d] }
  | _ => none }
def BaseLengthsWrongFalsely : Prop := baseLengthsRow.holds Try.pinned (OpenSpec.ofChange baseLengthsWrong)

/- THE SECOND FORM. 'bulk': how many values and letters a reading holds, each counted each time it is reached (what is shared counts as often as it is met; a slice's spare places count too). A statement '..UptoSaid' is the law's where the arguments, and the package variables that the reading takes, are together of bulk at most 1048576: NARROWER than '..Said'. Prove '..Said' where nothing that the law and all that it calls make is longer than what came in: it says more and counts as full. Else prove '..UptoSaid'. A law counts once. -/
mutual
def uptoBulk {H : Type} : DataW H → Nat
  | .lit (.string bytes) => bytes.length + 1
  | .lit _ => 1
  | .nil => 1
  | .ptr d => uptoBulk d + 1
  | .slice elems spare => uptoBulkAll elems + uptoBulkAll spare + 1
  | .agg parts => uptoBulkAll parts + 1
  | .iface _ d => uptoBulk d + 1
  | .map entries => uptoBulkEntries entries + 1
  | .held _ => 1
def uptoBulkAll {H : Type} : List (DataW H) → Nat
  | [] => 0
  | d :: r => uptoBulk d + uptoBulkAll r
def uptoBulkEntries {H : Type} : List (Lit × DataW H) → Nat
  | [] => 0
  | x :: r => uptoBulkEntry x + uptoBulkEntries r
def uptoBulkEntry {H : Type} : Lit × DataW H → Nat
  | (.string bytes, d) => bytes.length + uptoBulk d + 1
  | (_, d) => uptoBulk d + 1
 end
def uptoSmall : (H : Type) → List (DataW H) → Bool := fun _ ds => decide (uptoBulkAll ds ≤ 1048576)
def OpenSpec.upto (s : _root_.Go.ChangeSpec) : _root_.Go.OpenSpec := { _root_.Go.OpenSpec.ofChange s with cond := some uptoSmall }

/-- 'truchmanlaw8.BaseTells', WHERE WHAT IT READS IS OF BULK AT MOST 1048576: true; the input reads as it did. -/
def baseTellsUptoRow : OpenClaim := { program := "ytpdkolhnahpncaa", sum := "a198b28c539928ceb3abe6e8f88c6eda66fc5e8fd002d2bcf4b90fec386cfd3c", func := "truchman/truchmanlaw8.BaseTells", spec := "baseTells", inPlace := ["internal/bytealg.IndexByteString", "internal/bytealg.IndexString", "internal/abi.NoEscape"], named := ["internal/bytealg.MaxLen"], apart := false, narrowed := true }
def BaseTellsUptoSaid : Prop := baseTellsUptoRow.holds Try.pinned (OpenSpec.upto baseTellsSpec)

/-- 'truchmanlaw8.BaseParts', WHERE WHAT IT READS IS OF BULK AT MOST 1048576: true; the input reads as it did. -/
def basePartsUptoRow : OpenClaim := { program := "ytpdkolhnahpncaa", sum := "a198b28c539928ceb3abe6e8f88c6eda66fc5e8fd002d2bcf4b90fec386cfd3c", func := "truchman/truchmanlaw8.BaseParts", spec := "baseParts", inPlace := ["internal/bytealg.IndexByteString", "internal/bytealg.IndexString", "internal/abi.NoEscape"], named := ["internal/bytealg.MaxLen"], apart := false, narrowed := true }
def BasePartsUptoSaid : Prop := basePartsUptoRow.holds Try.pinned (OpenSpec.upto basePartsSpec)

/-- 'truchmanlaw8.BaseSigns', WHERE WHAT IT READS IS OF BULK AT MOST 1048576: true; the input reads as it did. -/
def baseSignsUptoRow : OpenClaim := { program := "ytpdkolhnahpncaa", sum := "a198b28c539928ceb3abe6e8f88c6eda66fc5e8fd002d2bcf4b90fec386cfd3c", func := "truchman/truchmanlaw8.BaseSigns", spec := "baseSigns", inPlace := ["internal/bytealg.IndexByteString", "internal/bytealg.IndexString", "internal/abi.NoEscape"], named := ["internal/bytealg.MaxLen"], apart := false, narrowed := true }
def BaseSignsUptoSaid : Prop := baseSignsUptoRow.holds Try.pinned (OpenSpec.upto baseSignsSpec)

/-- 'truchmanlaw8.BaseTurned', WHERE WHAT IT READS IS OF BULK AT MOST 1048576: true; the input reads as it did. -/
def baseTurnedUptoRow : OpenClaim := { program := "ytpdkolhnahpncaa", sum := "a198b28c539928ceb3abe6e8f88c6eda66fc5e8fd002d2bcf4b90fec386cfd3c", func := "truchman/truchmanlaw8.BaseTurned", spec := "baseTurned", inPlace := ["internal/bytealg.IndexByteString", "internal/bytealg.IndexString", "internal/abi.NoEscape"], named := ["internal/bytealg.MaxLen"], apart := false, narrowed := true }
def BaseTurnedUptoSaid : Prop := baseTurnedUptoRow.holds Try.pinned (OpenSpec.upto baseTurnedSpec)

/-- 'truchmanlaw8.BaseLengths', WHERE WHAT IT READS IS OF BULK AT MOST 1048576: true; the input reads as it did. -/
def baseLengthsUptoRow : OpenClaim := { program := "ytpdkolhnahpncaa", sum := "a198b28c539928ceb3abe6e8f88c6eda66fc5e8fd002d2bcf4b90fec386cfd3c", func := "truchman/truchmanlaw8.BaseLengths", spec := "baseLengths", inPlace := ["internal/bytealg.IndexByteString", "internal/bytealg.IndexString", "internal/abi.NoEscape"], named := ["internal/bytealg.MaxLen"], apart := false, narrowed := true }
def BaseLengthsUptoSaid : Prop := baseLengthsUptoRow.holds Try.pinned (OpenSpec.upto baseLengthsSpec)

end Rows
end Go.Proofs.Ytpdkolhnahpncaa
