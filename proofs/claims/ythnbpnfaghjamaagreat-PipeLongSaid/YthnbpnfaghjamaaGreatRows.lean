/-
  No cell of these rows narrows 'for every input' (looked for: loops, veiled, ifaces, maps, wideKeys, modest, calm, conditions, laid).
  DERIVED. THE GIVEN ROWS OF THIS SEAT. 14 by the template 'for every input the law returns true; each argument reads behind the call as it read before'; 0 by the template 'total and deterministic' (their statements: YthnbpnfaghjamaaGreatTotals.lean).
  GIVEN WITH THE SEED: the statements are not yours to turn. If you find one false, say at which input.
  Laid BY PROGRAM, IN A SANDBOX (cutbox-rows.mjs): the forced cells as the released guide's own fill.sh prints them over the translation 3e94f87b70ed12d1… (all of the seat's roots in one cut). By AI agents, Wed Nov 11 2026. No macro, syntax, notation, axiom, sorry.
-/
import Derived.Test.YthnbpnfaghjamaaGreatChecked
import GoSem.Claim
import GoSem.ClaimJoined
import GoSem.ClaimMapViews
import Derived.JoinedTies
import Derived.KernelRfl
namespace Go.Proofs.YthnbpnfaghjamaaGreat
/- THE CELL 'sum', in the pinned program and in every row, IS THE sha256 OF THE DUMP (.gsa) THAT YthnbpnfaghjamaaGreatProg.lean LOADS. Nothing in Lean hashes anything: it is a label: what it is worth is what the hold of that sum in a sandbox is worth. -/
noncomputable def Tryz.pinned : Pinned := { name := "ythnbpnfaghjamaagreat", sum := "3e94f87b70ed12d17b9e15bba8087afa93cdd6d21a948ed0707b8212bac69479", checked := Tryz.checked }
namespace Rows
def none {H : Type} : Left H := { results := [], args := [] }

/-- 'truchmanlaw18.PipePrefix': WHATEVER THE INPUT: true; the input reads as it did. -/
def pipePrefixSpec : ChangeSpec := { name := "pipePrefix", fn := fun _ => fun
  | [d1, d2, d3, d4] => { results := [.lit (.bool true)], args := [d1, d2, d3, d4] }
  | _ => none }
def pipePrefixRow : OpenClaim := { program := "ythnbpnfaghjamaagreat", sum := "3e94f87b70ed12d17b9e15bba8087afa93cdd6d21a948ed0707b8212bac69479", func := "truchman/truchmanlaw18.PipePrefix", spec := "pipePrefix", inPlace := ["internal/abi.NoEscape"], unfollowed := true, recurses := true, apart := false }
def PipePrefixSaid : Prop := pipePrefixRow.holds Tryz.pinned (OpenSpec.ofChange pipePrefixSpec)

/-- ITS FALSE NEIGHBOUR: 'it returns false'. Refute it at one input. -/
def pipePrefixWrong : ChangeSpec := { name := "pipePrefix", fn := fun _ => fun
  | [d1, d2, d3, d4] => { results := [.lit (.bool false)], args := [d1, d2, d3, d4] }
  | _ => none }
def PipePrefixWrongFalsely : Prop := pipePrefixRow.holds Tryz.pinned (OpenSpec.ofChange pipePrefixWrong)

/-- 'truchmanlaw18.PipeKinds': WHATEVER THE INPUT: true; the input reads as it did. -/
def pipeKindsSpec : ChangeSpec := { name := "pipeKinds", fn := fun _ => fun
  | [d1, d2] => { results := [.lit (.bool true)], args := [d1, d2] }
  | _ => none }
def pipeKindsRow : OpenClaim := { program := "ythnbpnfaghjamaagreat", sum := "3e94f87b70ed12d17b9e15bba8087afa93cdd6d21a948ed0707b8212bac69479", func := "truchman/truchmanlaw18.PipeKinds", spec := "pipeKinds", inPlace := ["internal/abi.NoEscape"], unfollowed := true, recurses := true, apart := false }
def PipeKindsSaid : Prop := pipeKindsRow.holds Tryz.pinned (OpenSpec.ofChange pipeKindsSpec)

/-- ITS FALSE NEIGHBOUR: 'it returns false'. Refute it at one input. -/
def pipeKindsWrong : ChangeSpec := { name := "pipeKinds", fn := fun _ => fun
  | [d1, d2] => { results := [.lit (.bool false)], args := [d1, d2] }
  | _ => none }
def PipeKindsWrongFalsely : Prop := pipeKindsRow.holds Tryz.pinned (OpenSpec.ofChange pipeKindsWrong)

/-- 'truchmanlaw18.PipeDeep': WHATEVER THE INPUT: true; the input reads as it did. -/
def pipeDeepSpec : ChangeSpec := { name := "pipeDeep", fn := fun _ => fun
  | [d1, d2, d3, d4] => { results := [.lit (.bool true)], args := [d1, d2, d3, d4] }
  | _ => none }
def pipeDeepRow : OpenClaim := { program := "ythnbpnfaghjamaagreat", sum := "3e94f87b70ed12d17b9e15bba8087afa93cdd6d21a948ed0707b8212bac69479", func := "truchman/truchmanlaw18.PipeDeep", spec := "pipeDeep", inPlace := ["internal/abi.NoEscape"], unfollowed := true, recurses := true, apart := false }
def PipeDeepSaid : Prop := pipeDeepRow.holds Tryz.pinned (OpenSpec.ofChange pipeDeepSpec)

/-- ITS FALSE NEIGHBOUR: 'it returns false'. Refute it at one input. -/
def pipeDeepWrong : ChangeSpec := { name := "pipeDeep", fn := fun _ => fun
  | [d1, d2, d3, d4] => { results := [.lit (.bool false)], args := [d1, d2, d3, d4] }
  | _ => none }
def PipeDeepWrongFalsely : Prop := pipeDeepRow.holds Tryz.pinned (OpenSpec.ofChange pipeDeepWrong)

/-- 'truchmanlaw18.PipeBlobs': WHATEVER THE INPUT: true; the input reads as it did. -/
def pipeBlobsSpec : ChangeSpec := { name := "pipeBlobs", fn := fun _ => fun
  | [d1, d2, d3] => { results := [.lit (.bool true)], args := [d1, d2, d3] }
  | _ => none }
def pipeBlobsRow : OpenClaim := { program := "ythnbpnfaghjamaagreat", sum := "3e94f87b70ed12d17b9e15bba8087afa93cdd6d21a948ed0707b8212bac69479", func := "truchman/truchmanlaw18.PipeBlobs", spec := "pipeBlobs", inPlace := ["internal/abi.NoEscape"], unfollowed := true, recurses := true, apart := false }
def PipeBlobsSaid : Prop := pipeBlobsRow.holds Tryz.pinned (OpenSpec.ofChange pipeBlobsSpec)

/-- ITS FALSE NEIGHBOUR: 'it returns false'. Refute it at one input. -/
def pipeBlobsWrong : ChangeSpec := { name := "pipeBlobs", fn := fun _ => fun
  | [d1, d2, d3] => { results := [.lit (.bool false)], args := [d1, d2, d3] }
  | _ => none }
def PipeBlobsWrongFalsely : Prop := pipeBlobsRow.holds Tryz.pinned (OpenSpec.ofChange pipeBlobsWrong)

/-- 'truchmanlaw18.PipeLong': WHATEVER THE INPUT: true; the input reads as it did. -/
def pipeLongSpec : ChangeSpec := { name := "pipeLong", fn := fun _ => fun
  | [d1, d2, d3] => { results := [.lit (.bool true)], args := [d1, d2, d3] }
  | _ => none }
def pipeLongRow : OpenClaim := { program := "ythnbpnfaghjamaagreat", sum := "3e94f87b70ed12d17b9e15bba8087afa93cdd6d21a948ed0707b8212bac69479", func := "truchman/truchmanlaw18.PipeLong", spec := "pipeLong", inPlace := ["internal/abi.NoEscape"], unfollowed := true, recurses := true, apart := false }
def PipeLongSaid : Prop := pipeLongRow.holds Tryz.pinned (OpenSpec.ofChange pipeLongSpec)

/-- ITS FALSE NEIGHBOUR: 'it returns false'. Refute it at one input. -/
def pipeLongWrong : ChangeSpec := { name := "pipeLong", fn := fun _ => fun
  | [d1, d2, d3] => { results := [.lit (.bool false)], args := [d1, d2, d3] }
  | _ => none }
def PipeLongWrongFalsely : Prop := pipeLongRow.holds Tryz.pinned (OpenSpec.ofChange pipeLongWrong)

/-- 'truchmanlaw18.PipeStages': WHATEVER THE INPUT: true; the input reads as it did. -/
def pipeStagesSpec : ChangeSpec := { name := "pipeStages", fn := fun _ => fun
  | [d1, d2] => { results := [.lit (.bool true)], args := [d1, d2] }
  | _ => none }
def pipeStagesRow : OpenClaim := { program := "ythnbpnfaghjamaagreat", sum := "3e94f87b70ed12d17b9e15bba8087afa93cdd6d21a948ed0707b8212bac69479", func := "truchman/truchmanlaw18.PipeStages", spec := "pipeStages", inPlace := ["internal/abi.NoEscape"], unfollowed := true, recurses := true, apart := false }
def PipeStagesSaid : Prop := pipeStagesRow.holds Tryz.pinned (OpenSpec.ofChange pipeStagesSpec)

/-- ITS FALSE NEIGHBOUR: 'it returns false'. Refute it at one input. -/
def pipeStagesWrong : ChangeSpec := { name := "pipeStages", fn := fun _ => fun
  | [d1, d2] => { results := [.lit (.bool false)], args := [d1, d2] }
  | _ => none }
def PipeStagesWrongFalsely : Prop := pipeStagesRow.holds Tryz.pinned (OpenSpec.ofChange pipeStagesWrong)

/-- 'truchmanlaw18.PipeOver': WHATEVER THE INPUT: true; the input reads as it did. -/
def pipeOverSpec : ChangeSpec := { name := "pipeOver", fn := fun _ => fun
  | [d1, d2, d3] => { results := [.lit (.bool true)], args := [d1, d2, d3] }
  | _ => none }
def pipeOverRow : OpenClaim := { program := "ythnbpnfaghjamaagreat", sum := "3e94f87b70ed12d17b9e15bba8087afa93cdd6d21a948ed0707b8212bac69479", func := "truchman/truchmanlaw18.PipeOver", spec := "pipeOver", inPlace := ["internal/abi.NoEscape"], unfollowed := true, recurses := true, apart := false }
def PipeOverSaid : Prop := pipeOverRow.holds Tryz.pinned (OpenSpec.ofChange pipeOverSpec)

/-- ITS FALSE NEIGHBOUR: 'it returns false'. Refute it at one input. -/
def pipeOverWrong : ChangeSpec := { name := "pipeOver", fn := fun _ => fun
  | [d1, d2, d3] => { results := [.lit (.bool false)], args := [d1, d2, d3] }
  | _ => none }
def PipeOverWrongFalsely : Prop := pipeOverRow.holds Tryz.pinned (OpenSpec.ofChange pipeOverWrong)

/-- 'truchmanlaw19.HelloBegins': WHATEVER THE INPUT: true; the input reads as it did. -/
def helloBeginsSpec : ChangeSpec := { name := "helloBegins", fn := fun _ => fun
  | [d1, d2, d3] => { results := [.lit (.bool true)], args := [d1, d2, d3] }
  | _ => none }
def helloBeginsRow : OpenClaim := { program := "ythnbpnfaghjamaagreat", sum := "3e94f87b70ed12d17b9e15bba8087afa93cdd6d21a948ed0707b8212bac69479", func := "truchman/truchmanlaw19.HelloBegins", spec := "helloBegins", inPlace := ["internal/abi.NoEscape"], unfollowed := true, recurses := true, apart := false }
def HelloBeginsSaid : Prop := helloBeginsRow.holds Tryz.pinned (OpenSpec.ofChange helloBeginsSpec)

/-- ITS FALSE NEIGHBOUR: 'it returns false'. Refute it at one input. -/
def helloBeginsWrong : ChangeSpec := { name := "helloBegins", fn := fun _ => fun
  | [d1, d2, d3] => { results := [.lit (.bool false)], args := [d1, d2, d3] }
  | _ => none }
def HelloBeginsWrongFalsely : Prop := helloBeginsRow.holds Tryz.pinned (OpenSpec.ofChange helloBeginsWrong)

/-- 'truchmanlaw19.HelloBatches': WHATEVER THE INPUT: true; the input reads as it did. -/
def helloBatchesSpec : ChangeSpec := { name := "helloBatches", fn := fun _ => fun
  | [d1, d2] => { results := [.lit (.bool true)], args := [d1, d2] }
  | _ => none }
def helloBatchesRow : OpenClaim := { program := "ythnbpnfaghjamaagreat", sum := "3e94f87b70ed12d17b9e15bba8087afa93cdd6d21a948ed0707b8212bac69479", func := "truchman/truchmanlaw19.HelloBatches", spec := "helloBatches", inPlace := ["internal/abi.NoEscape"], unfollowed := true, recurses := true, apart := false }
def HelloBatchesSaid : Prop := helloBatchesRow.holds Tryz.pinned (OpenSpec.ofChange helloBatchesSpec)

/-- ITS FALSE NEIGHBOUR: 'it returns false'. Refute it at one input. -/
def helloBatchesWrong : ChangeSpec := { name := "helloBatches", fn := fun _ => fun
  | [d1, d2] => { results := [.lit (.bool false)], args := [d1, d2] }
  | _ => none }
def HelloBatchesWrongFalsely : Prop := helloBatchesRow.holds Tryz.pinned (OpenSpec.ofChange helloBatchesWrong)

/-- 'truchmanlaw19.HelloWords': WHATEVER THE INPUT: true; the input reads as it did. -/
def helloWordsSpec : ChangeSpec := { name := "helloWords", fn := fun _ => fun
  | [d] => { results := [.lit (.bool true)], args := [d] }
  | _ => none }
def helloWordsRow : OpenClaim := { program := "ythnbpnfaghjamaagreat", sum := "3e94f87b70ed12d17b9e15bba8087afa93cdd6d21a948ed0707b8212bac69479", func := "truchman/truchmanlaw19.HelloWords", spec := "helloWords", inPlace := ["internal/abi.NoEscape"], unfollowed := true, recurses := true, apart := false }
def HelloWordsSaid : Prop := helloWordsRow.holds Tryz.pinned (OpenSpec.ofChange helloWordsSpec)

/-- ITS FALSE NEIGHBOUR: 'it returns false'. Refute it at one input. -/
def helloWordsWrong : ChangeSpec := { name := "helloWords", fn := fun _ => fun
  | [d] => { results := [.lit (.bool false)], args := [d] }
  | _ => none }
def HelloWordsWrongFalsely : Prop := helloWordsRow.holds Tryz.pinned (OpenSpec.ofChange helloWordsWrong)

/-- 'truchmanlaw19.HelloSetups': WHATEVER THE INPUT: true; the input reads as it did. -/
def helloSetupsSpec : ChangeSpec := { name := "helloSetups", fn := fun _ => fun
  | [d1, d2] => { results := [.lit (.bool true)], args := [d1, d2] }
  | _ => none }
def helloSetupsRow : OpenClaim := { program := "ythnbpnfaghjamaagreat", sum := "3e94f87b70ed12d17b9e15bba8087afa93cdd6d21a948ed0707b8212bac69479", func := "truchman/truchmanlaw19.HelloSetups", spec := "helloSetups", inPlace := ["internal/abi.NoEscape"], unfollowed := true, recurses := true, apart := false }
def HelloSetupsSaid : Prop := helloSetupsRow.holds Tryz.pinned (OpenSpec.ofChange helloSetupsSpec)

/-- ITS FALSE NEIGHBOUR: 'it returns false'. Refute it at one input. -/
def helloSetupsWrong : ChangeSpec := { name := "helloSetups", fn := fun _ => fun
  | [d1, d2] => { results := [.lit (.bool false)], args := [d1, d2] }
  | _ => none }
def HelloSetupsWrongFalsely : Prop := helloSetupsRow.holds Tryz.pinned (OpenSpec.ofChange helloSetupsWrong)

/-- 'truchmanlaw19.HelloOnly': WHATEVER THE INPUT: true; the input reads as it did. -/
def helloOnlySpec : ChangeSpec := { name := "helloOnly", fn := fun _ => fun
  | [d1, d2] => { results := [.lit (.bool true)], args := [d1, d2] }
  | _ => none }
def helloOnlyRow : OpenClaim := { program := "ythnbpnfaghjamaagreat", sum := "3e94f87b70ed12d17b9e15bba8087afa93cdd6d21a948ed0707b8212bac69479", func := "truchman/truchmanlaw19.HelloOnly", spec := "helloOnly", inPlace := ["internal/abi.NoEscape"], unfollowed := true, recurses := true, apart := false }
def HelloOnlySaid : Prop := helloOnlyRow.holds Tryz.pinned (OpenSpec.ofChange helloOnlySpec)

/-- ITS FALSE NEIGHBOUR: 'it returns false'. Refute it at one input. -/
def helloOnlyWrong : ChangeSpec := { name := "helloOnly", fn := fun _ => fun
  | [d1, d2] => { results := [.lit (.bool false)], args := [d1, d2] }
  | _ => none }
def HelloOnlyWrongFalsely : Prop := helloOnlyRow.holds Tryz.pinned (OpenSpec.ofChange helloOnlyWrong)

/-- 'truchmanlaw19.HelloShort': WHATEVER THE INPUT: true; the input reads as it did. -/
def helloShortSpec : ChangeSpec := { name := "helloShort", fn := fun _ => fun
  | [d1, d2, d3] => { results := [.lit (.bool true)], args := [d1, d2, d3] }
  | _ => none }
def helloShortRow : OpenClaim := { program := "ythnbpnfaghjamaagreat", sum := "3e94f87b70ed12d17b9e15bba8087afa93cdd6d21a948ed0707b8212bac69479", func := "truchman/truchmanlaw19.HelloShort", spec := "helloShort", inPlace := ["internal/abi.NoEscape"], unfollowed := true, recurses := true, apart := false }
def HelloShortSaid : Prop := helloShortRow.holds Tryz.pinned (OpenSpec.ofChange helloShortSpec)

/-- ITS FALSE NEIGHBOUR: 'it returns false'. Refute it at one input. -/
def helloShortWrong : ChangeSpec := { name := "helloShort", fn := fun _ => fun
  | [d1, d2, d3] => { results := [.lit (.bool false)], args := [d1, d2, d3] }
  | _ => none }
def HelloShortWrongFalsely : Prop := helloShortRow.holds Tryz.pinned (OpenSpec.ofChange helloShortWrong)

/-- 'truchmanlaw18.PipeHolds': WHATEVER THE INPUT: true; the input reads as it did. -/
def pipeHoldsSpec : ChangeSpec := { name := "pipeHolds", fn := fun _ => fun
  | [d1, d2] => { results := [.lit (.bool true)], args := [d1, d2] }
  | _ => none }
def pipeHoldsRow : OpenClaim := { program := "ythnbpnfaghjamaagreat", sum := "3e94f87b70ed12d17b9e15bba8087afa93cdd6d21a948ed0707b8212bac69479", func := "truchman/truchmanlaw18.PipeHolds", spec := "pipeHolds", inPlace := ["internal/abi.NoEscape"], unfollowed := true, recurses := true, apart := false }
def PipeHoldsSaid : Prop := pipeHoldsRow.holds Tryz.pinned (OpenSpec.ofChange pipeHoldsSpec)

/-- ITS FALSE NEIGHBOUR: 'it returns false'. Refute it at one input. -/
def pipeHoldsWrong : ChangeSpec := { name := "pipeHolds", fn := fun _ => fun
  | [d1, d2] => { results := [.lit (.bool false)], args := [d1, d2] }
  | _ => none }
def PipeHoldsWrongFalsely : Prop := pipeHoldsRow.holds Tryz.pinned (OpenSpec.ofChange pipeHoldsWrong)

/- THE SECOND FORM. 'bulk': how many values and letters a reading holds, each counted each time it is reached (what is shared counts as often as it is met; a slice's spare places count too). A statement '..UptoSaid' is the law's where the arguments, and the package variables that the reading takes, are together of bulk at most 1048576: NARROWER than '..Said'. Prove '..Said' where nothing that the law and all that it calls make is longer than what came in: it says more and counts as full. Else prove '..UptoSaid'. A law counts once. -/
mutual
def uptoBulk {H : Type} : DataW H → Nat
  | .lit (.string bytes) => bytes.length + 1
  | .lit _ => 1
  | .nil => 1
  | .ptr d => uptoBulk d + 1
  | .slice elems spare => uptoBulkAll elems + uptoBulkAll spare + 1
  | .agg parts => uptoBulkAll parts + 1
  | .iface _ d => uptoBulk d + 1
  | .map entries => uptoBulkEntries entries + 1
  | .held _ => 1
def uptoBulkAll {H : Type} : List (DataW H) → Nat
  | [] => 0
  | d :: r => uptoBulk d + uptoBulkAll r
def uptoBulkEntries {H : Type} : List (Lit × DataW H) → Nat
  | [] => 0
  | x :: r => uptoBulkEntry x + uptoBulkEntries r
def uptoBulkEntry {H : Type} : Lit × DataW H → Nat
  | (.string bytes, d) => bytes.length + uptoBulk d + 1
  | (_, d) => uptoBulk d + 1
 end
def uptoSmall : (H : Type) → List (DataW H) → Bool := fun _ ds => decide (uptoBulkAll ds ≤ 1048576)
def OpenSpec.upto (s : _root_.Go.ChangeSpec) : _root_.Go.OpenSpec := { _root_.Go.OpenSpec.ofChange s with cond := some uptoSmall }

/-- 'truchmanlaw18.PipePrefix', WHERE WHAT IT READS IS OF BULK AT MOST 1048576: true; the input reads as it did. -/
def pipePrefixUptoRow : OpenClaim := { program := "ythnbpnfaghjamaagreat", sum := "3e94f87b70ed12d17b9e15bba8087afa93cdd6d21a948ed0707b8212bac69479", func := "truchman/truchmanlaw18.PipePrefix", spec := "pipePrefix", inPlace := ["internal/abi.NoEscape"], unfollowed := true, recurses := true, apart := false, narrowed := true }
def PipePrefixUptoSaid : Prop := pipePrefixUptoRow.holds Tryz.pinned (OpenSpec.upto pipePrefixSpec)

/-- 'truchmanlaw18.PipeKinds', WHERE WHAT IT READS IS OF BULK AT MOST 1048576: true; the input reads as it did. -/
def pipeKindsUptoRow : OpenClaim := { program := "ythnbpnfaghjamaagreat", sum := "3e94f87b70ed12d17b9e15bba8087afa93cdd6d21a948ed0707b8212bac69479", func := "truchman/truchmanlaw18.PipeKinds", spec := "pipeKinds", inPlace := ["internal/abi.NoEscape"], unfollowed := true, recurses := true, apart := false, narrowed := true }
def PipeKindsUptoSaid : Prop := pipeKindsUptoRow.holds Tryz.pinned (OpenSpec.upto pipeKindsSpec)

/-- 'truchmanlaw18.PipeDeep', WHERE WHAT IT READS IS OF BULK AT MOST 1048576: true; the input reads as it did. -/
def pipeDeepUptoRow : OpenClaim := { program := "ythnbpnfaghjamaagreat", sum := "3e94f87b70ed12d17b9e15bba8087afa93cdd6d21a948ed0707b8212bac69479", func := "truchman/truchmanlaw18.PipeDeep", spec := "pipeDeep", inPlace := ["internal/abi.NoEscape"], unfollowed := true, recurses := true, apart := false, narrowed := true }
def PipeDeepUptoSaid : Prop := pipeDeepUptoRow.holds Tryz.pinned (OpenSpec.upto pipeDeepSpec)

/-- 'truchmanlaw18.PipeBlobs', WHERE WHAT IT READS IS OF BULK AT MOST 1048576: true; the input reads as it did. -/
def pipeBlobsUptoRow : OpenClaim := { program := "ythnbpnfaghjamaagreat", sum := "3e94f87b70ed12d17b9e15bba8087afa93cdd6d21a948ed0707b8212bac69479", func := "truchman/truchmanlaw18.PipeBlobs", spec := "pipeBlobs", inPlace := ["internal/abi.NoEscape"], unfollowed := true, recurses := true, apart := false, narrowed := true }
def PipeBlobsUptoSaid : Prop := pipeBlobsUptoRow.holds Tryz.pinned (OpenSpec.upto pipeBlobsSpec)

/-- 'truchmanlaw18.PipeLong', WHERE WHAT IT READS IS OF BULK AT MOST 1048576: true; the input reads as it did. -/
def pipeLongUptoRow : OpenClaim := { program := "ythnbpnfaghjamaagreat", sum := "3e94f87b70ed12d17b9e15bba8087afa93cdd6d21a948ed0707b8212bac69479", func := "truchman/truchmanlaw18.PipeLong", spec := "pipeLong", inPlace := ["internal/abi.NoEscape"], unfollowed := true, recurses := true, apart := false, narrowed := true }
def PipeLongUptoSaid : Prop := pipeLongUptoRow.holds Tryz.pinned (OpenSpec.upto pipeLongSpec)

/-- 'truchmanlaw18.PipeStages', WHERE WHAT IT READS IS OF BULK AT MOST 1048576: true; the input reads as it did. -/
def pipeStagesUptoRow : OpenClaim := { program := "ythnbpnfaghjamaagreat", sum := "3e94f87b70ed12d17b9e15bba8087afa93cdd6d21a948ed0707b8212bac69479", func := "truchman/truchmanlaw18.PipeStages", spec := "pipeStages", inPlace := ["internal/abi.NoEscape"], unfollowed := true, recurses := true, apart := false, narrowed := true }
def PipeStagesUptoSaid : Prop := pipeStagesUptoRow.holds Tryz.pinned (OpenSpec.upto pipeStagesSpec)

/-- 'truchmanlaw18.PipeOver', WHERE WHAT IT READS IS OF BULK AT MOST 1048576: true; the input reads as it did. -/
def pipeOverUptoRow : OpenClaim := { program := "ythnbpnfaghjamaagreat", sum := "3e94f87b70ed12d17b9e15bba8087afa93cdd6d21a948ed0707b8212bac69479", func := "truchman/truchmanlaw18.PipeOver", spec := "pipeOver", inPlace := ["internal/abi.NoEscape"], unfollowed := true, recurses := true, apart := false, narrowed := true }
def PipeOverUptoSaid : Prop := pipeOverUptoRow.holds Tryz.pinned (OpenSpec.upto pipeOverSpec)

/-- 'truchmanlaw19.HelloBegins', WHERE WHAT IT READS IS OF BULK AT MOST 1048576: true; the input reads as it did. -/
def helloBeginsUptoRow : OpenClaim := { program := "ythnbpnfaghjamaagreat", sum := "3e94f87b70ed12d17b9e15bba8087afa93cdd6d21a948ed0707b8212bac69479", func := "truchman/truchmanlaw19.HelloBegins", spec := "helloBegins", inPlace := ["internal/abi.NoEscape"], unfollowed := true, recurses := true, apart := false, narrowed := true }
def HelloBeginsUptoSaid : Prop := helloBeginsUptoRow.holds Tryz.pinned (OpenSpec.upto helloBeginsSpec)

/-- 'truchmanlaw19.HelloBatches', WHERE WHAT IT READS IS OF BULK AT MOST 1048576: true; the input reads as it did. -/
def helloBatchesUptoRow : OpenClaim := { program := "ythnbpnfaghjamaagreat", sum := "3e94f87b70ed12d17b9e15bba8087afa93cdd6d21a948ed0707b8212bac69479", func := "truchman/truchmanlaw19.HelloBatches", spec := "helloBatches", inPlace := ["internal/abi.NoEscape"], unfollowed := true, recurses := true, apart := false, narrowed := true }
def HelloBatchesUptoSaid : Prop := helloBatchesUptoRow.holds Tryz.pinned (OpenSpec.upto helloBatchesSpec)

/-- 'truchmanlaw19.HelloWords', WHERE WHAT IT READS IS OF BULK AT MOST 1048576: true; the input reads as it did. -/
def helloWordsUptoRow : OpenClaim := { program := "ythnbpnfaghjamaagreat", sum := "3e94f87b70ed12d17b9e15bba8087afa93cdd6d21a948ed0707b8212bac69479", func := "truchman/truchmanlaw19.HelloWords", spec := "helloWords", inPlace := ["internal/abi.NoEscape"], unfollowed := true, recurses := true, apart := false, narrowed := true }
def HelloWordsUptoSaid : Prop := helloWordsUptoRow.holds Tryz.pinned (OpenSpec.upto helloWordsSpec)

/-- 'truchmanlaw19.HelloSetups', WHERE WHAT IT READS IS OF BULK AT MOST 1048576: true; the input reads as it did. -/
def helloSetupsUptoRow : OpenClaim := { program := "ythnbpnfaghjamaagreat", sum := "3e94f87b70ed12d17b9e15bba8087afa93cdd6d21a948ed0707b8212bac69479", func := "truchman/truchmanlaw19.HelloSetups", spec := "helloSetups", inPlace := ["internal/abi.NoEscape"], unfollowed := true, recurses := true, apart := false, narrowed := true }
def HelloSetupsUptoSaid : Prop := helloSetupsUptoRow.holds Tryz.pinned (OpenSpec.upto helloSetupsSpec)

/-- 'truchmanlaw19.HelloOnly', WHERE WHAT IT READS IS OF BULK AT MOST 1048576: true; the input reads as it did. -/
def helloOnlyUptoRow : OpenClaim := { program := "ythnbpnfaghjamaagreat", sum := "3e94f87b70ed12d17b9e15bba8087afa93cdd6d21a948ed0707b8212bac69479", func := "truchman/truchmanlaw19.HelloOnly", spec := "helloOnly", inPlace := ["internal/abi.NoEscape"], unfollowed := true, recurses := true, apart := false, narrowed := true }
def HelloOnlyUptoSaid : Prop := helloOnlyUptoRow.holds Tryz.pinned (OpenSpec.upto helloOnlySpec)

/-- 'truchmanlaw19.HelloShort', WHERE WHAT IT READS IS OF BULK AT MOST 1048576: true; the input reads as it did. -/
def helloShortUptoRow : OpenClaim := { program := "ythnbpnfaghjamaagreat", sum := "3e94f87b70ed12d17b9e15bba8087afa93cdd6d21a948ed0707b8212bac69479", func := "truchman/truchmanlaw19.HelloShort", spec := "helloShort", inPlace := ["internal/abi.NoEscape"], unfollowed := true, recurses := true, apart := false, narrowed := true }
def HelloShortUptoSaid : Prop := helloShortUptoRow.holds Tryz.pinned (OpenSpec.upto helloShortSpec)

/-- 'truchmanlaw18.PipeHolds', WHERE WHAT IT READS IS OF BULK AT MOST 1048576: true; the input reads as it did. -/
def pipeHoldsUptoRow : OpenClaim := { program := "ythnbpnfaghjamaagreat", sum := "3e94f87b70ed12d17b9e15bba8087afa93cdd6d21a948ed0707b8212bac69479", func := "truchman/truchmanlaw18.PipeHolds", spec := "pipeHolds", inPlace := ["internal/abi.NoEscape"], unfollowed := true, recurses := true, apart := false, narrowed := true }
def PipeHoldsUptoSaid : Prop := pipeHoldsUptoRow.holds Tryz.pinned (OpenSpec.upto pipeHoldsSpec)

end Rows
end Go.Proofs.YthnbpnfaghjamaaGreat
