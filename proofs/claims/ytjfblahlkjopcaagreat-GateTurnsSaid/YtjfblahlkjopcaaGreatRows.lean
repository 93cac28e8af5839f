/-
  No cell of these rows narrows 'for every input' (looked for: loops, veiled, ifaces, maps, wideKeys, modest, calm, conditions, laid).
  DERIVED. THE GIVEN ROWS OF THIS SEAT. 5 by the template 'for every input the law returns true; each argument reads behind the call as it read before'; 0 by the template 'total and deterministic' (their statements: YtjfblahlkjopcaaGreatTotals.lean).
  GIVEN WITH THE SEED: the statements are not yours to turn. If you find one false, say at which input.
  Laid BY PROGRAM, IN A SANDBOX (cutbox-rows.mjs): the forced cells as the released guide's own fill.sh prints them over the translation a84537c93ab78fbe… (all of the seat's roots in one cut). By AI agents, Wed Nov 11 2026. No macro, syntax, notation, axiom, sorry.
-/
import Derived.Test.YtjfblahlkjopcaaGreatChecked
import GoSem.Claim
import GoSem.ClaimJoined
import GoSem.ClaimMapViews
import Derived.JoinedTies
import Derived.KernelRfl
namespace Go.Proofs.YtjfblahlkjopcaaGreat
/- THE CELL 'sum', in the pinned program and in every row, IS THE sha256 OF THE DUMP (.gsa) THAT YtjfblahlkjopcaaGreatProg.lean LOADS. Nothing in Lean hashes anything: it is a label: what it is worth is what the hold of that sum in a sandbox is worth. -/
noncomputable def Tryz.pinned : Pinned := { name := "ytjfblahlkjopcaagreat", sum := "a84537c93ab78fbed2e6c1b7b361cee47ce23e199f0b28b6a3064df3d7bdcea9", checked := Tryz.checked }
namespace Rows
def none {H : Type} : Left H := { results := [], args := [] }

/-- 'truchmanlaw24.GateTurns': WHATEVER THE INPUT: true; the input reads as it did. -/
def gateTurnsSpec : ChangeSpec := { name := "gateTurns", fn := fun _ => fun
  | [d1, d2] => { results := [.lit (.bool true)], args := [d1, d2] }
  | _ => none }
def gateTurnsRow : OpenClaim := { program := "ytjfblahlkjopcaagreat", sum := "a84537c93ab78fbed2e6c1b7b361cee47ce23e199f0b28b6a3064df3d7bdcea9", func := "truchman/truchmanlaw24.GateTurns", spec := "gateTurns", inPlace := ["internal/abi.NoEscape"], unfollowed := true, recurses := true, apart := false }
def GateTurnsSaid : Prop := gateTurnsRow.holds Tryz.pinned (OpenSpec.ofChange gateTurnsSpec)

/-- ITS FALSE NEIGHBOUR: 'it returns false'. Refute it at one input. -/
def gateTurnsWrong : ChangeSpec := { name := "gateTurns", fn := fun _ => fun
  | [d1, d2] => { results := [.lit (.bool false)], args := [d1, d2] }
  | _ => none }
def GateTurnsWrongFalsely : Prop := gateTurnsRow.holds Tryz.pinned (OpenSpec.ofChange gateTurnsWrong)

/-- 'truchmanlaw24.GateRuns': WHATEVER THE INPUT: true; the input reads as it did. -/
def gateRunsSpec : ChangeSpec := { name := "gateRuns", fn := fun _ => fun
  | [d1, d2] => { results := [.lit (.bool true)], args := [d1, d2] }
  | _ => none }
def gateRunsRow : OpenClaim := { program := "ytjfblahlkjopcaagreat", sum := "a84537c93ab78fbed2e6c1b7b361cee47ce23e199f0b28b6a3064df3d7bdcea9", func := "truchman/truchmanlaw24.GateRuns", spec := "gateRuns", inPlace := ["internal/abi.NoEscape"], unfollowed := true, recurses := true, apart := false }
def GateRunsSaid : Prop := gateRunsRow.holds Tryz.pinned (OpenSpec.ofChange gateRunsSpec)

/-- ITS FALSE NEIGHBOUR: 'it returns false'. Refute it at one input. -/
def gateRunsWrong : ChangeSpec := { name := "gateRuns", fn := fun _ => fun
  | [d1, d2] => { results := [.lit (.bool false)], args := [d1, d2] }
  | _ => none }
def GateRunsWrongFalsely : Prop := gateRunsRow.holds Tryz.pinned (OpenSpec.ofChange gateRunsWrong)

/-- 'truchmanlaw24.GateReturns': WHATEVER THE INPUT: true; the input reads as it did. -/
def gateReturnsSpec : ChangeSpec := { name := "gateReturns", fn := fun _ => fun
  | [d1, d2] => { results := [.lit (.bool true)], args := [d1, d2] }
  | _ => none }
def gateReturnsRow : OpenClaim := { program := "ytjfblahlkjopcaagreat", sum := "a84537c93ab78fbed2e6c1b7b361cee47ce23e199f0b28b6a3064df3d7bdcea9", func := "truchman/truchmanlaw24.GateReturns", spec := "gateReturns", inPlace := ["internal/abi.NoEscape"], unfollowed := true, recurses := true, apart := false }
def GateReturnsSaid : Prop := gateReturnsRow.holds Tryz.pinned (OpenSpec.ofChange gateReturnsSpec)

/-- ITS FALSE NEIGHBOUR: 'it returns false'. Refute it at one input. -/
def gateReturnsWrong : ChangeSpec := { name := "gateReturns", fn := fun _ => fun
  | [d1, d2] => { results := [.lit (.bool false)], args := [d1, d2] }
  | _ => none }
def GateReturnsWrongFalsely : Prop := gateReturnsRow.holds Tryz.pinned (OpenSpec.ofChange gateReturnsWrong)

/-- 'truchmanlaw24.GateAlone': WHATEVER THE INPUT: true; the input reads as it did. -/
def gateAloneSpec : ChangeSpec := { name := "gateAlone", fn := fun _ => fun
  | [d] => { results := [.lit (.bool true)], args := [d] }
  | _ => none }
def gateAloneRow : OpenClaim := { program := "ytjfblahlkjopcaagreat", sum := "a84537c93ab78fbed2e6c1b7b361cee47ce23e199f0b28b6a3064df3d7bdcea9", func := "truchman/truchmanlaw24.GateAlone", spec := "gateAlone", inPlace := ["internal/abi.NoEscape"], unfollowed := true, recurses := true, apart := false }
def GateAloneSaid : Prop := gateAloneRow.holds Tryz.pinned (OpenSpec.ofChange gateAloneSpec)

/-- ITS FALSE NEIGHBOUR: 'it returns false'. Refute it at one input. -/
def gateAloneWrong : ChangeSpec := { name := "gateAlone", fn := fun _ => fun
  | [d] => { results := [.lit (.bool false)], args := [d] }
  | _ => none }
def GateAloneWrongFalsely : Prop := gateAloneRow.holds Tryz.pinned (OpenSpec.ofChange gateAloneWrong)

/-- 'truchmanlaw24.GateTimes': WHATEVER THE INPUT: true; the input reads as it did. -/
def gateTimesSpec : ChangeSpec := { name := "gateTimes", fn := fun _ => fun
  | [d1, d2, d3] => { results := [.lit (.bool true)], args := [d1, d2, d3] }
  | _ => none }
def gateTimesRow : OpenClaim := { program := "ytjfblahlkjopcaagreat", sum := "a84537c93ab78fbed2e6c1b7b361cee47ce23e199f0b28b6a3064df3d7bdcea9", func := "truchman/truchmanlaw24.GateTimes", spec := "gateTimes", inPlace := ["internal/abi.NoEscape"], unfollowed := true, recurses := true, apart := false }
def GateTimesSaid : Prop := gateTimesRow.holds Tryz.pinned (OpenSpec.ofChange gateTimesSpec)

/-- ITS FALSE NEIGHBOUR: 'it returns false'. Refute it at one input. -/
def gateTimesWrong : ChangeSpec := { name := "gateTimes", fn := fun _ => fun
  | [d1, d2, d3] => { results := [.lit (.bool false)], args := [d1, d2, d3] }
  | _ => none }
def GateTimesWrongFalsely : Prop := gateTimesRow.holds Tryz.pinned (OpenSpec.ofChange gateTimesWrong)

/- THE SECOND FORM. 'bulk': how many values and letters a reading holds, each counted each time it is reached (what is shared counts as often as it is met; a slice's spare places count too). A statement '..UptoSaid' is the law's where the arguments, and the package variables that the reading takes, are together of bulk at most 1048576: NARROWER than '..Said'. Prove '..Said' where nothing that the law and all that it calls make is longer than what came in: it says more and counts as full. Else prove '..UptoSaid'. A law counts once. -/
mutual
def uptoBulk {H : Type} : DataW H → Nat
  | .lit (.string bytes) => bytes.length + 1
  | .lit _ => 1
  | .nil => 1
  | .ptr d => uptoBulk d + 1
  | .slice elems spare => uptoBulkAll elems + uptoBulkAll spare + 1
  | .agg parts => uptoBulkAll parts + 1
  | .iface _ d => uptoBulk d + 1
  | .map entries => uptoBulkEntries entries + 1
  | .held _ => 1
def uptoBulkAll {H : Type} : List (DataW H) → Nat
  | [] => 0
  | d :: r => uptoBulk d + uptoBulkAll r
def uptoBulkEntries {H : Type} : List (Lit × DataW H) → Nat
  | [] => 0
  | x :: r => uptoBulkEntry x + uptoBulkEntries r
def uptoBulkEntry {H : Type} : Lit × DataW H → Nat
  | (.string bytes, d) => bytes.length + uptoBulk d + 1
  | (_, d) => uptoBulk d + 1
 end
def uptoSmall : (H : Type) → List (DataW H) → Bool := fun _ ds => decide (uptoBulkAll ds ≤ 1048576)
def OpenSpec.upto (s : _root_.Go.ChangeSpec) : _root_.Go.OpenSpec := { _root_.Go.OpenSpec.ofChange s with cond := some uptoSmall }

/-- 'truchmanlaw24.GateTurns', WHERE WHAT IT READS IS OF BULK AT MOST 1048576: true; the input reads as it did. -/
def gateTurnsUptoRow : OpenClaim := { program := "ytjfblahlkjopcaagreat", sum := "a84537c93ab78fbed2e6c1b7b361cee47ce23e199f0b28b6a3064df3d7bdcea9", func := "truchman/truchmanlaw24.GateTurns", spec := "gateTurns", inPlace := ["internal/abi.NoEscape"], unfollowed := true, recurses := true, apart := false, narrowed := true }
def GateTurnsUptoSaid : Prop := gateTurnsUptoRow.holds Tryz.pinned (OpenSpec.upto gateTurnsSpec)

/-- 'truchmanlaw24.GateRuns', WHERE WHAT IT READS IS OF BULK AT MOST 1048576: true; the input reads as it did. -/
def gateRunsUptoRow : OpenClaim := { program := "ytjfblahlkjopcaagreat", sum := "a84537c93ab78fbed2e6c1b7b361cee47ce23e199f0b28b6a3064df3d7bdcea9", func := "truchman/truchmanlaw24.GateRuns", spec := "gateRuns", inPlace := ["internal/abi.NoEscape"], unfollowed := true, recurses := true, apart := false, narrowed := true }
def GateRunsUptoSaid : Prop := gateRunsUptoRow.holds Tryz.pinned (OpenSpec.upto gateRunsSpec)

/-- 'truchmanlaw24.GateReturns', WHERE WHAT IT READS IS OF BULK AT MOST 1048576: true; the input reads as it did. -/
def gateReturnsUptoRow : OpenClaim := { program := "ytjfblahlkjopcaagreat", sum := "a84537c93ab78fbed2e6c1b7b361cee47ce23e199f0b28b6a3064df3d7bdcea9", func := "truchman/truchmanlaw24.GateReturns", spec := "gateReturns", inPlace := ["internal/abi.NoEscape"], unfollowed := true, recurses := true, apart := false, narrowed := true }
def GateReturnsUptoSaid : Prop := gateReturnsUptoRow.holds Tryz.pinned (OpenSpec.upto gateReturnsSpec)

/-- 'truchmanlaw24.GateAlone', WHERE WHAT IT READS IS OF BULK AT MOST 1048576: true; the input reads as it did. -/
def gateAloneUptoRow : OpenClaim := { program := "ytjfblahlkjopcaagreat", sum := "a84537c93ab78fbed2e6c1b7b361cee47ce23e199f0b28b6a3064df3d7bdcea9", func := "truchman/truchmanlaw24.GateAlone", spec := "gateAlone", inPlace := ["internal/abi.NoEscape"], unfollowed := true, recurses := true, apart := false, narrowed := true }
def GateAloneUptoSaid : Prop := gateAloneUptoRow.holds Tryz.pinned (OpenSpec.upto gateAloneSpec)

/-- 'truchmanlaw24.GateTimes', WHERE WHAT IT READS IS OF BULK AT MOST 1048576: true; the input reads as it did. -/
def gateTimesUptoRow : OpenClaim := { program := "ytjfblahlkjopcaagreat", sum := "a84537c93ab78fbed2e6c1b7b361cee47ce23e199f0b28b6a3064df3d7bdcea9", func := "truchman/truchmanlaw24.GateTimes", spec := "gateTimes", inPlace := ["internal/abi.NoEscape"], unfollowed := true, recurses := true, apart := false, narrowed := true }
def GateTimesUptoSaid : Prop := gateTimesUptoRow.holds Tryz.pinned (OpenSpec.upto gateTimesSpec)

end Rows
end Go.Proofs.YtjfblahlkjopcaaGreat
