/-
  No cell of these rows narrows 'for every input' (looked for: loops, veiled, ifaces, maps, wideKeys, modest, calm, conditions, laid).
  DERIVED. THE GIVEN ROWS OF THIS SEAT. 4 by the template 'for every input the law returns true; each argument reads behind the call as it read before'; 0 by the template 'total and deterministic' (their statements: YtfheacchdfdeiaaGreatTotals.lean).
  GIVEN WITH THE SEED: the statements are not yours to turn. If you find one false, say at which input.
  Laid BY PROGRAM, IN A SANDBOX (cutbox-rows.mjs): the forced cells as the released guide's own fill.sh prints them over the translation 7f6f423b05d6995c… (all of the seat's roots in one cut). By AI agents, Wed Nov 11 2026. No macro, syntax, notation, axiom, sorry.
-/
import Derived.Test.YtfheacchdfdeiaaGreatChecked
import GoSem.Claim
import GoSem.ClaimJoined
import GoSem.ClaimMapViews
import Derived.JoinedTies
import Derived.KernelRfl
namespace Go.Proofs.YtfheacchdfdeiaaGreat
/- THE CELL 'sum', in the pinned program and in every row, IS THE sha256 OF THE DUMP (.gsa) THAT YtfheacchdfdeiaaGreatProg.lean LOADS. Nothing in Lean hashes anything: it is a label: what it is worth is what the hold of that sum in a sandbox is worth. -/
noncomputable def Tryz.pinned : Pinned := { name := "ytfheacchdfdeiaagreat", sum := "7f6f423b05d6995ccc20c693083bf835299177698e9158d8b03f22b8a4f1ec19", checked := Tryz.checked }
namespace Rows
def none {H : Type} : Left H := { results := [], args := [] }

/-- 'truchmanlaw24.GateReturns': WHATEVER THE INPUT: true; the input reads as it did. -/
def gateReturnsSpec : ChangeSpec := { name := "gateReturns", fn := fun _ => fun
  | [d1, d2] => { results := [.lit (.bool true)], args := [d1, d2] }
  | _ => none }
def gateReturnsRow : OpenClaim := { program := "ytfheacchdfdeiaagreat", sum := "7f6f423b05d6995ccc20c693083bf835299177698e9158d8b03f22b8a4f1ec19", func := "truchman/truchmanlaw24.GateReturns", spec := "gateReturns", inPlace := ["internal/abi.NoEscape"], unfollowed := true, recurses := true, apart := false }
def GateReturnsSaid : Prop := gateReturnsRow.holds Tryz.pinned (OpenSpec.ofChange gateReturnsSpec)

/-- ITS FALSE NEIGHBOUR: 'it returns false'. Refute it at one input. -/
def gateReturnsWrong : ChangeSpec := { name := "gateReturns", fn := fun _ => fun
  | [d1, d2] => { results := [.lit (.bool false)], args := [d1, d2] }
  | _ => none }
def GateReturnsWrongFalsely : Prop := gateReturnsRow.holds Tryz.pinned (OpenSpec.ofChange gateReturnsWrong)

/-- 'truchmanlaw24.GateAlone': WHATEVER THE INPUT: true; the input reads as it did. -/
def gateAloneSpec : ChangeSpec := { name := "gateAlone", fn := fun _ => fun
  | [d] => { results := [.lit (.bool true)], args := [d] }
  | _ => none }
def gateAloneRow : OpenClaim := { program := "ytfheacchdfdeiaagreat", sum := "7f6f423b05d6995ccc20c693083bf835299177698e9158d8b03f22b8a4f1ec19", func := "truchman/truchmanlaw24.GateAlone", spec := "gateAlone", inPlace := ["internal/abi.NoEscape"], unfollowed := true, recurses := true, apart := false }
def GateAloneSaid : Prop := gateAloneRow.holds Tryz.pinned (OpenSpec.ofChange gateAloneSpec)

/-- ITS FALSE NEIGHBOUR: 'it returns false'. Refute it at one input. -/
def gateAloneWrong : ChangeSpec := { name := "gateAlone", fn := fun _ => fun
  | [d] => { results := [.lit (.bool false)], args := [d] }
  | _ => none }
def GateAloneWrongFalsely : Prop := gateAloneRow.holds Tryz.pinned (OpenSpec.ofChange gateAloneWrong)

/-- 'truchmanlaw24.GateTimes': WHATEVER THE INPUT: true; the input reads as it did. -/
def gateTimesSpec : ChangeSpec := { name := "gateTimes", fn := fun _ => fun
  | [d1, d2, d3] => { results := [.lit (.bool true)], args := [d1, d2, d3] }
  | _ => none }
def gateTimesRow : OpenClaim := { program := "ytfheacchdfdeiaagreat", sum := "7f6f423b05d6995ccc20c693083bf835299177698e9158d8b03f22b8a4f1ec19", func := "truchman/truchmanlaw24.GateTimes", spec := "gateTimes", inPlace := ["internal/abi.NoEscape"], unfollowed := true, recurses := true, apart := false }
def GateTimesSaid : Prop := gateTimesRow.holds Tryz.pinned (OpenSpec.ofChange gateTimesSpec)

/-- ITS FALSE NEIGHBOUR: 'it returns false'. Refute it at one input. -/
def gateTimesWrong : ChangeSpec := { name := "gateTimes", fn := fun _ => fun
  | [d1, d2, d3] => { results := [.lit (.bool false)], args := [d1, d2, d3] }
  | _ => none }
def GateTimesWrongFalsely : Prop := gateTimesRow.holds Tryz.pinned (OpenSpec.ofChange gateTimesWrong)

/-- 'truchmantop.TopResources': WHATEVER THE INPUT: true; the input reads as it did. -/
def topResourcesSpec : ChangeSpec := { name := "topResources", fn := fun _ => fun
  | [d1, d2, d3] => { results := [.lit (.bool true)], args := [d1, d2, d3] }
  | _ => none }
def topResourcesRow : OpenClaim := { program := "ytfheacchdfdeiaagreat", sum := "7f6f423b05d6995ccc20c693083bf835299177698e9158d8b03f22b8a4f1ec19", func := "truchman/truchmantop.TopResources", spec := "topResources", inPlace := ["internal/abi.NoEscape"], unfollowed := true, recurses := true, apart := false }
def TopResourcesSaid : Prop := topResourcesRow.holds Tryz.pinned (OpenSpec.ofChange topResourcesSpec)

/-- ITS FALSE NEIGHBOUR: 'it returns false'. Refute it at one input. -/
def topResourcesWrong : ChangeSpec := { name := "topResources", fn := fun _ => fun
  | [d1, d2, d3] => { results := [.lit (.bool false)], args := [d1, d2, d3] }
  | _ => none }
def TopResourcesWrongFalsely : Prop := topResourcesRow.holds Tryz.pinned (OpenSpec.ofChange topResourcesWrong)

/- THE SECOND FORM. 'bulk': how many values and letters a reading holds, each counted each time it is reached (what is shared counts as often as it is met; a slice's spare places count too). A statement '..UptoSaid' is the law's where the arguments, and the package variables that the reading takes, are together of bulk at most 1048576: NARROWER than '..Said'. Prove '..Said' where nothing that the law and all that it calls make is longer than what came in: it says more and counts as full. Else prove '..UptoSaid'. A law counts once. -/
mutual
def uptoBulk {H : Type} : DataW H → Nat
  | .lit (.string bytes) => bytes.length + 1
  | .lit _ => 1
  | .nil => 1
  | .ptr d => uptoBulk d + 1
  | .slice elems spare => uptoBulkAll elems + uptoBulkAll spare + 1
  | .agg parts => uptoBulkAll parts + 1
  | .iface _ d => uptoBulk d + 1
  | .map entries => uptoBulkEntries entries + 1
  | .held _ => 1
def uptoBulkAll {H : Type} : List (DataW H) → Nat
  | [] => 0
  | d :: r => uptoBulk d + uptoBulkAll r
def uptoBulkEntries {H : Type} : List (Lit × DataW H) → Nat
  | [] => 0
  | x :: r => uptoBulkEntry x + uptoBulkEntries r
def uptoBulkEntry {H : Type} : Lit × DataW H → Nat
  | (.string bytes, d) => bytes.length + uptoBulk d + 1
  | (_, d) => uptoBulk d + 1
 end
def uptoSmall : (H : Type) → List (DataW H) → Bool := fun _ ds => decide (uptoBulkAll ds ≤ 1048576)
def OpenSpec.upto (s : _root_.Go.ChangeSpec) : _root_.Go.OpenSpec := { _root_.Go.OpenSpec.ofChange s with cond := some uptoSmall }

/-- 'truchmanlaw24.GateReturns', WHERE WHAT IT READS IS OF BULK AT MOST 1048576: true; the input reads as it did. -/
def gateReturnsUptoRow : OpenClaim := { program := "ytfheacchdfdeiaagreat", sum := "7f6f423b05d6995ccc20c693083bf835299177698e9158d8b03f22b8a4f1ec19", func := "truchman/truchmanlaw24.GateReturns", spec := "gateReturns", inPlace := ["internal/abi.NoEscape"], unfollowed := true, recurses := true, apart := false, narrowed := true }
def GateReturnsUptoSaid : Prop := gateReturnsUptoRow.holds Tryz.pinned (OpenSpec.upto gateReturnsSpec)

/-- 'truchmanlaw24.GateAlone', WHERE WHAT IT READS IS OF BULK AT MOST 1048576: true; the input reads as it did. -/
def gateAloneUptoRow : OpenClaim := { program := "ytfheacchdfdeiaagreat", sum := "7f6f423b05d6995ccc20c693083bf835299177698e9158d8b03f22b8a4f1ec19", func := "truchman/truchmanlaw24.GateAlone", spec := "gateAlone", inPlace := ["internal/abi.NoEscape"], unfollowed := true, recurses := true, apart := false, narrowed := true }
def GateAloneUptoSaid : Prop := gateAloneUptoRow.holds Tryz.pinned (OpenSpec.upto gateAloneSpec)

/-- 'truchmanlaw24.GateTimes', WHERE WHAT IT READS IS OF BULK AT MOST 1048576: true; the input reads as it did. -/
def gateTimesUptoRow : OpenClaim := { program := "ytfheacchdfdeiaagreat", sum := "7f6f423b05d6995ccc20c693083bf835299177698e9158d8b03f22b8a4f1ec19", func := "truchman/truchmanlaw24.GateTimes", spec := "gateTimes", inPlace := ["internal/abi.NoEscape"], unfollowed := true, recurses := true, apart := false, narrowed := true }
def GateTimesUptoSaid : Prop := gateTimesUptoRow.holds Tryz.pinned (OpenSpec.upto gateTimesSpec)

/-- 'truchmantop.TopResources', WHERE WHAT IT READS IS OF BULK AT MOST 1048576: true; the input reads as it did. -/
def topResourcesUptoRow : OpenClaim := { program := "ytfheacchdfdeiaagreat", sum := "7f6f423b05d6995ccc20c693083bf835299177698e9158d8b03f22b8a4f1ec19", func := "truchman/truchmantop.TopResources", spec := "topResources", inPlace := ["internal/abi.NoEscape"], unfollowed := true, recurses := true, apart := false, narrowed := true }
def TopResourcesUptoSaid : Prop := topResourcesUptoRow.holds Tryz.pinned (OpenSpec.upto topResourcesSpec)

end Rows
end Go.Proofs.YtfheacchdfdeiaaGreat
