/-
  No cell of these rows narrows 'for every input' (looked for: loops, veiled, ifaces, maps, wideKeys, modest, calm, conditions, laid).
  DERIVED. THE GIVEN ROWS OF THIS SEAT. 4 by the template 'for every input the law returns true; each argument reads behind the call as it read before'; 0 by the template 'total and deterministic' (their statements: YtpeimoknmlmppaaTotals.lean).
  GIVEN WITH THE SEED: the statements are not yours to turn. If you find one false, say at which input.
  Laid BY PROGRAM, IN A SANDBOX (cutbox-rows.mjs): the forced cells as the released guide's own fill.sh prints them over the translation 947b465fbcd66cc0… (all of the seat's roots in one cut). By AI agents, Wed Nov 11 2026. No macro, syntax, notation, axiom, sorry.
-/
import Derived.Test.YtpeimoknmlmppaaChecked
import GoSem.Claim
import GoSem.ClaimJoined
import GoSem.ClaimMapViews
import Derived.JoinedTies
import Derived.KernelRfl
namespace Go.Proofs.Ytpeimoknmlmppaa
/- THE CELL 'sum', in the pinned program and in every row, IS THE sha256 OF THE DUMP (.gsa) THAT YtpeimoknmlmppaaProg.lean LOADS. Nothing in Lean hashes anything: it is a label: what it is worth is what the hold of that sum in a sandbox is worth. -/
noncomputable def Try.pinned : Pinned := { name := "ytpeimoknmlmppaa", sum := "947b465fbcd66cc0eab1dc7c99b82b3cf7947289dfab4538d44b00ea29282a27", checked := Try.checked }
namespace Rows
def none {H : Type} : Left H := { results := [], args := [] }

/-- 'truchmanlaw24.GateCredits': WHATEVER THE INPUT: true; the input reads as it did. -/
def gateCreditsSpec : ChangeSpec := { name := "gateCredits", fn := fun _ => fun
  | [d] => { results := [.lit (.bool true)], args := [d] }
  | _ => none }
def gateCreditsRow : OpenClaim := { program := "ytpeimoknmlmppaa", sum := "947b465fbcd66cc0eab1dc7c99b82b3cf7947289dfab4538d44b00ea29282a27", func := "truchman/truchmanlaw24.GateCredits", spec := "gateCredits", unfollowed := true, recurses := true, apart := false }
def GateCreditsSaid : Prop := gateCreditsRow.holds Try.pinned (OpenSpec.ofChange gateCreditsSpec)

/-- ITS FALSE NEIGHBOUR: 'it returns false'. Refute it at one input. -/
def gateCreditsWrong : ChangeSpec := { name := "gateCredits", fn := fun _ => fun
  | [d] => { results := [.lit (.bool false)], args := [d] }
  | _ => none }
def GateCreditsWrongFalsely : Prop := gateCreditsRow.holds Try.pinned (OpenSpec.ofChange gateCreditsWrong)

/-- 'truchmanlaw24.GateFull': WHATEVER THE INPUT: true; the input reads as it did. -/
def gateFullSpec : ChangeSpec := { name := "gateFull", fn := fun _ => fun
  | [d1, d2, d3] => { results := [.lit (.bool true)], args := [d1, d2, d3] }
  | _ => none }
def gateFullRow : OpenClaim := { program := "ytpeimoknmlmppaa", sum := "947b465fbcd66cc0eab1dc7c99b82b3cf7947289dfab4538d44b00ea29282a27", func := "truchman/truchmanlaw24.GateFull", spec := "gateFull", inPlace := ["internal/abi.NoEscape"], unfollowed := true, recurses := true, apart := false }
def GateFullSaid : Prop := gateFullRow.holds Try.pinned (OpenSpec.ofChange gateFullSpec)

/-- ITS FALSE NEIGHBOUR: 'it returns false'. Refute it at one input. -/
def gateFullWrong : ChangeSpec := { name := "gateFull", fn := fun _ => fun
  | [d1, d2, d3] => { results := [.lit (.bool false)], args := [d1, d2, d3] }
  | _ => none }
def GateFullWrongFalsely : Prop := gateFullRow.holds Try.pinned (OpenSpec.ofChange gateFullWrong)

/-- 'truchmanlaw24.GateIds': WHATEVER THE INPUT: true; the input reads as it did. -/
def gateIdsSpec : ChangeSpec := { name := "gateIds", fn := fun _ => fun
  | [d1, d2] => { results := [.lit (.bool true)], args := [d1, d2] }
  | _ => none }
def gateIdsRow : OpenClaim := { program := "ytpeimoknmlmppaa", sum := "947b465fbcd66cc0eab1dc7c99b82b3cf7947289dfab4538d44b00ea29282a27", func := "truchman/truchmanlaw24.GateIds", spec := "gateIds", inPlace := ["internal/abi.NoEscape"], unfollowed := true, recurses := true, apart := false }
def GateIdsSaid : Prop := gateIdsRow.holds Try.pinned (OpenSpec.ofChange gateIdsSpec)

/-- ITS FALSE NEIGHBOUR: 'it returns false'. Refute it at one input. -/
def gateIdsWrong : ChangeSpec := { name := "gateIds", fn := fun _ => fun
  | [d1, d2] => { results := [.lit (.bool false)], args := [d1, d2] }
  | _ => none }
def GateIdsWrongFalsely : Prop := gateIdsRow.holds Try.pinned (OpenSpec.ofChange gateIdsWrong)

/-- 'truchmanlaw24.GateStrange': WHATEVER THE INPUT: true; the input reads as it did. -/
def gateStrangeSpec : ChangeSpec := { name := "gateStrange", fn := fun _ => fun
  | [d1, d2, d3, d4] => { results := [.lit (.bool true)], args := [d1, d2, d3, d4] }
  | _ => none }
def gateStrangeRow : OpenClaim := { program := "ytpeimoknmlmppaa", sum := "947b465fbcd66cc0eab1dc7c99b82b3cf7947289dfab4538d44b00ea29282a27", func := "truchman/truchmanlaw24.GateStrange", spec := "gateStrange", inPlace := ["internal/abi.NoEscape"], unfollowed := true, recurses := true, apart := false }
def GateStrangeSaid : Prop := gateStrangeRow.holds Try.pinned (OpenSpec.ofChange gateStrangeSpec)

/-- ITS FALSE NEIGHBOUR: 'it returns false'. Refute it at one input. -/
def gateStrangeWrong : ChangeSpec := { name := "gateStrange", fn := fun _ => fun
  | [d1, d2, d3, d4] => { results := [.lit (.bool false)], args := [d1, d2, d3, d4] }
  | _ => none }
def GateStrangeWrongFalsely : Prop := gateStrangeRow.holds Try.pinned (OpenSpec.ofChange gateStrangeWrong)

/- THE SECOND FORM. 'bulk': how many values and letters a reading holds, each counted each time it is reached (what is shared counts as often as it is met; a slice's spare places count too). A statement '..UptoSaid' is the law's where the arguments, and the package variables that the reading takes, are together of bulk at most 1048576: NARROWER than '..Said'. Prove '..Said' where nothing that the law and all that it calls make is longer than what came in: it says more and counts as full. Else prove '..UptoSaid'. A law counts once. -/
mutual
def uptoBulk {H : Type} : DataW H → Nat
  | .lit (.string bytes) => bytes.length + 1
  | .lit _ => 1
  | .nil => 1
  | .ptr d => uptoBulk d + 1
  | .slice elems spare => uptoBulkAll elems + uptoBulkAll spare + 1
  | .agg parts => uptoBulkAll parts + 1
  | .iface _ d => uptoBulk d + 1
  | .map entries => uptoBulkEntries entries + 1
  | .held _ => 1
def uptoBulkAll {H : Type} : List (DataW H) → Nat
  | [] => 0
  | d :: r => uptoBulk d + uptoBulkAll r
def uptoBulkEntries {H : Type} : List (Lit × DataW H) → Nat
  | [] => 0
  | x :: r => uptoBulkEntry x + uptoBulkEntries r
def uptoBulkEntry {H : Type} : Lit × DataW H → Nat
  | (.string bytes, d) => bytes.length + uptoBulk d + 1
  | (_, d) => uptoBulk d + 1
 end
def uptoSmall : (H : Type) → List (DataW H) → Bool := fun _ ds => decide (uptoBulkAll ds ≤ 1048576)
def OpenSpec.upto (s : _root_.Go.ChangeSpec) : _root_.Go.OpenSpec := { _root_.Go.OpenSpec.ofChange s with cond := some uptoSmall }

/-- 'truchmanlaw24.GateCredits', WHERE WHAT IT READS IS OF BULK AT MOST 1048576: true; the input reads as it did. -/
def gateCreditsUptoRow : OpenClaim := { program := "ytpeimoknmlmppaa", sum := "947b465fbcd66cc0eab1dc7c99b82b3cf7947289dfab4538d44b00ea29282a27", func := "truchman/truchmanlaw24.GateCredits", spec := "gateCredits", unfollowed := true, recurses := true, apart := false, narrowed := true }
def GateCreditsUptoSaid : Prop := gateCreditsUptoRow.holds Try.pinned (OpenSpec.upto gateCreditsSpec)

/-- 'truchmanlaw24.GateFull', WHERE WHAT IT READS IS OF BULK AT MOST 1048576: true; the input reads as it did. -/
def gateFullUptoRow : OpenClaim := { program := "ytpeimoknmlmppaa", sum := "947b465fbcd66cc0eab1dc7c99b82b3cf7947289dfab4538d44b00ea29282a27", func := "truchman/truchmanlaw24.GateFull", spec := "gateFull", inPlace := ["internal/abi.NoEscape"], unfollowed := true, recurses := true, apart := false, narrowed := true }
def GateFullUptoSaid : Prop := gateFullUptoRow.holds Try.pinned (OpenSpec.upto gateFullSpec)

/-- 'truchmanlaw24.GateIds', WHERE WHAT IT READS IS OF BULK AT MOST 1048576: true; the input reads as it did. -/
def gateIdsUptoRow : OpenClaim := { program := "ytpeimoknmlmppaa", sum := "947b465fbcd66cc0eab1dc7c99b82b3cf7947289dfab4538d44b00ea29282a27", func := "truchman/truchmanlaw24.GateIds", spec := "gateIds", inPlace := ["internal/abi.NoEscape"], unfollowed := true, recurses := true, apart := false, narrowed := true }
def GateIdsUptoSaid : Prop := gateIdsUptoRow.holds Try.pinned (OpenSpec.upto gateIdsSpec)

/-- 'truchmanlaw24.GateStrange', WHERE WHAT IT READS IS OF BULK AT MOST 1048576: true; the input reads as it did. -/
def gateStrangeUptoRow : OpenClaim := { program := "ytpeimoknmlmppaa", sum := "947b465fbcd66cc0eab1dc7c99b82b3cf7947289dfab4538d44b00ea29282a27", func := "truchman/truchmanlaw24.GateStrange", spec := "gateStrange", inPlace := ["internal/abi.NoEscape"], unfollowed := true, recurses := true, apart := false, narrowed := true }
def GateStrangeUptoSaid : Prop := gateStrangeUptoRow.holds Try.pinned (OpenSpec.upto gateStrangeSpec)

end Rows
end Go.Proofs.Ytpeimoknmlmppaa
