/-
  No cell of these rows narrows 'for every input' (looked for: loops, veiled, ifaces, maps, wideKeys, modest, calm, conditions, laid).
  DERIVED. THE GIVEN ROWS OF THIS SEAT. 4 by the template 'for every input the law returns true; each argument reads behind the call as it read before'; 0 by the template 'total and deterministic' (their statements: YtnnkkgglfajmhaaGreatTotals.lean).
  GIVEN WITH THE SEED: the statements are not yours to turn. If you find one false, say at which input.
  Laid BY PROGRAM, IN A SANDBOX (cutbox-rows.mjs): the forced cells as the released guide's own fill.sh prints them over the translation b0298f5f08a7cdef… (all of the seat's roots in one cut). By AI agents, Wed Nov 11 2026. No macro, syntax, notation, axiom, sorry.
-/
import Derived.Test.YtnnkkgglfajmhaaGreatChecked
import GoSem.Claim
import GoSem.ClaimJoined
import GoSem.ClaimMapViews
import Derived.JoinedTies
import Derived.KernelRfl
namespace Go.Proofs.YtnnkkgglfajmhaaGreat
/- THE CELL 'sum', in the pinned program and in every row, IS THE sha256 OF THE DUMP (.gsa) THAT YtnnkkgglfajmhaaGreatProg.lean LOADS. Nothing in Lean hashes anything: it is a label: what it is worth is what the hold of that sum in a sandbox is worth. -/
noncomputable def Tryz.pinned : Pinned := { name := "ytnnkkgglfajmhaagreat", sum := "b0298f5f08a7cdef8f04d8454c306ac40e24825ec982f2445860a9f470373213", checked := Tryz.checked }
namespace Rows
def none {H : Type} : Left H := { results := [], args := [] }

/-- 'truchmanlaw23.SessionRooms': WHATEVER THE INPUT: true; the input reads as it did. -/
def sessionRoomsSpec : ChangeSpec := { name := "sessionRooms", fn := fun _ => fun
  | [d1, d2] => { results := [.lit (.bool true)], args := [d1, d2] }
  | _ => none }
def sessionRoomsRow : OpenClaim := { program := "ytnnkkgglfajmhaagreat", sum := "b0298f5f08a7cdef8f04d8454c306ac40e24825ec982f2445860a9f470373213", func := "truchman/truchmanlaw23.SessionRooms", spec := "sessionRooms", inPlace := ["internal/abi.NoEscape"], unfollowed := true, recurses := true, apart := false }
def SessionRoomsSaid : Prop := sessionRoomsRow.holds Tryz.pinned (OpenSpec.ofChange sessionRoomsSpec)

/-- ITS FALSE NEIGHBOUR: 'it returns false'. Refute it at one input. -/
def sessionRoomsWrong : ChangeSpec := { name := "sessionRooms", fn := fun _ => fun
  | [d1, d2] => { results := [.lit (.bool false)], args := [d1, d2] }
  | _ => none }
def SessionRoomsWrongFalsely : Prop := sessionRoomsRow.holds Tryz.pinned (OpenSpec.ofChange sessionRoomsWrong)

/-- 'truchmanlaw23.SessionWaits': WHATEVER THE INPUT: true; the input reads as it did. -/
def sessionWaitsSpec : ChangeSpec := { name := "sessionWaits", fn := fun _ => fun
  | [d] => { results := [.lit (.bool true)], args := [d] }
  | _ => none }
def sessionWaitsRow : OpenClaim := { program := "ytnnkkgglfajmhaagreat", sum := "b0298f5f08a7cdef8f04d8454c306ac40e24825ec982f2445860a9f470373213", func := "truchman/truchmanlaw23.SessionWaits", spec := "sessionWaits", inPlace := ["internal/abi.NoEscape"], unfollowed := true, recurses := true, apart := false }
def SessionWaitsSaid : Prop := sessionWaitsRow.holds Tryz.pinned (OpenSpec.ofChange sessionWaitsSpec)

/-- ITS FALSE NEIGHBOUR: 'it returns false'. Refute it at one input. -/
def sessionWaitsWrong : ChangeSpec := { name := "sessionWaits", fn := fun _ => fun
  | [d] => { results := [.lit (.bool false)], args := [d] }
  | _ => none }
def SessionWaitsWrongFalsely : Prop := sessionWaitsRow.holds Tryz.pinned (OpenSpec.ofChange sessionWaitsWrong)

/-- 'truchmanlaw23.SessionBudget': WHATEVER THE INPUT: true; the input reads as it did. -/
def sessionBudgetSpec : ChangeSpec := { name := "sessionBudget", fn := fun _ => fun
  | [d1, d2, d3] => { results := [.lit (.bool true)], args := [d1, d2, d3] }
  | _ => none }
def sessionBudgetRow : OpenClaim := { program := "ytnnkkgglfajmhaagreat", sum := "b0298f5f08a7cdef8f04d8454c306ac40e24825ec982f2445860a9f470373213", func := "truchman/truchmanlaw23.SessionBudget", spec := "sessionBudget", inPlace := ["internal/abi.NoEscape"], unfollowed := true, recurses := true, apart := false }
def SessionBudgetSaid : Prop := sessionBudgetRow.holds Tryz.pinned (OpenSpec.ofChange sessionBudgetSpec)

/-- ITS FALSE NEIGHBOUR: 'it returns false'. Refute it at one input. -/
def sessionBudgetWrong : ChangeSpec := { name := "sessionBudget", fn := fun _ => fun
  | [d1, d2, d3] => { results := [.lit (.bool false)], args := [d1, d2, d3] }
  | _ => none }
def SessionBudgetWrongFalsely : Prop := sessionBudgetRow.holds Tryz.pinned (OpenSpec.ofChange sessionBudgetWrong)

/-- 'truchmanlaw23.SessionSums': WHATEVER THE INPUT: true; the input reads as it did. -/
def sessionSumsSpec : ChangeSpec := { name := "sessionSums", fn := fun _ => fun
  | [d1, d2, d3] => { results := [.lit (.bool true)], args := [d1, d2, d3] }
  | _ => none }
def sessionSumsRow : OpenClaim := { program := "ytnnkkgglfajmhaagreat", sum := "b0298f5f08a7cdef8f04d8454c306ac40e24825ec982f2445860a9f470373213", func := "truchman/truchmanlaw23.SessionSums", spec := "sessionSums", inPlace := ["internal/abi.NoEscape"], unfollowed := true, recurses := true, apart := false }
def SessionSumsSaid : Prop := sessionSumsRow.holds Tryz.pinned (OpenSpec.ofChange sessionSumsSpec)

/-- ITS FALSE NEIGHBOUR: 'it returns false'. Refute it at one input. -/
def sessionSumsWrong : ChangeSpec := { name := "sessionSums", fn := fun _ => fun
  | [d1, d2, d3] => { results := [.lit (.bool false)], args := [d1, d2, d3] }
  | _ => none }
def SessionSumsWrongFalsely : Prop := sessionSumsRow.holds Tryz.pinned (OpenSpec.ofChange sessionSumsWrong)

/- THE SECOND FORM. 'bulk': how many values and letters a reading holds, each counted each time it is reached (what is shared counts as often as it is met; a slice's spare places count too). A statement '..UptoSaid' is the law's where the arguments, and the package variables that the reading takes, are together of bulk at most 1048576: NARROWER than '..Said'. Prove '..Said' where nothing that the law and all that it calls make is longer than what came in: it says more and counts as full. Else prove '..UptoSaid'. A law counts once. -/
mutual
def uptoBulk {H : Type} : DataW H → Nat
  | .lit (.string bytes) => bytes.length + 1
  | .lit _ => 1
  | .nil => 1
  | .ptr d => uptoBulk d + 1
  | .slice elems spare => uptoBulkAll elems + uptoBulkAll spare + 1
  | .agg parts => uptoBulkAll parts + 1
  | .iface _ d => uptoBulk d + 1
  | .map entries => uptoBulkEntries entries + 1
  | .held _ => 1
def uptoBulkAll {H : Type} : List (DataW H) → Nat
  | [] => 0
  | d :: r => uptoBulk d + uptoBulkAll r
def uptoBulkEntries {H : Type} : List (Lit × DataW H) → Nat
  | [] => 0
  | x :: r => uptoBulkEntry x + uptoBulkEntries r
def uptoBulkEntry {H : Type} : Lit × DataW H → Nat
  | (.string bytes, d) => bytes.length + uptoBulk d + 1
  | (_, d) => uptoBulk d + 1
 end
def uptoSmall : (H : Type) → List (DataW H) → Bool := fun _ ds => decide (uptoBulkAll ds ≤ 1048576)
def OpenSpec.upto (s : _root_.Go.ChangeSpec) : _root_.Go.OpenSpec := { _root_.Go.OpenSpec.ofChange s with cond := some uptoSmall }

/-- 'truchmanlaw23.SessionRooms', WHERE WHAT IT READS IS OF BULK AT MOST 1048576: true; the input reads as it did. -/
def sessionRoomsUptoRow : OpenClaim := { program := "ytnnkkgglfajmhaagreat", sum := "b0298f5f08a7cdef8f04d8454c306ac40e24825ec982f2445860a9f470373213", func := "truchman/truchmanlaw23.SessionRooms", spec := "sessionRooms", inPlace := ["internal/abi.NoEscape"], unfollowed := true, recurses := true, apart := false, narrowed := true }
def SessionRoomsUptoSaid : Prop := sessionRoomsUptoRow.holds Tryz.pinned (OpenSpec.upto sessionRoomsSpec)

/-- 'truchmanlaw23.SessionWaits', WHERE WHAT IT READS IS OF BULK AT MOST 1048576: true; the input reads as it did. -/
def sessionWaitsUptoRow : OpenClaim := { program := "ytnnkkgglfajmhaagreat", sum := "b0298f5f08a7cdef8f04d8454c306ac40e24825ec982f2445860a9f470373213", func := "truchman/truchmanlaw23.SessionWaits", spec := "sessionWaits", inPlace := ["internal/abi.NoEscape"], unfollowed := true, recurses := true, apart := false, narrowed := true }
def SessionWaitsUptoSaid : Prop := sessionWaitsUptoRow.holds Tryz.pinned (OpenSpec.upto sessionWaitsSpec)

/-- 'truchmanlaw23.SessionBudget', WHERE WHAT IT READS IS OF BULK AT MOST 1048576: true; the input reads as it did. -/
def sessionBudgetUptoRow : OpenClaim := { program := "ytnnkkgglfajmhaagreat", sum := "b0298f5f08a7cdef8f04d8454c306ac40e24825ec982f2445860a9f470373213", func := "truchman/truchmanlaw23.SessionBudget", spec := "sessionBudget", inPlace := ["internal/abi.NoEscape"], unfollowed := true, recurses := true, apart := false, narrowed := true }
def SessionBudgetUptoSaid : Prop := sessionBudgetUptoRow.holds Tryz.pinned (OpenSpec.upto sessionBudgetSpec)

/-- 'truchmanlaw23.SessionSums', WHERE WHAT IT READS IS OF BULK AT MOST 1048576: true; the input reads as it did. -/
def sessionSumsUptoRow : OpenClaim := { program := "ytnnkkgglfajmhaagreat", sum := "b0298f5f08a7cdef8f04d8454c306ac40e24825ec982f2445860a9f470373213", func := "truchman/truchmanlaw23.SessionSums", spec := "sessionSums", inPlace := ["internal/abi.NoEscape"], unfollowed := true, recurses := true, apart := false, narrowed := true }
def SessionSumsUptoSaid : Prop := sessionSumsUptoRow.holds Tryz.pinned (OpenSpec.upto sessionSumsSpec)

end Rows
end Go.Proofs.YtnnkkgglfajmhaaGreat
