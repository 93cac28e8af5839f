/- PipeStages in plain Lean; what Batch answers there. -/
import Derived.Test.YthnbpnfaghjamaaGreatQ00
namespace Go.Proofs.YthnbpnfaghjamaaGreat
open Go.RowKit
open Json (Part Wr)
namespace Pip

/-- n fives in a list, ahead of its end. -/
def sdoc : Nat → List UInt8
  | 0 => [91]
  | k + 1 => sdoc k ++ (if k = 0 then [53] else [44, 53])
theorem sdoc_len (n : Nat) : (sdoc n).length ≤ 2 * n + 1 := by
  induction n with
  | zero => simp [sdoc]
  | succ n ih =>
    simp only [sdoc, List.length_append]
    split <;> simp <;> omega
def sset (t n : Nat) : Setup := ⟨1, t, 1, n, 0⟩
def stageOk (t n : Nat) : Bool :=
  (batch textF (sset t (n + 1)) (sdoc n ++ [93])).2 == 0 &&
    (if t = 3 then (batch textF (sset t n) (sdoc n ++ [93])).2 == 10 && (batch textF (sset t n) (sdoc n ++ [93])).1 == [] && decide (n < (batch textF (sset t (n + 1)) (sdoc n ++ [93])).1.length)
      else (batch textF (sset t n) (sdoc n ++ [93])).2 == 0 && (batch textF (sset t (n + 1)) (sdoc n ++ [93])).1 == (batch textF (sset t n) (sdoc n ++ [93])).1) &&
    (t != 1 || ((Pp.new (sset t (n + 1))).toldR fewB textF (sdoc n ++ [93]) && (Pp.new (sset t n)).toldR fewB textF (sdoc n ++ [93])))

end Pip
end Go.Proofs.YthnbpnfaghjamaaGreat
