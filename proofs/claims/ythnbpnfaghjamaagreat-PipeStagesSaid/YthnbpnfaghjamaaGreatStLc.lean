/- PipeStages in plain Lean: the writer of kind 3. -/
import Derived.Test.YthnbpnfaghjamaaGreatStL
namespace Go.Proofs.YthnbpnfaghjamaaGreat
open Go.RowKit
open Json (Part Wr)
namespace Pip

set_option maxRecDepth 100000 in
theorem stage_c0 : ((List.range 10).all fun n => stageOk 3 (n + 1)) = true := by decide +kernel

set_option maxRecDepth 100000 in
theorem stage_c1 : ((List.range 10).all fun n => stageOk 3 (n + 11)) = true := by decide +kernel

set_option maxRecDepth 100000 in
theorem stage_c2 : ((List.range 10).all fun n => stageOk 3 (n + 21)) = true := by decide +kernel

set_option maxRecDepth 100000 in
theorem stage_c3 : ((List.range 10).all fun n => stageOk 3 (n + 31)) = true := by decide +kernel

set_option maxRecDepth 100000 in
theorem stage_c4 : ((List.range 10).all fun n => stageOk 3 (n + 41)) = true := by decide +kernel

set_option maxRecDepth 100000 in
theorem stage_c5 : ((List.range 10).all fun n => stageOk 3 (n + 51)) = true := by decide +kernel

set_option maxRecDepth 100000 in
theorem stage_c6 : ((List.range 10).all fun n => stageOk 3 (n + 61)) = true := by decide +kernel

set_option maxRecDepth 100000 in
theorem stage_c7 : ((List.range 10).all fun n => stageOk 3 (n + 71)) = true := by decide +kernel

set_option maxRecDepth 100000 in
theorem stage_c8 : ((List.range 10).all fun n => stageOk 3 (n + 81)) = true := by decide +kernel

set_option maxRecDepth 100000 in
theorem stage_c9 : ((List.range 10).all fun n => stageOk 3 (n + 91)) = true := by decide +kernel

theorem stage_c (n : Nat) (n1 : 1 ≤ n) (n2 : n ≤ 100) : stageOk 3 n = true := by
  have key : ∀ a : Nat, ((List.range 10).all fun n => stageOk 3 (n + a)) = true → a ≤ n → n < a + 10 → stageOk 3 n = true := fun a h h1 h2 => by
    rw [List.all_eq_true] at h
    have := h (n - a) (List.mem_range.2 (by omega))
    rwa [Nat.sub_add_cancel h1] at this
  by_cases h0 : n < 11
  · exact key 1 stage_c0 (by omega) (by omega)
  by_cases h1 : n < 21
  · exact key 11 stage_c1 (by omega) (by omega)
  by_cases h2 : n < 31
  · exact key 21 stage_c2 (by omega) (by omega)
  by_cases h3 : n < 41
  · exact key 31 stage_c3 (by omega) (by omega)
  by_cases h4 : n < 51
  · exact key 41 stage_c4 (by omega) (by omega)
  by_cases h5 : n < 61
  · exact key 51 stage_c5 (by omega) (by omega)
  by_cases h6 : n < 71
  · exact key 61 stage_c6 (by omega) (by omega)
  by_cases h7 : n < 81
  · exact key 71 stage_c7 (by omega) (by omega)
  by_cases h8 : n < 91
  · exact key 81 stage_c8 (by omega) (by omega)
  exact key 91 stage_c9 (by omega) (by omega)
end Pip
end Go.Proofs.YthnbpnfaghjamaaGreat
