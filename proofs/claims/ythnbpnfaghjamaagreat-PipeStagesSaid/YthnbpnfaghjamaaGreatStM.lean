/- PipeStages: what Batch answers. -/
import Derived.Test.YthnbpnfaghjamaaGreatStLa
import Derived.Test.YthnbpnfaghjamaaGreatStLb
import Derived.Test.YthnbpnfaghjamaaGreatStLc
namespace Go.Proofs.YthnbpnfaghjamaaGreat
open Go.RowKit
open Json (Part Wr)
namespace Pip

theorem stage_batch (t n : Nat) (t1 : 1 ≤ t) (t3 : t ≤ 3) (n1 : 1 ≤ n) (n2 : n ≤ 100) : ∃ X Y : ByteArray,
    (∀ w, Calls Tryz.prog 21 #[.agg #[.int .i64 1, .int .i64 (t : Int), .int .i64 1, .int .i64 ((n : Int) + 1), .int .i64 0], .string ⟨(sdoc n ++ [93]).toArray⟩] w fun e w' => e = .returned (.tuple #[.string X, .int .i64 0]) ∧ Below w.heap.size w w') ∧
    (∀ w, Calls Tryz.prog 21 #[.agg #[.int .i64 1, .int .i64 (t : Int), .int .i64 1, .int .i64 (n : Int), .int .i64 0], .string ⟨(sdoc n ++ [93]).toArray⟩] w fun e w' => e = .returned (.tuple #[.string Y, .int .i64 (if t = 3 then 10 else 0)]) ∧ Below w.heap.size w w') ∧
    (t ≠ 3 → X = Y) ∧ (t = 3 → Y = ⟨#[]⟩ ∧ n < X.size) := by
  have h : stageOk t n = true := by
    have ht : t = 1 ∨ t = 2 ∨ t = 3 := by omega
    rcases ht with rfl | rfl | rfl
    · exact stage_a n n1 n2
    · exact stage_b n n1 n2
    · exact stage_c n n1 n2
  have hr : ∀ m : Nat, m ≤ 101 → right (sset t m) = true := fun m hm => by
    unfold right sset
    simp only [Bool.and_eq_true, decide_eq_true_eq]
    omega
  have hl : (sdoc n ++ [93]).length ≤ 1000 := by have := sdoc_len n; rw [List.length_append, List.length_singleton]; omega
  simp only [stageOk, Bool.and_eq_true, beq_iff_eq, Bool.or_eq_true, bne_iff_ne] at h
  obtain ⟨⟨h1, h3⟩, h4⟩ := h
  have ht := fun hj => h4.resolve_left (by have := writer_one t t1 t3 hj; omega)
  have b1 := fun w => batch_few (sset t (n + 1)) (hr _ (by omega)) (sdoc n ++ [93]) hl (fun hj => (ht hj).1) w
  have b2 := fun w => batch_few (sset t n) (hr _ (by omega)) (sdoc n ++ [93]) hl (fun hj => (ht hj).2) w
  rw [h1] at b1
  have e2 : ((batch textF (sset t n) (sdoc n ++ [93])).2 : Int) = if t = 3 then 10 else 0 := by
    split at h3
    · rename_i h6
      simp only [Bool.and_eq_true, beq_iff_eq] at h3
      rw [h3.1.1, if_pos h6]; rfl
    · rename_i h6
      simp only [Bool.and_eq_true, beq_iff_eq] at h3
      rw [h3.1, if_neg h6]; rfl
  rw [e2] at b2
  refine ⟨_, _, b1, b2, fun h6 => ?_, fun h6 => ?_⟩
  · rw [if_neg h6] at h3
    simp only [Bool.and_eq_true, beq_iff_eq] at h3
    rw [h3.2]
  · rw [if_pos h6] at h3
    simp only [Bool.and_eq_true, decide_eq_true_eq, beq_iff_eq] at h3
    refine ⟨by rw [h3.1.2], by show n < (List.toArray _).size; simpa using h3.2⟩
end Pip
end Go.Proofs.YthnbpnfaghjamaaGreat
