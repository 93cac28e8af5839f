/- A Reader that told an error; what is told of a beginning. No program in sight. -/
import Derived.Test.YtnpbleaikdpjiaaDoorEscIn
namespace Go.Proofs.YtnpbleaikdpjiaaDoor
namespace Esc

theorem step_latched {r : Rdr} (h : r.e ≠ 0) (b : UInt8) : r.step b = (r, [], r.e) := by
  unfold Rdr.step
  rw [if_pos h]

theorem whole_err {r : Rdr} (h : r.e ≠ 0) : r.whole = false := by
  simp [Rdr.whole, h]

theorem step_err (r : Rdr) (b : UInt8) (h : (r.step b).2.2 ≠ 0) : (r.step b).2.1 = [] ∧ (r.step b).1.e = (r.step b).2.2 := by
  unfold Rdr.step at h ⊢
  split
  · exact ⟨rfl, rfl⟩
  · rename_i h1
    rw [if_neg h1] at h
    split
    · exact ⟨rfl, rfl⟩
    · rename_i h2
      rw [if_neg h2] at h
      split
      · rename_i h3
        rw [if_pos h3] at h
        refine ⟨?_, rfl⟩
        unfold Rdr.plain latch at h ⊢
        repeat' split
        all_goals first
          | rfl
          | (exfalso; revert h; repeat' split; all_goals simp_all)
      · rename_i h3
        rw [if_neg h3] at h
        split
        · rename_i h4
          rw [if_pos h4] at h
          refine ⟨?_, rfl⟩
          unfold Rdr.behind latch at h ⊢
          by_cases hb : b = 117
          · rw [if_pos hb]
          · rw [if_neg hb] at h ⊢
            cases hs : short b with
            | none => rfl
            | some x => rw [hs] at h; exact absurd rfl h
        · rename_i h4
          rw [if_neg h4] at h
          refine ⟨?_, rfl⟩
          unfold Rdr.digit latch at h ⊢
          dsimp only at h ⊢
          repeat' split
          all_goals first
            | rfl
            | (exfalso; revert h; repeat' split; all_goals simp_all)

/-- All that a Reader was told: what it will tell. -/
def Told (r : Rdr) (l acc : List UInt8) : Prop := ∀ m, ans Rdr.zero (l ++ m) [] = ans r m acc

theorem Told.zero : Told Rdr.zero [] [] := fun _ => rfl

theorem Told.ans {r : Rdr} {l acc : List UInt8} (h : Told r l acc) : ans Rdr.zero l [] = (acc, r.whole, 0) := by
  have := h []
  rw [List.append_nil] at this
  rw [this]; rfl

theorem Told.next {r : Rdr} {l acc : List UInt8} (h : Told r l acc) (b : UInt8) (h0 : (r.step b).2.2 = 0) : Told (r.step b).1 (l ++ [b]) (acc ++ (r.step b).2.1) := by
  intro m
  rw [List.append_assoc, h]
  exact ans_ok r (r.step b).1 b m acc (r.step b).2.1 (by rw [← h0])

theorem Told.bad {r : Rdr} {l acc : List UInt8} (h : Told r l acc) (b : UInt8) (h0 : (r.step b).2.2 ≠ 0) : (Esc.ans Rdr.zero (l ++ [b]) []).2.2 = (r.step b).2.2 := by
  rw [h]
  exact ans_bad r b [] acc _ rfl h0
end Esc
end Go.Proofs.YtnpbleaikdpjiaaDoor
