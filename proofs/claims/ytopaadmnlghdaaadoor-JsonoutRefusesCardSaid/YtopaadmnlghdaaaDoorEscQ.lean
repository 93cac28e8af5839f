/- escape.Write in plain Lean: byte by byte. No program in sight. -/
import Derived.Below
import Derived.Lib.Bytealg
import Derived.Laws.RangeAny
namespace Go.Proofs.YtopaadmnlghdaaaDoor
namespace Esc

def digitsSmall : List UInt8 := [48, 49, 50, 51, 52, 53, 54, 55, 56, 57, 97, 98, 99, 100, 101, 102]
def hexd (k : Nat) : UInt8 := digitsSmall.getD k 0

/-- The letter of a byte that has a short escape. -/
def letter (b : UInt8) : Option UInt8 :=
  if b = 34 then some 34 else if b = 92 then some 92 else if b = 8 then some 98 else if b = 12 then some 102
  else if b = 10 then some 110 else if b = 13 then some 114 else if b = 9 then some 116 else none

def esc1 (b : UInt8) : List UInt8 :=
  match letter b with
  | some x => [92, x]
  | none => if b.toNat < 32 then [92, 117, 48, 48, hexd (b.toNat / 16), hexd (b.toNat % 16)] else [b]

def write (l : List UInt8) : List UInt8 := l.flatMap esc1

theorem letter_high (b : UInt8) (h : 128 ≤ b.toNat) : letter b = none := by
  have hn : ∀ c : UInt8, c.toNat < 128 → ¬ b = c := by rintro c hc rfl; omega
  unfold letter
  rw [if_neg (hn _ (by decide)), if_neg (hn _ (by decide)), if_neg (hn _ (by decide)), if_neg (hn _ (by decide)), if_neg (hn _ (by decide)), if_neg (hn _ (by decide)), if_neg (hn _ (by decide))]

theorem esc1_high (b : UInt8) (h : 128 ≤ b.toNat) : esc1 b = [b] := by
  rw [esc1, letter_high b h]
  simp only []
  rw [if_neg (by omega)]

theorem write_high : ∀ l : List UInt8, (∀ b ∈ l, 128 ≤ b.toNat) → write l = l
  | [], _ => rfl
  | b :: l, h => by
    have ih := write_high l fun c hc => h c (by simp [hc])
    unfold write at ih ⊢
    rw [List.flatMap_cons, esc1_high b (h b (by simp)), ih]
    rfl

theorem write_append (a b : List UInt8) : write (a ++ b) = write a ++ write b := List.flatMap_append

theorem esc1_length (b : UInt8) : (esc1 b).length ≤ 6 := by
  unfold esc1
  split
  · simp
  · split <;> simp

/-- The bytes of a rune from 128 on, or of none, are from 128 on; they are there. -/
theorem decode_bytes (s : ByteArray) (pos : Nat) (h : pos < s.size) (ha : 128 ≤ (s[pos]'h).toNat) :
    pos + (Utf8.decode s pos).2 ≤ s.size ∧ ∀ j (hj : pos + j < s.size), j < (Utf8.decode s pos).2 → 128 ≤ (s[pos + j]'hj).toNat := by
  have hg : ∀ k (hk : pos + k < s.size), s.get! (pos + k) = s[pos + k]'hk := by
    intro k hk
    show s.get! (pos + k) = _
    simp [ByteArray.get!, getElem!_pos, hk]
    rfl
  have h0 : s.get! (pos + 0) = s[pos]'h := hg 0 h
  have one : pos + 1 ≤ s.size ∧ ∀ j (hj : pos + j < s.size), j < 1 → 128 ≤ (s[pos + j]'hj).toNat := by
    refine ⟨by omega, fun j hj h1 => ?_⟩
    obtain rfl : j = 0 := by omega
    exact ha
  have cont : ∀ k, (decide (pos + k < s.size) && (s.get! (pos + k)).toNat / 64 == 2) = true → pos + k < s.size ∧ ∀ hk : pos + k < s.size, 128 ≤ (s[pos + k]'hk).toNat := by
    intro k hk
    rw [Bool.and_eq_true, decide_eq_true_eq, beq_iff_eq] at hk
    refine ⟨hk.1, fun h2 => ?_⟩
    rw [hg k h2] at hk
    omega
  unfold Utf8.decode
  simp only [h0]
  rw [if_neg (by omega)]
  split
  · rename_i hc
    rw [Bool.and_eq_true] at hc
    obtain ⟨c1, d1⟩ := cont 1 hc.2
    split
    · refine ⟨by dsimp only; omega, fun j hj hlt => ?_⟩
      rcases (show j = 0 ∨ j = 1 by dsimp only at hlt; omega) with rfl | rfl
      · exact ha
      · exact d1 hj
    · exact one
  · split
    · rename_i hc
      rw [Bool.and_eq_true, Bool.and_eq_true] at hc
      obtain ⟨c1, d1⟩ := cont 1 hc.1.2
      obtain ⟨c2, d2⟩ := cont 2 hc.2
      split
      · refine ⟨by dsimp only; omega, fun j hj hlt => ?_⟩
        rcases (show j = 0 ∨ j = 1 ∨ j = 2 by dsimp only at hlt; omega) with rfl | rfl | rfl
        · exact ha
        · exact d1 hj
        · exact d2 hj
      · exact one
    · split
      · rename_i hc
        rw [Bool.and_eq_true, Bool.and_eq_true, Bool.and_eq_true] at hc
        obtain ⟨c1, d1⟩ := cont 1 hc.1.1.2
        obtain ⟨c2, d2⟩ := cont 2 hc.1.2
        obtain ⟨c3, d3⟩ := cont 3 hc.2
        split
        · refine ⟨by dsimp only; omega, fun j hj hlt => ?_⟩
          rcases (show j = 0 ∨ j = 1 ∨ j = 2 ∨ j = 3 by dsimp only at hlt; omega) with rfl | rfl | rfl | rfl
          · exact ha
          · exact d1 hj
          · exact d2 hj
          · exact d3 hj
        · exact one
      · exact one
end Esc
end Go.Proofs.YtopaadmnlghdaaaDoor
