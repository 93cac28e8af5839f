/- Base64 in plain Lean: laws. No program in sight. -/
import Derived.Test.YtpdkolhnahpncaaPlain
namespace Go.Proofs.Ytpdkolhnahpncaa
namespace Base
theorem put_append : ∀ (a b : List UInt8), a.length % 3 = 0 → put (a ++ b) = put a ++ put b
  | [], b, _ => by simp [put, putGo]
  | [_], _, h => by simp at h
  | [_, _], _, h => by simp at h
  | x :: y :: z :: a, b, h => by
    have ih := put_append a b (by simp only [List.length_cons] at h; omega)
    rw [List.cons_append, List.cons_append, List.cons_append, put3, put3, ih]
    rfl

/-- What is a sign. -/
def isSign (c : UInt8) : Bool := 65 ≤ c && c ≤ 90 || 97 ≤ c && c ≤ 122 || 48 ≤ c && c ≤ 57 || c == 45 || c == 95

theorem sign_isSign : ∀ k : Fin 64, isSign (sign k.val) = true := by decide +kernel

theorem mem_emits {c : UInt8} : ∀ (n v : Nat), c ∈ emits v n → ∃ k, k < 64 ∧ c = sign k := by
  intro n
  induction n using Nat.strongRecOn with
  | _ n ih =>
    intro v h
    by_cases h6 : n < 6
    · rw [emits_lt v n h6] at h; simp at h
    · rw [emits_ge v n (by omega)] at h
      rcases List.mem_cons.1 h with h | h
      · exact ⟨_, Nat.mod_lt _ (by decide), h⟩
      · exact ih _ (by omega) v h

theorem mem_putGo {c : UInt8} : ∀ (l : List UInt8) (v n : Nat), c ∈ putGo l v n → ∃ k, k < 64 ∧ c = sign k
  | [], v, n, h => by
    simp only [putGo] at h
    split at h
    · exact ⟨_, Nat.mod_lt _ (by decide), by simpa using h⟩
    · simp at h
  | b :: l, v, n, h => by
    simp only [putGo] at h
    rcases List.mem_append.1 h with h | h
    · exact mem_emits _ _ h
    · exact mem_putGo l _ _ h

theorem put_isSign (l : List UInt8) (c : UInt8) (h : c ∈ put l) : isSign c = true := by
  obtain ⟨k, hk, rfl⟩ := mem_putGo l 0 0 h
  exact sign_isSign ⟨k, hk⟩


theorem getGo_bad : ∀ (l : List UInt8) (v n : Nat) (out : List UInt8), (∃ c ∈ l, val c < 0) → getGo l v n out = none
  | [], _, _, _, h => by obtain ⟨c, hc, _⟩ := h; cases hc
  | d :: l, v, n, out, h => by
    by_cases hd : val d < 0
    · exact getGo_none d l v n out hd
    · have h2 : ∃ c ∈ l, val c < 0 := by
        obtain ⟨c, hc, hv⟩ := h
        rcases List.mem_cons.1 hc with rfl | hc
        · exact absurd hv hd
        · exact ⟨c, hc, hv⟩
      by_cases hn : 2 ≤ n
      · rw [getGo_more d l v n out (by omega) hn]; exact getGo_bad l _ _ _ h2
      · rw [getGo_less d l v n out (by omega) (by omega)]; exact getGo_bad l _ _ _ h2

theorem get_bad (l : List UInt8) (h : ∃ c ∈ l, val c < 0) : get l = none := by
  rw [get, getGo_bad l 0 0 [] h]
end Base
end Go.Proofs.Ytpdkolhnahpncaa
