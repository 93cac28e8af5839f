/- Base64 in plain Lean: laws. No program in sight. -/
import Derived.Test.YtopaadmnlghdaaaDoorPlain
namespace Go.Proofs.YtopaadmnlghdaaaDoor
namespace Base
/-- The last place below j at which the sign c stands; -1: at none. -/
def dOf (c : UInt8) : Nat → Int
  | 0 => -1
  | j + 1 => if sign j = c then (j : Int) else dOf c j

theorem dOf_all : ∀ n : Fin 256, dOf (UInt8.ofNat n.val) 64 = val (UInt8.ofNat n.val) := by decide +kernel

theorem dOf_val (c : UInt8) : dOf c 64 = val c := by
  have h := dOf_all ⟨c.toNat, c.toNat_lt⟩
  have e : UInt8.ofNat c.toNat = c := by simp
  simpa only [e] using h

theorem dOf_hit (c : UInt8) (j : Nat) (h : sign j = c) : dOf c (j + 1) = (j : Int) := by simp [dOf, h]
theorem dOf_miss (c : UInt8) (j : Nat) (h : sign j ≠ c) : dOf c (j + 1) = dOf c j := by simp [dOf, h]

theorem put_append : ∀ (a b : List UInt8), a.length % 3 = 0 → put (a ++ b) = put a ++ put b
  | [], b, _ => by simp [put, putGo]
  | [_], _, h => by simp at h
  | [_, _], _, h => by simp at h
  | x :: y :: z :: a, b, h => by
    have ih := put_append a b (by simp only [List.length_cons] at h; omega)
    rw [List.cons_append, List.cons_append, List.cons_append, put3, put3, ih]
    rfl

/-- What is a sign. -/
def isSign (c : UInt8) : Bool := 65 ≤ c && c ≤ 90 || 97 ≤ c && c ≤ 122 || 48 ≤ c && c ≤ 57 || c == 45 || c == 95

theorem sign_isSign : ∀ k : Fin 64, isSign (sign k.val) = true := by decide +kernel

theorem mem_emits {c : UInt8} : ∀ (n v : Nat), c ∈ emits v n → ∃ k, k < 64 ∧ c = sign k := by
  intro n
  induction n using Nat.strongRecOn with
  | _ n ih =>
    intro v h
    by_cases h6 : n < 6
    · rw [emits_lt v n h6] at h; simp at h
    · rw [emits_ge v n (by omega)] at h
      rcases List.mem_cons.1 h with h | h
      · exact ⟨_, Nat.mod_lt _ (by decide), h⟩
      · exact ih _ (by omega) v h

theorem mem_putGo {c : UInt8} : ∀ (l : List UInt8) (v n : Nat), c ∈ putGo l v n → ∃ k, k < 64 ∧ c = sign k
  | [], v, n, h => by
    simp only [putGo] at h
    split at h
    · exact ⟨_, Nat.mod_lt _ (by decide), by simpa using h⟩
    · simp at h
  | b :: l, v, n, h => by
    simp only [putGo] at h
    rcases List.mem_append.1 h with h | h
    · exact mem_emits _ _ h
    · exact mem_putGo l _ _ h

theorem put_isSign (l : List UInt8) (c : UInt8) (h : c ∈ put l) : isSign c = true := by
  obtain ⟨k, hk, rfl⟩ := mem_putGo l 0 0 h
  exact sign_isSign ⟨k, hk⟩


theorem getGo_bad : ∀ (l : List UInt8) (v n : Nat) (out : List UInt8), (∃ c ∈ l, val c < 0) → getGo l v n out = none
  | [], _, _, _, h => by obtain ⟨c, hc, _⟩ := h; cases hc
  | d :: l, v, n, out, h => by
    by_cases hd : val d < 0
    · exact getGo_none d l v n out hd
    · have h2 : ∃ c ∈ l, val c < 0 := by
        obtain ⟨c, hc, hv⟩ := h
        rcases List.mem_cons.1 hc with rfl | hc
        · exact absurd hv hd
        · exact ⟨c, hc, hv⟩
      by_cases hn : 2 ≤ n
      · rw [getGo_more d l v n out (by omega) hn]; exact getGo_bad l _ _ _ h2
      · rw [getGo_less d l v n out (by omega) (by omega)]; exact getGo_bad l _ _ _ h2

theorem get_bad (l : List UInt8) (h : ∃ c ∈ l, val c < 0) : get l = none := by
  rw [get, getGo_bad l 0 0 [] h]

theorem val_sign' (k : Nat) (hk : k < 64) : val (sign k) = (k : Int) := val_sign ⟨k, hk⟩

theorem getGo_sign (k : Nat) (hk : k < 64) (l : List UInt8) (v n : Nat) (out : List UInt8) (hn : 2 ≤ n) :
    getGo (sign k :: l) v n out = getGo l ((v * 64 + k) % 2 ^ (n - 2)) (n - 2) (out ++ [UInt8.ofNat ((v * 64 + k) / 2 ^ (n - 2))]) := by
  rw [getGo_more _ _ _ _ _ (by rw [val_sign' k hk]; omega) hn, val_sign' k hk, Int.toNat_natCast]

theorem getGo_sign0 (k : Nat) (hk : k < 64) (l : List UInt8) (out : List UInt8) :
    getGo (sign k :: l) 0 0 out = getGo l k 6 out := by
  rw [getGo_less _ _ _ _ _ (by rw [val_sign' k hk]; omega) (by decide), val_sign' k hk, Int.toNat_natCast, Nat.zero_mul, Nat.zero_add, Nat.zero_add, Nat.mod_eq_of_lt (show k < 2 ^ 6 from hk)]

theorem ofNat_eq (a : UInt8) (x : Nat) (h : x = a.toNat) : UInt8.ofNat x = a := by subst h; simp

theorem getGo_put : ∀ (l out : List UInt8), getGo (put l) 0 0 out = some (out ++ l)
  | [], out => by simp [put, putGo, getGo]
  | [a], out => by
    have ha := a.toNat_lt
    unfold put
    rw [putGo0]
    simp only [putGo, Nat.zero_mul, Nat.zero_add]
    rw [if_pos (by decide), getGo_sign0 _ (by omega), getGo_sign _ (by omega) _ _ _ _ (by decide)]
    simp only [getGo]
    rw [ofNat_eq a _ (by simp only [Nat.reduceSub, Nat.reducePow]; omega)]
  | [a, b], out => by
    have ha := a.toNat_lt
    have hb := b.toNat_lt
    unfold put
    rw [putGo0, putGo2]
    simp only [putGo, Nat.zero_mul, Nat.zero_add]
    rw [if_pos (by decide), getGo_sign0 _ (by omega), getGo_sign _ (by omega) _ _ _ _ (by decide), getGo_sign _ (by omega) _ _ _ _ (by decide)]
    simp only [getGo]
    rw [ofNat_eq a _ (by simp only [Nat.reduceSub, Nat.reducePow]; omega), ofNat_eq b _ (by simp only [Nat.reduceSub, Nat.reducePow]; omega)]
    simp
  | a :: b :: c :: l, out => by
    have ha := a.toNat_lt
    have hb := b.toNat_lt
    have hc := c.toNat_lt
    rw [put3, getGo_sign0 _ (by omega), getGo_sign _ (by omega) _ _ _ _ (by decide), getGo_sign _ (by omega) _ _ _ _ (by decide), getGo_sign _ (by omega) _ _ _ _ (by decide)]
    rw [ofNat_eq a _ (by simp only [Nat.reduceSub, Nat.reducePow]; omega), ofNat_eq b _ (by simp only [Nat.reduceSub, Nat.reducePow]; omega), ofNat_eq c _ (by simp only [Nat.reduceSub, Nat.reducePow]; omega)]
    have e : ∀ y : Nat, y % 2 ^ (6 - 2 - 2 - 2) = 0 := fun y => by simp [Nat.mod_one]
    rw [e]
    show getGo (put l) 0 0 _ = _
    rw [getGo_put l]
    simp

theorem get_put (l : List UInt8) : get (put l) = some l := by
  rw [get, getGo_put l []]
  simp
end Base
end Go.Proofs.YtopaadmnlghdaaaDoor
