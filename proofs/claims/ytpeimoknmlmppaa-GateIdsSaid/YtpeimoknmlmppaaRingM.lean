/- A ring of bytes as a list: putting one behind, taking some ahead. No program in sight. -/
import Derived.Test.YtpeimoknmlmppaaOwn
namespace Go.Proofs.Ytpeimoknmlmppaa
open Go.RowKit
namespace Ring

/-- The n bytes from place f on, round and round. -/
def circ (l : List UInt8) (f n : Nat) : List UInt8 := (List.range n).map fun i => l.getD ((f + i) % l.length) 0

theorem length_circ (l : List UInt8) (f n : Nat) : (circ l f n).length = n := by simp [circ]

theorem circ_zero (l : List UInt8) (f : Nat) : circ l f 0 = [] := rfl

theorem circ_push (l : List UInt8) (f n : Nat) (x : UInt8) (hn : n < l.length) : circ (l.set ((f + n) % l.length) x) f (n + 1) = circ l f n ++ [x] := by
  unfold circ
  rw [List.range_succ, List.map_append]
  congr 1
  · apply List.map_congr_left
    intro i hi
    have hi : i < n := List.mem_range.1 hi
    rw [List.length_set]
    have hne : (f + n) % l.length ≠ (f + i) % l.length := by
      intro h
      have h1 : (f + n) % l.length = (f + i) % l.length := h
      have : (n - i) % l.length = 0 := by
        have h2 := Nat.sub_mod_eq_zero_of_mod_eq h1
        rwa [show f + n - (f + i) = n - i by omega] at h2
      rw [Nat.mod_eq_of_lt (by omega)] at this
      omega
    simp [List.getD_eq_getElem?_getD, List.getElem?_set_ne hne]
  · have hlt : (f + n) % l.length < l.length := Nat.mod_lt _ (by omega)
    simp [List.getD_eq_getElem?_getD, hlt]

theorem getElem?_circ (l : List UInt8) (f n i : Nat) (hi : i < n) : (circ l f n)[i]? = some (l.getD ((f + i) % l.length) 0) := by
  simp [circ, hi]

theorem circ_drop (l : List UInt8) (f n k : Nat) (hk : k ≤ n) : circ l ((f + k) % l.length) (n - k) = (circ l f n).drop k := by
  apply List.ext_getElem?
  intro i
  rw [List.getElem?_drop]
  by_cases h : i < n - k
  · rw [getElem?_circ _ _ _ _ h, getElem?_circ _ _ _ _ (by omega), Nat.mod_add_mod, Nat.add_assoc]
  · rw [List.getElem?_eq_none (by rw [length_circ]; omega), List.getElem?_eq_none (by rw [length_circ]; omega)]

end Ring
end Go.Proofs.Ytpeimoknmlmppaa
