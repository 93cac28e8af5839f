/- How many sessions are live, what all hold: counted over the slots. -/
import Derived.Test.YtpeimoknmlmppaaGateE
namespace Go.Proofs.Ytpeimoknmlmppaa
open Go.RowKit
namespace Gate

theorem live_count (g : Ga) : ∀ j, j ≤ g.slots.length → (g.liveTo j).length = (g.slots.take j).countP Option.isSome := by
  intro j
  induction j with
  | zero => intro _; rfl
  | succ j ih =>
    intro hj
    rw [Ga.liveTo, List.length_append, ih (by omega), List.take_succ_eq_append_getElem (by omega), List.countP_append]
    congr 1
    rw [List.getElem?_eq_getElem (by omega)]
    cases g.slots[j] with
    | none => rfl
    | some s => rfl

theorem live_len (g : Ga) (h : g.slots.length = g.n) : g.live.length = g.slots.countP Option.isSome := by
  unfold Ga.live
  rw [live_count g g.n (by omega), List.take_of_length_le (by omega)]

theorem count_set (l : List (Option Se)) (k : Nat) (hk : k < l.length) (x : Option Se) : (l.set k x).countP Option.isSome + (if (l[k]'hk).isSome then 1 else 0) = l.countP Option.isSome + (if x.isSome then 1 else 0) := by
  induction l generalizing k with
  | nil => simp at hk
  | cons y l ih =>
    cases k with
    | zero =>
      rw [List.set_cons_zero, List.countP_cons, List.countP_cons]
      simp only [List.getElem_cons_zero]
      omega
    | succ k =>
      have := ih k (by simpa using hk)
      rw [List.set_cons_succ, List.countP_cons, List.countP_cons]
      simp only [List.getElem_cons_succ]
      omega

theorem sum_charges_set (l : List (Option Se)) (k : Nat) (hk : k < l.length) (x : Option Se) : ((l.set k x).map chargeO).sum + chargeO (l[k]'hk) = (l.map chargeO).sum + chargeO x := by
  rw [List.map_set]
  have := Purse.sum_set (l.map chargeO) k (chargeO x) (by simpa using hk)
  simpa using this

theorem find_at (g : Ga) (k : Nat) (id : Nat) (hk : id % g.n = k) (s : Se) (hs : g.slots[k]? = some (some s)) (hi : g.ids[k]? = some id) : g.find (id : Int) = some k := by
  unfold Ga.find
  rw [if_neg (by omega)]
  simp only [Int.toNat_natCast, hk, hs, hi]
  rw [if_pos trivial]

theorem find_free (g : Ga) (k : Nat) (id : Nat) (hk : id % g.n = k) (hs : g.slots[k]? = some none) : g.find (id : Int) = none := by
  unfold Ga.find
  rw [if_neg (by omega)]
  simp only [Int.toNat_natCast, hk, hs]

theorem slot_of (k n : Nat) (hk : k < n) (t : Nat) : (k + n * t) % n = k := by
  rw [Nat.add_mul_mod_self_left, Nat.mod_eq_of_lt hk]
end Gate
end Go.Proofs.Ytpeimoknmlmppaa
