/- Texts of the walk, joined. -/
import Derived.Laws.Bits64
import Derived.Laws.BitsLemmas
import Derived.WalkKit
set_option maxRecDepth 100000
set_option maxHeartbeats 8000000
namespace Go.Proofs.Tryz end Go.Proofs.Tryz
namespace Go.Proofs.YtcjflgmcjfcodaaGreat
open Go.Proofs.Tryz
section
open Go.RowKit
namespace Int64
theorem small (j : Nat) (hj : j ≤ 62) : ∀ n : Int, 0 ≤ n → n < 2 ^ j → IntKind.i64.wrap n = n := by
 intro n h0 h1
 have : (2 : Int) ^ j ≤ 2 ^ 62 := by
  exact_mod_cast Nat.pow_le_pow_right (by decide) hj
 rw [IntKind.wrap_i64]
 omega
theorem aMv (v c : Nat) (hv : v < 1048576) (hc : c < 256) : bits .or .i64 ((v : Int) * 256) (c : Int) = ((v * 256 + c : Nat) : Int) := by
 rw [bits_join .i64 40 (by decide) (small 40 (by decide)) 8 _ _ (by omega) (by omega) (by omega) (by omega) (by omega) (by omega)]
 rw [Int.natCast_add, Int.natCast_mul]
 rfl
theorem uH (x : Nat) (hx : x < 1099511627776) : bits .and .i64 (x : Int) 63 = ((x % 64 : Nat) : Int) := by
 have := bits_mask .i64 40 (by decide) (small 40 (by decide)) 6 (by decide) (x : Int) (by omega) (by omega)
 simpa using this
theorem vG (x i : Nat) (hi : i ≤ 40) (hx : x < 1099511627776) : bits .and .i64 (x : Int) ((2 ^ i - 1 : Nat) : Int) = ((x % 2 ^ i : Nat) : Int) := by
 have := bits_mask .i64 40 (by decide) (small 40 (by decide)) i hi (x : Int) (by omega) (by omega)
 have e : ((2 ^ i - 1 : Nat) : Int) = (2 : Int) ^ i - 1 := by
  rw [Int.natCast_sub (Nat.two_pow_pos i)]; simp
 rw [e, this]
 simp
theorem kN (x c : UInt8) (n : Int) (hn : n = c.toNat) : ((x.toNat : Int) == n) = (x == c) := by
 subst hn
 rw [Bool.eq_iff_iff, beq_iff_eq, beq_iff_eq]
 constructor
 ·intro h; exact UInt8.toNat_inj.1 (by omega)
 ·rintro rfl; rfl
theorem or4 (v c : Nat) (hv : v < 1048576) (hc : c < 16) : bits .or .i64 ((v : Int) * 16) (c : Int) = ((v * 16 + c : Nat) : Int) := by
 rw [bits_join .i64 40 (by decide) (small 40 (by decide)) 4 _ _ (by omega) (by omega) (by omega) (by omega) (by omega) (by omega)]
 rw [Int.natCast_add, Int.natCast_mul]
 rfl
end Int64
end
end Go.Proofs.YtcjflgmcjfcodaaGreat
