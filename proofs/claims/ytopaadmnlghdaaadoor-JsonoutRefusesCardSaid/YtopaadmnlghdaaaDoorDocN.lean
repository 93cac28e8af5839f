/- truchmanbook.Doc's 'next': the numbers one by one. -/
import Derived.Test.YtopaadmnlghdaaaDoorDocT
namespace Go.Proofs.YtopaadmnlghdaaaDoor
open Go.RowKit
namespace Json

theorem and16 (z : Int) : bits .and .i64 z 65535 = z % 65536 := by
  show IntKind.i64.wrap ((BitVec.ofInt 64 z &&& BitVec.ofInt 64 65535).toNat : Int) = _
  rw [BitVec.toNat_and]
  have h2 : (BitVec.ofInt 64 65535).toNat = 2 ^ 16 - 1 := by decide
  rw [h2, Nat.and_two_pow_sub_one_eq_mod, BitVec.toNat_ofInt, IntKind.wrap_i64]
  omega

/-- x & 8. -/
theorem and8 (x : Nat) (hx : x < 65536) : bits .and .i64 (x : Int) 8 = ((x / 8 % 2 * 8 : Nat) : Int) := by
  show IntKind.i64.wrap ((BitVec.ofInt 64 (x : Int) &&& BitVec.ofInt 64 8).toNat : Int) = _
  rw [BitVec.toNat_and]
  have h1 : (BitVec.ofInt 64 (x : Int)).toNat = x := by
    rw [BitVec.ofInt_natCast, BitVec.toNat_ofNat]; exact Nat.mod_eq_of_lt (by omega)
  have h2 : (BitVec.ofInt 64 8).toNat = 8 := by decide
  rw [h1, h2, IntKind.wrap_i64]
  have a1 : (x &&& 8) / 8 = x / 8 % 2 := by
    have e : (x &&& 8) >>> 3 = x >>> 3 &&& 8 >>> 3 := Nat.shiftRight_and_distrib
    rw [Nat.shiftRight_eq_div_pow, Nat.shiftRight_eq_div_pow] at e
    rw [show (x &&& 8) / 8 = (x &&& 8) / 2 ^ 3 from rfl, e]
    exact Nat.and_one_is_mod (x / 8)
  have a2 : (x &&& 8) % 8 = 0 := by
    have e := Nat.and_mod_two_pow (a := x) (b := 8) (n := 3)
    rw [show (x &&& 8) % 8 = (x &&& 8) % 2 ^ 3 from rfl, e]
    simp
  omega

/-- The value v is a slice that reads as these numbers; they lie below B. -/
def Nums (w : World) (v : Value) (l : List Int) (B : Nat) : Prop :=
  ∃ a c, v = .slice a l.length c ∧ ∀ j z, l[j]? = some z → ∃ b off, a = some ⟨b, off, none⟩ ∧ b < B ∧ w.cell? ⟨b, off + j, none⟩ = some (.int .i64 z)

theorem Nums.below {w w' : World} {v : Value} {l : List Int} {B : Nat} (h : Nums w v l B) (b : Below B w w') : Nums w' v l B := by
  obtain ⟨a, c, rfl, hc⟩ := h
  refine ⟨a, c, rfl, fun j z hj => ?_⟩
  obtain ⟨bb, off, ha, hB, h1⟩ := hc j z hj
  refine ⟨bb, off, ha, hB, ?_⟩
  rw [b.cell hB]
  exact h1

/-- The memory of 'next': how many are taken; the numbers. -/
abbrev nextHeap (ab lb : Nat) (v : Value) (k : Nat) : Own.Heap := [Own.row ab 3 [.int .i64 (k : Int)], Own.row lb 47 [v]]

set_option maxRecDepth 100000 in
set_option maxHeartbeats 1000000 in
theorem next_any {ab lb B : Nat} {v : Value} {k : Nat} {w : World} (l : List Int) (hw : Own.Has w (nextHeap ab lb v k)) (hn : Nums w v l B) (hB : B ≤ ab) (hk : k ≤ 1000000) :
    Calls Tryd.prog 31 #[.pointer (some ⟨ab, 0, none⟩), .pointer (some ⟨lb, 0, none⟩)] w fun e w' => e = .returned (.int .i64 (num l k : Int)) ∧ Own.Turn (nextHeap ab lb v k) (nextHeap ab lb v (k + 1)) w w' := by
  have t1 := Lib.hid ((Own.Turn.refl hw).set 0 (.int .i64 ((k : Int) + 1)) (by simp))
  have c0 := hw.cell ab _ _ (List.mem_cons_self ..) 0 _ rfl
  have f0 := hw.free ab _ _ (List.mem_cons_self ..) 0
  have hz := and16
  obtain ⟨a, c, rfl, hc⟩ := hn
  have d0 := hw.cell lb _ _ (List.mem_cons_of_mem _ (List.mem_cons_self ..)) 0 _ rfl
  have hnd := hw.once
  have hne : ¬ ab = lb := by intro h; simp [Own.blocks, h] at hnd
  have hne' : ¬ lb = ab := fun h => hne h.symm
  have HC := Lib.hid hc
  have HW := Lib.hid hw
  obtain ⟨n, hnn⟩ : ∃ n, n = l.length := ⟨_, rfl⟩
  rw [← hnn] at d0
  have HN := Lib.hid hnn
  clear hc hw hnd hnn
  by_cases hkn : k < n
  · obtain ⟨b, off, rfl, hbB, hx⟩ := HC.out k _ (List.getElem?_eq_getElem (by have := HN.out; omega))
    have hnum := Lib.hid (show (num l k : Int) = l[k]'(by have := HN.out; omega) % 65536 by
      unfold num
      rw [List.getD_eq_getElem?_getD, List.getElem?_eq_getElem (by have := HN.out; omega)]
      simp only [Option.getD_some]
      omega)
    generalize l[k]'_ = z at hx hnum
    have hlt : (k : Int) < (n : Int) := by omega
    have hnb : ¬ b = ab := by omega
    have hnb' : ¬ ab = b := by omega
    have hz16 := hz z
    clear hz
    go_enter Tryd.func31, Tryd.ntmps31
    go_wp2_with (fail)
    go_ret
    exact ⟨Own.ret_int hnum.out.symm, t1.out⟩
  · have hnum := Lib.hid (show num l k = 0 by
      unfold num
      rw [List.getD_eq_getElem?_getD, List.getElem?_eq_none (by have := HN.out; omega)]
      rfl)
    have hge : (n : Int) ≤ (k : Int) := by omega
    clear hz
    go_enter Tryd.func31, Tryd.ntmps31
    go_wp2_with (fail)
    go_ret
    rw [hnum.out]
    exact ⟨rfl, t1.out⟩
end Json
end Go.Proofs.YtopaadmnlghdaaaDoor
