/- truchmanref1.Rune: a rune's bytes, or none. -/
import Derived.Test.YtnpbleaikdpjiaaDoorEscP
import Derived.Test.YtnpbleaikdpjiaaDoorConv
import Derived.Below
import Derived.OpenShut
namespace Go.Proofs.YtnpbleaikdpjiaaDoor
open Go.RowKit
namespace Ref

theorem ret_str {s t : ByteArray} (h : s = t) : Ending.returned (.string s) = .returned (.string t) := by rw [h]

set_option maxHeartbeats 1000000 in
theorem rune_none (x : Int) (w : World) (h : x < 0 ∨ 1114111 < x ∨ (55296 ≤ x ∧ x ≤ 57343)) :
    Calls Tryd.prog 17 #[.int .i64 x] w fun e w' => e = .returned (.string ⟨#[]⟩) ∧ Below w.heap.size w w' := by
  rcases h with h | h | ⟨h1, h2⟩
  · go_enter Tryd.func17, Tryd.ntmps17
    go_wp2
    go_ret
    exact ⟨rfl, Below.refl _ _⟩
  · go_enter Tryd.func17, Tryd.ntmps17
    go_wp2
    all_goals go_ret
    all_goals exact ⟨rfl, Below.refl _ _⟩
  · go_enter Tryd.func17, Tryd.ntmps17
    go_wp2
    all_goals go_ret
    all_goals exact ⟨rfl, Below.refl _ _⟩

theorem enc_valid (k : Nat) (h1 : k ≤ 1114111) (h2 : k < 55296 ∨ 57343 < k) : Utf8.valid (k : Int) = true := by
  unfold Utf8.valid
  simp only [Bool.or_eq_true, Bool.and_eq_true, decide_eq_true_eq]
  omega

theorem rune_eq (k : Nat) (h1 : k ≤ 1114111) (h2 : k < 55296 ∨ 57343 < k) : (⟨(Esc.rune (k : Int)).toArray⟩ : ByteArray) = Utf8.encode (k : Int) := by
  have h : Esc.rune (k : Int) = (Utf8.encode (k : Int)).data.toList := if_neg (by omega)
  exact (congrArg (fun l : List UInt8 => (⟨l.toArray⟩ : ByteArray)) h).trans (ByteArray.ext (Array.toArray_toList))

theorem nums (l : List Int) (m : List Nat) (h : l.map Int.toNat = m) : strOfNums l = ⟨(m.map UInt8.ofNat).toArray⟩ := by
  unfold strOfNums
  rw [← h, List.map_map]
  rfl

theorem p1 (k : Nat) (h : k < 128) : strOfNums [(k : Int)] = ⟨(Esc.rune (k : Int)).toArray⟩ := by
  rw [rune_eq k (by omega) (by omega)]
  unfold Utf8.encode
  rw [enc_valid k (by omega) (by omega)]
  simp only [if_true, Int.toNat_natCast]
  rw [if_pos (by omega), nums _ [k] rfl]
  rfl
theorem p2 (k : Nat) (h0 : 128 ≤ k) (h : k < 2048) : strOfNums [192 + (k : Int) / 64, 128 + (k : Int) % 64] = ⟨(Esc.rune (k : Int)).toArray⟩ := by
  rw [rune_eq k (by omega) (by omega)]
  unfold Utf8.encode
  rw [enc_valid k (by omega) (by omega)]
  simp only [if_true, Int.toNat_natCast]
  rw [if_neg (by omega), if_pos (by omega), nums _ [192 + k / 64, 128 + k % 64] (by simp only [List.map_cons, List.map_nil, List.cons.injEq, and_true]; omega)]
  rfl
theorem p3 (k : Nat) (h0 : 2048 ≤ k) (h : k < 65536) (h2 : k < 55296 ∨ 57343 < k) : strOfNums [224 + (k : Int) / 4096, 128 + (k : Int) / 64 % 64, 128 + (k : Int) % 64] = ⟨(Esc.rune (k : Int)).toArray⟩ := by
  rw [rune_eq k (by omega) h2]
  unfold Utf8.encode
  rw [enc_valid k (by omega) h2]
  simp only [if_true, Int.toNat_natCast]
  rw [if_neg (by omega), if_neg (by omega), if_pos (by omega), nums _ [224 + k / 4096, 128 + k / 64 % 64, 128 + k % 64] (by simp only [List.map_cons, List.map_nil, List.cons.injEq, and_true]; omega)]
  rfl
theorem p4 (k : Nat) (h0 : 65536 ≤ k) (h : k ≤ 1114111) : strOfNums [240 + (k : Int) / 262144, 128 + (k : Int) / 4096 % 64, 128 + (k : Int) / 64 % 64, 128 + (k : Int) % 64] = ⟨(Esc.rune (k : Int)).toArray⟩ := by
  rw [rune_eq k (by omega) (by omega)]
  unfold Utf8.encode
  rw [enc_valid k (by omega) (by omega)]
  simp only [if_true, Int.toNat_natCast]
  rw [if_neg (by omega), if_neg (by omega), if_neg (by omega), nums _ [240 + k / 262144, 128 + k / 4096 % 64, 128 + k / 64 % 64, 128 + k % 64] (by simp only [List.map_cons, List.map_nil, List.cons.injEq, and_true]; omega)]
  rfl

set_option maxHeartbeats 1000000 in
theorem rune_some (x : Int) (w : World) (h0 : 0 ≤ x) (h1 : x ≤ 1114111) (h2 : x < 55296 ∨ 57343 < x) :
    Calls Tryd.prog 17 #[.int .i64 x] w fun e w' => e = .returned (.string ⟨(Esc.rune x).toArray⟩) ∧ Below w.heap.size w w' := by
  have c1 := Conv.one
  have c2 := Conv.two
  have c3 := Conv.three
  have c4 := Conv.four
  by_cases g1 : x < 128
  · clear h2
    go_enter Tryd.func17, Tryd.ntmps17
    go_wp2
    go_ret
    refine ⟨ret_str ?_, (Below.refl _ _).alloc (Nat.le_refl _) _⟩
    (obtain ⟨k, rfl⟩ : ∃ k : Nat, x = k := ⟨x.toNat, by omega⟩)
    exact p1 k (by omega)
  by_cases g2 : x < 2048
  · clear h2
    go_enter Tryd.func17, Tryd.ntmps17
    go_wp2
    go_ret
    refine ⟨ret_str ?_, (Below.refl _ _).alloc (Nat.le_refl _) _⟩
    (obtain ⟨k, rfl⟩ : ∃ k : Nat, x = k := ⟨x.toNat, by omega⟩)
    exact p2 k (by omega) (by omega)
  by_cases g3 : x < 65536
  · rcases h2 with h2 | h2
    all_goals go_enter Tryd.func17, Tryd.ntmps17
    all_goals go_wp2
    all_goals go_ret
    all_goals refine ⟨ret_str ?_, (Below.refl _ _).alloc (Nat.le_refl _) _⟩
    all_goals (obtain ⟨k, rfl⟩ : ∃ k : Nat, x = k := ⟨x.toNat, by omega⟩)
    all_goals exact p3 k (by omega) (by omega) (by omega)
  · clear h2
    go_enter Tryd.func17, Tryd.ntmps17
    go_wp2
    go_ret
    refine ⟨ret_str ?_, (Below.refl _ _).alloc (Nat.le_refl _) _⟩
    (obtain ⟨k, rfl⟩ : ∃ k : Nat, x = k := ⟨x.toNat, by omega⟩)
    exact p4 k (by omega) (by omega)

theorem rune_any (x : Int) (w : World) :
    Calls Tryd.prog 17 #[.int .i64 x] w fun e w' => e = .returned (.string ⟨(Esc.rune x).toArray⟩) ∧ Below w.heap.size w w' := by
  by_cases h : x < 0 ∨ 1114111 < x ∨ (55296 ≤ x ∧ x ≤ 57343)
  · rw [show Esc.rune x = [] by unfold Esc.rune; rw [if_pos h]]
    exact rune_none x w h
  · exact rune_some x w (by omega) (by omega) (by omega)
end Ref
end Go.Proofs.YtnpbleaikdpjiaaDoor
