/- PipeBlobs: the walk: bytes are, in JSON, their signs as a text; in the other formats bytes as they are. -/
import Derived.Test.YthnbpnfaghjamaaGreatK44
namespace Go.Proofs.YthnbpnfaghjamaaGreat.pipeBlobs
open Go.RowKit Pip
open Json (Part)
theorem bytes_same {a b : ByteArray} (h : a = b) : (a.toList == b.toList) = true := by rw [h]; exact beq_self_eq_true _
set_option maxRecDepth 100000 in
set_option maxHeartbeats 8000000 in
theorem walk (a0 : ByteArray) (a1 a2 : Int) (_w0 : a0.size ≤ maxLen) (_w1 : (Lit.int .i64 a1).wf = true) (_w2 : (Lit.int .i64 a2).wf = true) (w : World) :
  Calls Tryz.prog 6 #[.string a0, .int .i64 a1, .int .i64 a2] w fun e w' => e = .returned (.bool true) ∧ Below w.heap.size w w' := by
 have HA := Lib.hid (fun u => alive18_any u)
 have BT := Lib.hid (fun (u v : World) (b : Below w.heap.size w u) (b2 : Below u.heap.size u v) => (b.trans (b2.mono b.size) : Below w.heap.size w v))
 have B1 := Lib.hid (Below.refl w.heap.size w)
 clear _w0 _w1 _w2
 have quick : (200 < a0.size ∨ a1 < 2 ∨ 3 < a1 ∨ a2 < 1 ∨ 3 < a2) → Calls Tryz.prog 6 #[.string a0, .int .i64 a1, .int .i64 a2] w fun e w' => e = .returned (.bool true) ∧ Below w.heap.size w w' := by
  intro hq
  have hk' : (200 : Int) < a0.size ∨ ((a0.size : Int) ≤ 200 ∧ a1 < 2) ∨ ((a0.size : Int) ≤ 200 ∧ 2 ≤ a1 ∧ 3 < a1) ∨ ((a0.size : Int) ≤ 200 ∧ (2 ≤ a1 ∧ a1 ≤ 3) ∧ a2 < 1) ∨ ((a0.size : Int) ≤ 200 ∧ (2 ≤ a1 ∧ a1 ≤ 3) ∧ 1 ≤ a2 ∧ 3 < a2) := by omega
  clear hq
  rcases hk' with g1 | ⟨g1, g2⟩ | ⟨g1, g2, g3⟩ | ⟨g1, ⟨g2, g3⟩, g4⟩ | ⟨g1, ⟨g2, g3⟩, g4, g5⟩
  all_goals
   go_enter Tryz.func6, Tryz.ntmps6
   go_wp2_with (fail)
   refine (HA.out _).mono ?_
   rintro e w1 ⟨rfl, b1⟩
   go_wp2
   go_ret
   exact ⟨rfl, BT.out _ _ B1.out b1⟩
 by_cases hq : (200 < a0.size ∨ a1 < 2 ∨ 3 < a1 ∨ a2 < 1 ∨ 3 < a2)
 ·exact quick hq
 clear quick
 have q0 : (a0.size : Int) ≤ 200 := by omega
 have q1 : 2 ≤ a1 := by omega
 have q2 : a1 ≤ 3 := by omega
 have q3 : 1 ≤ a2 := by omega
 have q4 : a2 ≤ 3 := by omega
 obtain ⟨X, hX1, hX2, hX3⟩ := blob_doc a1 (by omega) a0 (by omega)
 obtain ⟨Y, hY1, hY2, hY3⟩ := blob_alone a2 (by omega) a0 (by omega)
 have hBat := fun u => blob_any a1 a2 (by omega) (by omega) a0 (by omega) X hX1 Y hY1 u
 have HS1 := Lib.hid (fun (wb : Nat) (u : World) (h : Own.Has u [Own.row wb 43 [.int .i64 a1, .slice none 0 0, .bool false]]) => rstep4 a1 a0 X hX2 hX3 h)
 have HS2 := Lib.hid (fun (wb : Nat) (u : World) (h : Own.Has u [Own.row wb 43 [.int .i64 a2, .slice none 0 0, .bool false]]) => rstep4 a2 a0 Y hY2 hY3 h)
 have HBa := Lib.hid (fun u => RefBase.any a0 u (by omega))
 have HBat := Lib.hid hBat
 unfold Setup.val at HBat
 simp only at HBat
 obtain ⟨Z, hZ⟩ : ∃ Z : ByteArray, Z = ⟨(Base.put a0.data.toList).toArray⟩ := ⟨_, rfl⟩
 have zZ : Z.size ≤ 1000 := by
  rw [hZ]
  show (Base.put a0.data.toList).toArray.size ≤ 1000
  have := Base.put_length a0.data.toList
  have hl : a0.data.toList.length = a0.size := Array.length_toList
  rw [List.size_toArray]
  omega
 rw [← hZ] at HBa
 have s1 : (Y.toList == Y.toList) = true := beq_self_eq_true _
 have HY1 := Lib.hid hY1
 have HZ := Lib.hid hZ
 clear hX1 hX2 hX3 hY2 hY3 hBat hq hY1 hZ
 by_cases ht : a2 = 1
 ·subst ht
  have hcat : ((⟨#[34]⟩ : ByteArray) ++ Z) ++ ⟨#[34]⟩ = Y := by rw [HZ.out, HY1.out]; exact quoted' _
  clear q3 q4
  go_enter Tryz.func6, Tryz.ntmps6
  go_wp2_with (fail)
  refine (HA.out _).mono ?_
  rintro e w1 ⟨rfl, b1⟩
  have HB1 := Lib.hid (BT.out _ _ B1.out b1)
  have TE := Lib.hid (((Own.Turn.refl (Own.Has.nil w1)).allocRow w1.heap.size rfl 39 [.int .i64 4, .bool false, .int .u64 0, .string a0, .int .i64 0]).allocRow (w1.heap.size + 1) (by rw [Json.size_alloc]) 43 [.int .i64 a1, .slice none 0 0, .bool false])
  clear b1
  go_wp2_with (fail)
  refine (HS1.out (w1.heap.size + 1) _ (Own.Has.left (b := [Own.row w1.heap.size 39 [.int .i64 4, .bool false, .int .u64 0, .string a0, .int .i64 0]]) TE.out.has)).mono ?_
  rintro e w2 ⟨rfl, t2⟩
  have T2 := Lib.hid (show Own.Turn [] ([Own.row (w1.heap.size + 1) 43 [.int .i64 a1, .slice none 0 0, .bool true]] ++ [Own.row w1.heap.size 39 [.int .i64 4, .bool false, .int .u64 0, .string a0, .int .i64 0]]) w1 w2 from TE.out.trans (t2.frame (r := [Own.row w1.heap.size 39 [.int .i64 4, .bool false, .int .u64 0, .string a0, .int .i64 0]]) TE.out.has))
  clear t2
  have T3 := Lib.hid (T2.out.allocRow w2.heap.size rfl 43 [.int .i64 1, .slice none 0 0, .bool false])
  have e0 := T3.out.has.cell w1.heap.size 39 [.int .i64 4, .bool false, .int .u64 0, .string a0, .int .i64 0] (by simp) 0 _ rfl
  have e1 := T3.out.has.cell w1.heap.size 39 [.int .i64 4, .bool false, .int .u64 0, .string a0, .int .i64 0] (by simp) 1 _ rfl
  have e2 := T3.out.has.cell w1.heap.size 39 [.int .i64 4, .bool false, .int .u64 0, .string a0, .int .i64 0] (by simp) 2 _ rfl
  have e3 := T3.out.has.cell w1.heap.size 39 [.int .i64 4, .bool false, .int .u64 0, .string a0, .int .i64 0] (by simp) 3 _ rfl
  have e4 := T3.out.has.cell w1.heap.size 39 [.int .i64 4, .bool false, .int .u64 0, .string a0, .int .i64 0] (by simp) 4 _ rfl
  go_wp2_with (fail)
  refine (HS2.out w2.heap.size _ (Own.Has.left (b := [Own.row (w1.heap.size + 1) 43 [.int .i64 a1, .slice none 0 0, .bool true]] ++ [Own.row w1.heap.size 39 [.int .i64 4, .bool false, .int .u64 0, .string a0, .int .i64 0]]) T3.out.has)).mono ?_
  rintro e w3 ⟨rfl, t3⟩
  have T4 := Lib.hid (show Own.Turn [] ([Own.row w2.heap.size 43 [.int .i64 1, .slice none 0 0, .bool true]] ++ ([Own.row (w1.heap.size + 1) 43 [.int .i64 a1, .slice none 0 0, .bool true]] ++ [Own.row w1.heap.size 39 [.int .i64 4, .bool false, .int .u64 0, .string a0, .int .i64 0]])) w1 w3 from T3.out.trans (t3.frame (r := [Own.row (w1.heap.size + 1) 43 [.int .i64 a1, .slice none 0 0, .bool true]] ++ [Own.row w1.heap.size 39 [.int .i64 4, .bool false, .int .u64 0, .string a0, .int .i64 0]]) T3.out.has))
  have HB3 := Lib.hid (BT.out _ _ HB1.out (T4.out.below (B := w1.heap.size) (fun x hx => by cases hx) (Nat.le_refl _)))
  clear t3 e0 e1 e2 e3 e4
  go_wp2_with (fail)
  refine (HBa.out _).mono ?_
  rintro e w4 ⟨rfl, rfl⟩
  go_wp2_with (fail)
  refine (HBat.out _).mono ?_
  rintro e w5 ⟨rfl, b5⟩
  go_wp2
  go_ret
  exact ⟨rfl, BT.out _ _ HB3.out b5⟩
 ·have htb : (a2 == 1) = false := by rw [beq_eq_false_iff_ne]; exact ht
  go_enter Tryz.func6, Tryz.ntmps6
  go_wp2_with (fail)
  refine (HA.out _).mono ?_
  rintro e w1 ⟨rfl, b1⟩
  have HB1 := Lib.hid (BT.out _ _ B1.out b1)
  have TE := Lib.hid (((Own.Turn.refl (Own.Has.nil w1)).allocRow w1.heap.size rfl 39 [.int .i64 4, .bool false, .int .u64 0, .string a0, .int .i64 0]).allocRow (w1.heap.size + 1) (by rw [Json.size_alloc]) 43 [.int .i64 a1, .slice none 0 0, .bool false])
  clear b1
  go_wp2_with (fail)
  refine (HS1.out (w1.heap.size + 1) _ (Own.Has.left (b := [Own.row w1.heap.size 39 [.int .i64 4, .bool false, .int .u64 0, .string a0, .int .i64 0]]) TE.out.has)).mono ?_
  rintro e w2 ⟨rfl, t2⟩
  have T2 := Lib.hid (show Own.Turn [] ([Own.row (w1.heap.size + 1) 43 [.int .i64 a1, .slice none 0 0, .bool true]] ++ [Own.row w1.heap.size 39 [.int .i64 4, .bool false, .int .u64 0, .string a0, .int .i64 0]]) w1 w2 from TE.out.trans (t2.frame (r := [Own.row w1.heap.size 39 [.int .i64 4, .bool false, .int .u64 0, .string a0, .int .i64 0]]) TE.out.has))
  clear t2
  have T3 := Lib.hid (T2.out.allocRow w2.heap.size rfl 43 [.int .i64 a2, .slice none 0 0, .bool false])
  have e0 := T3.out.has.cell w1.heap.size 39 [.int .i64 4, .bool false, .int .u64 0, .string a0, .int .i64 0] (by simp) 0 _ rfl
  have e1 := T3.out.has.cell w1.heap.size 39 [.int .i64 4, .bool false, .int .u64 0, .string a0, .int .i64 0] (by simp) 1 _ rfl
  have e2 := T3.out.has.cell w1.heap.size 39 [.int .i64 4, .bool false, .int .u64 0, .string a0, .int .i64 0] (by simp) 2 _ rfl
  have e3 := T3.out.has.cell w1.heap.size 39 [.int .i64 4, .bool false, .int .u64 0, .string a0, .int .i64 0] (by simp) 3 _ rfl
  have e4 := T3.out.has.cell w1.heap.size 39 [.int .i64 4, .bool false, .int .u64 0, .string a0, .int .i64 0] (by simp) 4 _ rfl
  go_wp2_with (fail)
  refine (HS2.out w2.heap.size _ (Own.Has.left (b := [Own.row (w1.heap.size + 1) 43 [.int .i64 a1, .slice none 0 0, .bool true]] ++ [Own.row w1.heap.size 39 [.int .i64 4, .bool false, .int .u64 0, .string a0, .int .i64 0]]) T3.out.has)).mono ?_
  rintro e w3 ⟨rfl, t3⟩
  have T4 := Lib.hid (show Own.Turn [] ([Own.row w2.heap.size 43 [.int .i64 a2, .slice none 0 0, .bool true]] ++ ([Own.row (w1.heap.size + 1) 43 [.int .i64 a1, .slice none 0 0, .bool true]] ++ [Own.row w1.heap.size 39 [.int .i64 4, .bool false, .int .u64 0, .string a0, .int .i64 0]])) w1 w3 from T3.out.trans (t3.frame (r := [Own.row (w1.heap.size + 1) 43 [.int .i64 a1, .slice none 0 0, .bool true]] ++ [Own.row w1.heap.size 39 [.int .i64 4, .bool false, .int .u64 0, .string a0, .int .i64 0]]) T3.out.has))
  have HB3 := Lib.hid (BT.out _ _ HB1.out (T4.out.below (B := w1.heap.size) (fun x hx => by cases hx) (Nat.le_refl _)))
  clear t3 e0 e1 e2 e3 e4
  go_wp2_with (fail)
  refine (HBat.out _).mono ?_
  rintro e w5 ⟨rfl, b5⟩
  go_wp2
  go_ret
  exact ⟨rfl, BT.out _ _ HB3.out b5⟩
end Go.Proofs.YthnbpnfaghjamaaGreat.pipeBlobs
