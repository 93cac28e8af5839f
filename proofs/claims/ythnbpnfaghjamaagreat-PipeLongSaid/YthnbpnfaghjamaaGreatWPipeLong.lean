/- PipeLong: the walk: a text may be as long as it may; a longer one is told so, in each format, and is not written. -/
import Derived.Test.YthnbpnfaghjamaaGreatZXtra
import Derived.Test.YthnbpnfaghjamaaGreatZLgT
namespace Go.Proofs.YthnbpnfaghjamaaGreat.pipeLong
open Go.RowKit Pip
open Json (Part)
set_option maxRecDepth 100000 in
set_option maxHeartbeats 8000000 in
theorem walk (a0 a1 a2 : Int) (_w0 : (Lit.int .i64 a0).wf = true) (_w1 : (Lit.int .i64 a1).wf = true) (_w2 : (Lit.int .i64 a2).wf = true) (w : World) :
  Calls Tryz.prog 7 #[.int .i64 a0, .int .i64 a1, .int .i64 a2] w fun e w' => e = .returned (.bool true) ∧ Below w.heap.size w w' := by
 have HA := Lib.hid (fun u => alive18_any u)
 have BT := Lib.hid (fun (u v : World) (b : Below w.heap.size w u) (b2 : Below u.heap.size u v) => (b.trans (b2.mono b.size) : Below w.heap.size w v))
 have B1 := Lib.hid (Below.refl w.heap.size w)
 clear _w0 _w1 _w2
 have quick : (a0 < 0 ∨ 400 < a0 ∨ a1 < 1 ∨ 3 < a1 ∨ a2 < 1 ∨ 3 < a2) → Calls Tryz.prog 7 #[.int .i64 a0, .int .i64 a1, .int .i64 a2] w fun e w' => e = .returned (.bool true) ∧ Below w.heap.size w w' := by
  intro hq
  have hk' : a0 < 0 ∨ (0 ≤ a0 ∧ 400 < a0) ∨ ((0 ≤ a0 ∧ a0 ≤ 400) ∧ a1 < 1) ∨ ((0 ≤ a0 ∧ a0 ≤ 400) ∧ 1 ≤ a1 ∧ 3 < a1) ∨ ((0 ≤ a0 ∧ a0 ≤ 400) ∧ (1 ≤ a1 ∧ a1 ≤ 3) ∧ a2 < 1) ∨ ((0 ≤ a0 ∧ a0 ≤ 400) ∧ (1 ≤ a1 ∧ a1 ≤ 3) ∧ 1 ≤ a2 ∧ 3 < a2) := by omega
  clear hq
  rcases hk' with g1 | ⟨g1, g2⟩ | ⟨⟨g1, g2⟩, g3⟩ | ⟨⟨g1, g2⟩, g3, g4⟩ | ⟨⟨g1, g2⟩, ⟨g3, g4⟩, g5⟩ | ⟨⟨g1, g2⟩, ⟨g3, g4⟩, g5, g6⟩
  all_goals
   go_enter Tryz.func7, Tryz.ntmps7
   go_wp2_with (fail)
   refine (HA.out _).mono ?_
   rintro e w1 ⟨rfl, b1⟩
   go_wp2
   go_ret
   exact ⟨rfl, BT.out _ _ B1.out b1⟩
 by_cases hq : (a0 < 0 ∨ 400 < a0 ∨ a1 < 1 ∨ 3 < a1 ∨ a2 < 1 ∨ 3 < a2)
 ·exact quick hq
 clear quick
 obtain ⟨n, rfl⟩ : ∃ n : Nat, a0 = (n : Int) := ⟨a0.toNat, by omega⟩
 have q0 : (0 : Int) ≤ n := by omega
 have q00 : (n : Int) ≤ 400 := by omega
 have q1 : 1 ≤ a1 := by omega
 have q2 : a1 ≤ 3 := by omega
 have q3 : 1 ≤ a2 := by omega
 have q4 : a2 ≤ 3 := by omega
 have hn4 : n ≤ 400 := by omega
 obtain ⟨X, hX1, hX2, hX3⟩ := long_doc a1 (by omega) n hn4
 obtain ⟨Y, hY1, hY2, hY3⟩ := long_doc a2 (by omega) n hn4
 have hBat := fun u => long_any a1 a2 (by omega) (by omega) n hn4 X hX1 u
 rw [← hY1] at hBat
 have HS1 := Lib.hid (fun (wb : Nat) (u : World) (h : Own.Has u [Own.row wb 43 [.int .i64 a1, .slice none 0 0, .bool false]]) => rstep3 a1 (zb n) X hX2 hX3 h)
 have HS2 := Lib.hid (fun (wb : Nat) (u : World) (h : Own.Has u [Own.row wb 43 [.int .i64 a2, .slice none 0 0, .bool false]]) => rstep3 a2 (zb n) Y hY2 hY3 h)
 have hmk := make_zeros n (by omega)
 have HCV := Lib.hid (fun u => zeros_cv n (by omega) u)
 generalize zb n = Z at HS1 HS2 HCV
 generalize (u8s (zs n)).toArray = ZC at hmk HCV
 have s1 : (Y.toList == Y.toList) = true := beq_self_eq_true _
 clear hX1 hX2 hX3 hY2 hY3 hY1 hq
 by_cases hn : n ≤ 200
 ·rw [if_pos hn, if_pos hn] at hBat
  have HBat := Lib.hid hBat
  unfold Setup.val at HBat
  simp only at HBat
  have qn : ¬ (200 : Int) < (n : Int) := by omega
  clear hBat hn hn4
  go_enter Tryz.func7, Tryz.ntmps7
  go_wp2_with (fail)
  refine (HA.out _).mono ?_
  rintro e w1 ⟨rfl, b1⟩
  have HB1 := Lib.hid (BT.out _ _ B1.out b1)
  have hcv := HCV.out w1
  have TE := Lib.hid ((((Own.Turn.refl (Own.Has.nil w1)).litter (.cells ZC 5)).allocRow (w1.heap.size + 1) (by rw [Json.size_alloc]) 39 [.int .i64 3, .bool false, .int .u64 0, .string Z, .int .i64 0]).allocRow (w1.heap.size + 1 + 1) (by rw [Json.size_alloc, Json.size_alloc]) 43 [.int .i64 a1, .slice none 0 0, .bool false])
  clear b1
  go_wp2_with (fail)
  refine (HS1.out (w1.heap.size + 1 + 1) _ (Own.Has.left (b := [Own.row (w1.heap.size + 1) 39 [.int .i64 3, .bool false, .int .u64 0, .string Z, .int .i64 0]]) TE.out.has)).mono ?_
  rintro e w2 ⟨rfl, t2⟩
  have T2 := Lib.hid (show Own.Turn [] ([Own.row (w1.heap.size + 1 + 1) 43 [.int .i64 a1, .slice none 0 0, .bool true]] ++ [Own.row (w1.heap.size + 1) 39 [.int .i64 3, .bool false, .int .u64 0, .string Z, .int .i64 0]]) w1 w2 from TE.out.trans (t2.frame (r := [Own.row (w1.heap.size + 1) 39 [.int .i64 3, .bool false, .int .u64 0, .string Z, .int .i64 0]]) TE.out.has))
  clear t2
  go_wp2_with (fail)
  refine (HBat.out _).mono ?_
  rintro e w3 ⟨rfl, b3⟩
  have T3 := Lib.hid (T2.out.trans (Own.Turn.of_below T2.out.has b3))
  clear b3
  have T4 := Lib.hid (T3.out.allocRow w3.heap.size rfl 43 [.int .i64 a2, .slice none 0 0, .bool false])
  have e0 := T4.out.has.cell (w1.heap.size + 1) 39 [.int .i64 3, .bool false, .int .u64 0, .string Z, .int .i64 0] (by simp) 0 _ rfl
  have e1 := T4.out.has.cell (w1.heap.size + 1) 39 [.int .i64 3, .bool false, .int .u64 0, .string Z, .int .i64 0] (by simp) 1 _ rfl
  have e2 := T4.out.has.cell (w1.heap.size + 1) 39 [.int .i64 3, .bool false, .int .u64 0, .string Z, .int .i64 0] (by simp) 2 _ rfl
  have e3 := T4.out.has.cell (w1.heap.size + 1) 39 [.int .i64 3, .bool false, .int .u64 0, .string Z, .int .i64 0] (by simp) 3 _ rfl
  have e4 := T4.out.has.cell (w1.heap.size + 1) 39 [.int .i64 3, .bool false, .int .u64 0, .string Z, .int .i64 0] (by simp) 4 _ rfl
  go_wp2_with (fail)
  refine (HS2.out w3.heap.size _ (Own.Has.left (b := [Own.row (w1.heap.size + 1 + 1) 43 [.int .i64 a1, .slice none 0 0, .bool true]] ++ [Own.row (w1.heap.size + 1) 39 [.int .i64 3, .bool false, .int .u64 0, .string Z, .int .i64 0]]) T4.out.has)).mono ?_
  rintro e w4 ⟨rfl, t4⟩
  have T5 := Lib.hid (show Own.Turn [] ([Own.row w3.heap.size 43 [.int .i64 a2, .slice none 0 0, .bool true]] ++ ([Own.row (w1.heap.size + 1 + 1) 43 [.int .i64 a1, .slice none 0 0, .bool true]] ++ [Own.row (w1.heap.size + 1) 39 [.int .i64 3, .bool false, .int .u64 0, .string Z, .int .i64 0]])) w1 w4 from T4.out.trans (t4.frame (r := [Own.row (w1.heap.size + 1 + 1) 43 [.int .i64 a1, .slice none 0 0, .bool true]] ++ [Own.row (w1.heap.size + 1) 39 [.int .i64 3, .bool false, .int .u64 0, .string Z, .int .i64 0]]) T4.out.has))
  clear t4 e0 e1 e2 e3 e4
  go_wp2
  go_ret
  exact ⟨rfl, BT.out _ _ HB1.out (T5.out.below (B := w1.heap.size) (fun x hx => by cases hx) (Nat.le_refl _))⟩
 ·rw [if_neg hn, if_neg hn] at hBat
  have HBat := Lib.hid hBat
  unfold Setup.val at HBat
  simp only at HBat
  have qn : (200 : Int) < (n : Int) := by omega
  clear hBat hn hn4
  go_enter Tryz.func7, Tryz.ntmps7
  go_wp2_with (fail)
  refine (HA.out _).mono ?_
  rintro e w1 ⟨rfl, b1⟩
  have HB1 := Lib.hid (BT.out _ _ B1.out b1)
  have hcv := HCV.out w1
  have TE := Lib.hid ((((Own.Turn.refl (Own.Has.nil w1)).litter (.cells ZC 5)).allocRow (w1.heap.size + 1) (by rw [Json.size_alloc]) 39 [.int .i64 3, .bool false, .int .u64 0, .string Z, .int .i64 0]).allocRow (w1.heap.size + 1 + 1) (by rw [Json.size_alloc, Json.size_alloc]) 43 [.int .i64 a1, .slice none 0 0, .bool false])
  clear b1
  go_wp2_with (fail)
  refine (HS1.out (w1.heap.size + 1 + 1) _ (Own.Has.left (b := [Own.row (w1.heap.size + 1) 39 [.int .i64 3, .bool false, .int .u64 0, .string Z, .int .i64 0]]) TE.out.has)).mono ?_
  rintro e w2 ⟨rfl, t2⟩
  have T2 := Lib.hid (show Own.Turn [] ([Own.row (w1.heap.size + 1 + 1) 43 [.int .i64 a1, .slice none 0 0, .bool true]] ++ [Own.row (w1.heap.size + 1) 39 [.int .i64 3, .bool false, .int .u64 0, .string Z, .int .i64 0]]) w1 w2 from TE.out.trans (t2.frame (r := [Own.row (w1.heap.size + 1) 39 [.int .i64 3, .bool false, .int .u64 0, .string Z, .int .i64 0]]) TE.out.has))
  clear t2
  go_wp2_with (fail)
  refine (HBat.out _).mono ?_
  rintro e w3 ⟨rfl, b3⟩
  have T3 := Lib.hid (T2.out.trans (Own.Turn.of_below T2.out.has b3))
  clear b3
  go_wp2
  go_ret
  exact ⟨rfl, BT.out _ _ HB1.out (T3.out.below (B := w1.heap.size) (fun x hx => by cases hx) (Nat.le_refl _))⟩
end Go.Proofs.YthnbpnfaghjamaaGreat.pipeLong
