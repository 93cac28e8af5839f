/- PipeKinds: the walk. -/
import Derived.Test.YthnbpnfaghjamaaGreatQ00
import Derived.Handy
namespace Go.Proofs.YthnbpnfaghjamaaGreat.pipeKinds
open Go.RowKit Pip

set_option maxRecDepth 100000 in
set_option maxHeartbeats 8000000 in
theorem walk (a0 a1 : Int) (_w0 : (Lit.int .i64 a0).wf = true) (_w1 : (Lit.int .i64 a1).wf = true) (w : World) :
    Calls Tryz.prog 4 #[.int .i64 a0, .int .i64 a1] w fun e w' => e = .returned (.bool true) ∧ Below w.heap.size w w' := by
  have HA := Lib.hid (fun u => alive18_any u)
  have BT := Lib.hid (fun (u v : World) (b : Below w.heap.size w u) (b2 : Below u.heap.size u v) => (b.trans (b2.mono b.size) : Below w.heap.size w v))
  have B0 := Lib.hid (fun o u (b : Below w.heap.size w u) => b.alloc b.size o)
  have B1 := Lib.hid (Below.refl w.heap.size w)
  have quick : (a0 < 1 ∨ 3 < a0) → Calls Tryz.prog 4 #[.int .i64 a0, .int .i64 a1] w fun e w' => e = .returned (.bool true) ∧ Below w.heap.size w w' := by
    intro hq
    have hk' : a0 < 1 ∨ (1 ≤ a0 ∧ 3 < a0) := by omega
    clear hq
    rcases hk' with g1 | ⟨g1, g2⟩
    all_goals
      go_enter Tryz.func4, Tryz.ntmps4
      go_wp2_with (fail)
      refine (HA.out _).mono ?_
      rintro e w1 ⟨rfl, b1⟩
      go_wp2
      go_ret
      exact ⟨rfl, BT.out _ _ B1.out b1⟩
  by_cases hq : (a0 < 1 ∨ 3 < a0)
  · exact quick hq
  clear quick
  obtain ⟨t, rfl⟩ : ∃ t : Nat, a0 = t := ⟨a0.toNat, by omega⟩
  have q1 : (1 : Int) ≤ t := by omega
  have q2 : (t : Int) ≤ 3 := by omega
  have KB := Lib.hid (fun r (h : r ≤ 6) => kind_batch t r (by omega) (by omega) h)
  clear hq
  have hm : a1.tmod 7 = 0 ∨ a1.tmod 7 = 1 ∨ a1.tmod 7 = 2 ∨ a1.tmod 7 = 3 ∨ a1.tmod 7 = 4 ∨ a1.tmod 7 = 5 ∨ a1.tmod 7 = 6 ∨ a1.tmod 7 = -1 ∨ a1.tmod 7 = -2 ∨ a1.tmod 7 = -3 ∨ a1.tmod 7 = -4 ∨ a1.tmod 7 = -5 ∨ a1.tmod 7 = -6 := by
    have h1 := Int.tmod_lt_of_pos a1 (show (0 : Int) < 7 by decide)
    have h2 := Int.lt_tmod_of_pos a1 (show (0 : Int) < 7 by decide)
    omega
  rcases hm with hm | hm | hm | hm | hm | hm | hm | hm | hm | hm | hm | hm | hm
  · obtain ⟨X, Y, hX, hY, hE, hG⟩ := KB.out 0 (by omega)
    have HX := Lib.hid (show ∀ w, Calls Tryz.prog 21 #[.agg #[.int .i64 2, .int .i64 (t : Int), .int .i64 4, .int .i64 100, .int .i64 0], .string ⟨#[130, 1, 249, 0, 0]⟩] w fun e w' => e = .returned (.tuple #[.string X, .int .i64 6]) ∧ Below w.heap.size w w' from hX)
    have HY := Lib.hid (show ∀ w, Calls Tryz.prog 21 #[.agg #[.int .i64 2, .int .i64 (t : Int), .int .i64 4, .int .i64 100, .int .i64 0], .string ⟨#[130, 1]⟩] w fun e w' => e = .returned (.tuple #[.string Y, .int .i64 3]) ∧ Below w.heap.size w w' from hY)
    have hcat : (⟨#[130, 1]⟩ : ByteArray) ++ ⟨#[249, 0, 0]⟩ = ⟨#[130, 1, 249, 0, 0]⟩ := rfl
    obtain rfl := hE (by omega)
    clear hX hY hE hG KB
    go_enter Tryz.func4, Tryz.ntmps4
    go_wp2_with (fail)
    refine (HA.out _).mono ?_
    rintro e w1 ⟨rfl, b1⟩
    have HB1 := Lib.hid (BT.out _ _ B1.out b1)
    have HS := Lib.hid (fun o o' => ((Own.Turn.refl (Own.Has.nil ((w1.alloc o).alloc o'))).allocRow (w1.heap.size + 1 + 1) (by rw [Json.size_alloc, Json.size_alloc]) 23 [.int .i64 2, .int .i64 (t : Int), .int .i64 4, .int .i64 100, .int .i64 0]))
    clear b1
    go_wp2_with (fail)
    refine (HX.out _).mono ?_
    rintro e w2 ⟨rfl, b2⟩
    have HB2 := Lib.hid b2
    have T2 := Lib.hid ((HS.out _ _).trans (Own.Turn.of_below (HS.out _ _).has b2))
    have c0 := T2.out.has.cell _ _ _ (List.mem_cons_self ..) 0 _ rfl
    have c1 := T2.out.has.cell _ _ _ (List.mem_cons_self ..) 1 _ rfl
    have c2 := T2.out.has.cell _ _ _ (List.mem_cons_self ..) 2 _ rfl
    have c3 := T2.out.has.cell _ _ _ (List.mem_cons_self ..) 3 _ rfl
    have c4 := T2.out.has.cell _ _ _ (List.mem_cons_self ..) 4 _ rfl
    clear b2
    go_wp2_with (fail)
    refine (HY.out _).mono ?_
    rintro e w3 ⟨rfl, b3⟩
    have HB3 := Lib.hid b3
    clear b3
    go_wp2
    go_ret
    exact ⟨rfl, BT.out _ _ (BT.out _ _ (B0.out _ _ (B0.out _ _ (B0.out _ _ HB1.out))) HB2.out) HB3.out⟩
  · obtain ⟨X, Y, hX, hY, hE, hG⟩ := KB.out 1 (by omega)
    have HX := Lib.hid (show ∀ w, Calls Tryz.prog 21 #[.agg #[.int .i64 2, .int .i64 (t : Int), .int .i64 4, .int .i64 100, .int .i64 0], .string ⟨#[130, 1, 193, 1]⟩] w fun e w' => e = .returned (.tuple #[.string X, .int .i64 8]) ∧ Below w.heap.size w w' from hX)
    have HY := Lib.hid (show ∀ w, Calls Tryz.prog 21 #[.agg #[.int .i64 2, .int .i64 (t : Int), .int .i64 4, .int .i64 100, .int .i64 0], .string ⟨#[130, 1]⟩] w fun e w' => e = .returned (.tuple #[.string Y, .int .i64 3]) ∧ Below w.heap.size w w' from hY)
    have hcat : (⟨#[130, 1]⟩ : ByteArray) ++ ⟨#[193, 1]⟩ = ⟨#[130, 1, 193, 1]⟩ := rfl
    obtain rfl := hE (by omega)
    clear hX hY hE hG KB
    go_enter Tryz.func4, Tryz.ntmps4
    go_wp2_with (fail)
    refine (HA.out _).mono ?_
    rintro e w1 ⟨rfl, b1⟩
    have HB1 := Lib.hid (BT.out _ _ B1.out b1)
    have HS := Lib.hid (fun o o' => ((Own.Turn.refl (Own.Has.nil ((w1.alloc o).alloc o'))).allocRow (w1.heap.size + 1 + 1) (by rw [Json.size_alloc, Json.size_alloc]) 23 [.int .i64 2, .int .i64 (t : Int), .int .i64 4, .int .i64 100, .int .i64 0]))
    clear b1
    go_wp2_with (fail)
    refine (HX.out _).mono ?_
    rintro e w2 ⟨rfl, b2⟩
    have HB2 := Lib.hid b2
    have T2 := Lib.hid ((HS.out _ _).trans (Own.Turn.of_below (HS.out _ _).has b2))
    have c0 := T2.out.has.cell _ _ _ (List.mem_cons_self ..) 0 _ rfl
    have c1 := T2.out.has.cell _ _ _ (List.mem_cons_self ..) 1 _ rfl
    have c2 := T2.out.has.cell _ _ _ (List.mem_cons_self ..) 2 _ rfl
    have c3 := T2.out.has.cell _ _ _ (List.mem_cons_self ..) 3 _ rfl
    have c4 := T2.out.has.cell _ _ _ (List.mem_cons_self ..) 4 _ rfl
    clear b2
    go_wp2_with (fail)
    refine (HY.out _).mono ?_
    rintro e w3 ⟨rfl, b3⟩
    have HB3 := Lib.hid b3
    clear b3
    go_wp2
    go_ret
    exact ⟨rfl, BT.out _ _ (BT.out _ _ (B0.out _ _ (B0.out _ _ (B0.out _ _ HB1.out))) HB2.out) HB3.out⟩
  · obtain ⟨X, Y, hX, hY, hE, hG⟩ := KB.out 2 (by omega)
    have HX := Lib.hid (show ∀ w, Calls Tryz.prog 21 #[.agg #[.int .i64 2, .int .i64 (t : Int), .int .i64 4, .int .i64 100, .int .i64 0], .string ⟨#[130, 1, 247]⟩] w fun e w' => e = .returned (.tuple #[.string X, .int .i64 8]) ∧ Below w.heap.size w w' from hX)
    have HY := Lib.hid (show ∀ w, Calls Tryz.prog 21 #[.agg #[.int .i64 2, .int .i64 (t : Int), .int .i64 4, .int .i64 100, .int .i64 0], .string ⟨#[130, 1]⟩] w fun e w' => e = .returned (.tuple #[.string Y, .int .i64 3]) ∧ Below w.heap.size w w' from hY)
    have hcat : (⟨#[130, 1]⟩ : ByteArray) ++ ⟨#[247]⟩ = ⟨#[130, 1, 247]⟩ := rfl
    obtain rfl := hE (by omega)
    clear hX hY hE hG KB
    go_enter Tryz.func4, Tryz.ntmps4
    go_wp2_with (fail)
    refine (HA.out _).mono ?_
    rintro e w1 ⟨rfl, b1⟩
    have HB1 := Lib.hid (BT.out _ _ B1.out b1)
    have HS := Lib.hid (fun o o' => ((Own.Turn.refl (Own.Has.nil ((w1.alloc o).alloc o'))).allocRow (w1.heap.size + 1 + 1) (by rw [Json.size_alloc, Json.size_alloc]) 23 [.int .i64 2, .int .i64 (t : Int), .int .i64 4, .int .i64 100, .int .i64 0]))
    clear b1
    go_wp2_with (fail)
    refine (HX.out _).mono ?_
    rintro e w2 ⟨rfl, b2⟩
    have HB2 := Lib.hid b2
    have T2 := Lib.hid ((HS.out _ _).trans (Own.Turn.of_below (HS.out _ _).has b2))
    have c0 := T2.out.has.cell _ _ _ (List.mem_cons_self ..) 0 _ rfl
    have c1 := T2.out.has.cell _ _ _ (List.mem_cons_self ..) 1 _ rfl
    have c2 := T2.out.has.cell _ _ _ (List.mem_cons_self ..) 2 _ rfl
    have c3 := T2.out.has.cell _ _ _ (List.mem_cons_self ..) 3 _ rfl
    have c4 := T2.out.has.cell _ _ _ (List.mem_cons_self ..) 4 _ rfl
    clear b2
    go_wp2_with (fail)
    refine (HY.out _).mono ?_
    rintro e w3 ⟨rfl, b3⟩
    have HB3 := Lib.hid b3
    clear b3
    go_wp2
    go_ret
    exact ⟨rfl, BT.out _ _ (BT.out _ _ (B0.out _ _ (B0.out _ _ (B0.out _ _ HB1.out))) HB2.out) HB3.out⟩
  · obtain ⟨X, Y, hX, hY, hE, hG⟩ := KB.out 3 (by omega)
    have HX := Lib.hid (show ∀ w, Calls Tryz.prog 21 #[.agg #[.int .i64 2, .int .i64 (t : Int), .int .i64 4, .int .i64 100, .int .i64 0], .string ⟨#[130, 1, 224]⟩] w fun e w' => e = .returned (.tuple #[.string X, .int .i64 8]) ∧ Below w.heap.size w w' from hX)
    have HY := Lib.hid (show ∀ w, Calls Tryz.prog 21 #[.agg #[.int .i64 2, .int .i64 (t : Int), .int .i64 4, .int .i64 100, .int .i64 0], .string ⟨#[130, 1]⟩] w fun e w' => e = .returned (.tuple #[.string Y, .int .i64 3]) ∧ Below w.heap.size w w' from hY)
    have hcat : (⟨#[130, 1]⟩ : ByteArray) ++ ⟨#[224]⟩ = ⟨#[130, 1, 224]⟩ := rfl
    obtain rfl := hE (by omega)
    clear hX hY hE hG KB
    go_enter Tryz.func4, Tryz.ntmps4
    go_wp2_with (fail)
    refine (HA.out _).mono ?_
    rintro e w1 ⟨rfl, b1⟩
    have HB1 := Lib.hid (BT.out _ _ B1.out b1)
    have HS := Lib.hid (fun o o' => ((Own.Turn.refl (Own.Has.nil ((w1.alloc o).alloc o'))).allocRow (w1.heap.size + 1 + 1) (by rw [Json.size_alloc, Json.size_alloc]) 23 [.int .i64 2, .int .i64 (t : Int), .int .i64 4, .int .i64 100, .int .i64 0]))
    clear b1
    go_wp2_with (fail)
    refine (HX.out _).mono ?_
    rintro e w2 ⟨rfl, b2⟩
    have HB2 := Lib.hid b2
    have T2 := Lib.hid ((HS.out _ _).trans (Own.Turn.of_below (HS.out _ _).has b2))
    have c0 := T2.out.has.cell _ _ _ (List.mem_cons_self ..) 0 _ rfl
    have c1 := T2.out.has.cell _ _ _ (List.mem_cons_self ..) 1 _ rfl
    have c2 := T2.out.has.cell _ _ _ (List.mem_cons_self ..) 2 _ rfl
    have c3 := T2.out.has.cell _ _ _ (List.mem_cons_self ..) 3 _ rfl
    have c4 := T2.out.has.cell _ _ _ (List.mem_cons_self ..) 4 _ rfl
    clear b2
    go_wp2_with (fail)
    refine (HY.out _).mono ?_
    rintro e w3 ⟨rfl, b3⟩
    have HB3 := Lib.hid b3
    clear b3
    go_wp2
    go_ret
    exact ⟨rfl, BT.out _ _ (BT.out _ _ (B0.out _ _ (B0.out _ _ (B0.out _ _ HB1.out))) HB2.out) HB3.out⟩
  · obtain ⟨X, Y, hX, hY, hE, hG⟩ := KB.out 4 (by omega)
    have HX := Lib.hid (show ∀ w, Calls Tryz.prog 21 #[.agg #[.int .i64 2, .int .i64 (t : Int), .int .i64 4, .int .i64 100, .int .i64 0], .string ⟨#[130, 1, 28]⟩] w fun e w' => e = .returned (.tuple #[.string X, .int .i64 2]) ∧ Below w.heap.size w w' from hX)
    have HY := Lib.hid (show ∀ w, Calls Tryz.prog 21 #[.agg #[.int .i64 2, .int .i64 (t : Int), .int .i64 4, .int .i64 100, .int .i64 0], .string ⟨#[130, 1]⟩] w fun e w' => e = .returned (.tuple #[.string Y, .int .i64 3]) ∧ Below w.heap.size w w' from hY)
    have hcat : (⟨#[130, 1]⟩ : ByteArray) ++ ⟨#[28]⟩ = ⟨#[130, 1, 28]⟩ := rfl
    obtain rfl := hE (by omega)
    clear hX hY hE hG KB
    go_enter Tryz.func4, Tryz.ntmps4
    go_wp2_with (fail)
    refine (HA.out _).mono ?_
    rintro e w1 ⟨rfl, b1⟩
    have HB1 := Lib.hid (BT.out _ _ B1.out b1)
    have HS := Lib.hid (fun o o' => ((Own.Turn.refl (Own.Has.nil ((w1.alloc o).alloc o'))).allocRow (w1.heap.size + 1 + 1) (by rw [Json.size_alloc, Json.size_alloc]) 23 [.int .i64 2, .int .i64 (t : Int), .int .i64 4, .int .i64 100, .int .i64 0]))
    clear b1
    go_wp2_with (fail)
    refine (HX.out _).mono ?_
    rintro e w2 ⟨rfl, b2⟩
    have HB2 := Lib.hid b2
    have T2 := Lib.hid ((HS.out _ _).trans (Own.Turn.of_below (HS.out _ _).has b2))
    have c0 := T2.out.has.cell _ _ _ (List.mem_cons_self ..) 0 _ rfl
    have c1 := T2.out.has.cell _ _ _ (List.mem_cons_self ..) 1 _ rfl
    have c2 := T2.out.has.cell _ _ _ (List.mem_cons_self ..) 2 _ rfl
    have c3 := T2.out.has.cell _ _ _ (List.mem_cons_self ..) 3 _ rfl
    have c4 := T2.out.has.cell _ _ _ (List.mem_cons_self ..) 4 _ rfl
    clear b2
    go_wp2_with (fail)
    refine (HY.out _).mono ?_
    rintro e w3 ⟨rfl, b3⟩
    have HB3 := Lib.hid b3
    clear b3
    go_wp2
    go_ret
    exact ⟨rfl, BT.out _ _ (BT.out _ _ (B0.out _ _ (B0.out _ _ (B0.out _ _ HB1.out))) HB2.out) HB3.out⟩
  · obtain ⟨X, Y, hX, hY, hE, hG⟩ := KB.out 5 (by omega)
    have HX := Lib.hid (show ∀ w, Calls Tryz.prog 21 #[.agg #[.int .i64 2, .int .i64 (t : Int), .int .i64 4, .int .i64 100, .int .i64 0], .string ⟨#[130, 1, 255]⟩] w fun e w' => e = .returned (.tuple #[.string X, .int .i64 2]) ∧ Below w.heap.size w w' from hX)
    have HY := Lib.hid (show ∀ w, Calls Tryz.prog 21 #[.agg #[.int .i64 2, .int .i64 (t : Int), .int .i64 4, .int .i64 100, .int .i64 0], .string ⟨#[130, 1]⟩] w fun e w' => e = .returned (.tuple #[.string Y, .int .i64 3]) ∧ Below w.heap.size w w' from hY)
    have hcat : (⟨#[130, 1]⟩ : ByteArray) ++ ⟨#[255]⟩ = ⟨#[130, 1, 255]⟩ := rfl
    obtain rfl := hE (by omega)
    clear hX hY hE hG KB
    go_enter Tryz.func4, Tryz.ntmps4
    go_wp2_with (fail)
    refine (HA.out _).mono ?_
    rintro e w1 ⟨rfl, b1⟩
    have HB1 := Lib.hid (BT.out _ _ B1.out b1)
    have HS := Lib.hid (fun o o' => ((Own.Turn.refl (Own.Has.nil ((w1.alloc o).alloc o'))).allocRow (w1.heap.size + 1 + 1) (by rw [Json.size_alloc, Json.size_alloc]) 23 [.int .i64 2, .int .i64 (t : Int), .int .i64 4, .int .i64 100, .int .i64 0]))
    clear b1
    go_wp2_with (fail)
    refine (HX.out _).mono ?_
    rintro e w2 ⟨rfl, b2⟩
    have HB2 := Lib.hid b2
    have T2 := Lib.hid ((HS.out _ _).trans (Own.Turn.of_below (HS.out _ _).has b2))
    have c0 := T2.out.has.cell _ _ _ (List.mem_cons_self ..) 0 _ rfl
    have c1 := T2.out.has.cell _ _ _ (List.mem_cons_self ..) 1 _ rfl
    have c2 := T2.out.has.cell _ _ _ (List.mem_cons_self ..) 2 _ rfl
    have c3 := T2.out.has.cell _ _ _ (List.mem_cons_self ..) 3 _ rfl
    have c4 := T2.out.has.cell _ _ _ (List.mem_cons_self ..) 4 _ rfl
    clear b2
    go_wp2_with (fail)
    refine (HY.out _).mono ?_
    rintro e w3 ⟨rfl, b3⟩
    have HB3 := Lib.hid b3
    clear b3
    go_wp2
    go_ret
    exact ⟨rfl, BT.out _ _ (BT.out _ _ (B0.out _ _ (B0.out _ _ (B0.out _ _ HB1.out))) HB2.out) HB3.out⟩
  · obtain ⟨X, Y, hX, hY, hE, hG⟩ := KB.out 6 (by omega)
    have HX := Lib.hid (show ∀ w, Calls Tryz.prog 21 #[.agg #[.int .i64 2, .int .i64 (t : Int), .int .i64 4, .int .i64 100, .int .i64 0], .string ⟨#[130, 1, 161, 1, 2]⟩] w fun e w' => e = .returned (.tuple #[.string X, .int .i64 8]) ∧ Below w.heap.size w w' from hX)
    have HY := Lib.hid (show ∀ w, Calls Tryz.prog 21 #[.agg #[.int .i64 2, .int .i64 (t : Int), .int .i64 4, .int .i64 100, .int .i64 0], .string ⟨#[130, 1]⟩] w fun e w' => e = .returned (.tuple #[.string Y, .int .i64 3]) ∧ Below w.heap.size w w' from hY)
    have hcat : (⟨#[130, 1]⟩ : ByteArray) ++ ⟨#[161, 1, 2]⟩ = ⟨#[130, 1, 161, 1, 2]⟩ := rfl
    obtain ⟨hg1, hg2⟩ := hG rfl
    have hg3 : (Y.size : Int) < (X.size : Int) := by omega
    clear hX hY hE hG KB hg1
    go_enter Tryz.func4, Tryz.ntmps4
    go_wp2_with (fail)
    refine (HA.out _).mono ?_
    rintro e w1 ⟨rfl, b1⟩
    have HB1 := Lib.hid (BT.out _ _ B1.out b1)
    have HS := Lib.hid (fun o o' => ((Own.Turn.refl (Own.Has.nil ((w1.alloc o).alloc o'))).allocRow (w1.heap.size + 1 + 1) (by rw [Json.size_alloc, Json.size_alloc]) 23 [.int .i64 2, .int .i64 (t : Int), .int .i64 4, .int .i64 100, .int .i64 0]))
    clear b1
    go_wp2_with (fail)
    refine (HX.out _).mono ?_
    rintro e w2 ⟨rfl, b2⟩
    have HB2 := Lib.hid b2
    have T2 := Lib.hid ((HS.out _ _).trans (Own.Turn.of_below (HS.out _ _).has b2))
    have c0 := T2.out.has.cell _ _ _ (List.mem_cons_self ..) 0 _ rfl
    have c1 := T2.out.has.cell _ _ _ (List.mem_cons_self ..) 1 _ rfl
    have c2 := T2.out.has.cell _ _ _ (List.mem_cons_self ..) 2 _ rfl
    have c3 := T2.out.has.cell _ _ _ (List.mem_cons_self ..) 3 _ rfl
    have c4 := T2.out.has.cell _ _ _ (List.mem_cons_self ..) 4 _ rfl
    clear b2
    go_wp2_with (fail)
    refine (HY.out _).mono ?_
    rintro e w3 ⟨rfl, b3⟩
    have HB3 := Lib.hid b3
    clear b3
    go_wp2
    go_ret
    exact ⟨rfl, BT.out _ _ (BT.out _ _ (B0.out _ _ (B0.out _ _ (B0.out _ _ HB1.out))) HB2.out) HB3.out⟩
  · obtain ⟨X, Y, hX, hY, hE, hG⟩ := KB.out 6 (by omega)
    have HX := Lib.hid (show ∀ w, Calls Tryz.prog 21 #[.agg #[.int .i64 2, .int .i64 (t : Int), .int .i64 4, .int .i64 100, .int .i64 0], .string ⟨#[130, 1, 161, 1, 2]⟩] w fun e w' => e = .returned (.tuple #[.string X, .int .i64 8]) ∧ Below w.heap.size w w' from hX)
    have HY := Lib.hid (show ∀ w, Calls Tryz.prog 21 #[.agg #[.int .i64 2, .int .i64 (t : Int), .int .i64 4, .int .i64 100, .int .i64 0], .string ⟨#[130, 1]⟩] w fun e w' => e = .returned (.tuple #[.string Y, .int .i64 3]) ∧ Below w.heap.size w w' from hY)
    have hcat : (⟨#[130, 1]⟩ : ByteArray) ++ ⟨#[161, 1, 2]⟩ = ⟨#[130, 1, 161, 1, 2]⟩ := rfl
    obtain ⟨hg1, hg2⟩ := hG rfl
    have hg3 : (Y.size : Int) < (X.size : Int) := by omega
    clear hX hY hE hG KB hg1
    go_enter Tryz.func4, Tryz.ntmps4
    go_wp2_with (fail)
    refine (HA.out _).mono ?_
    rintro e w1 ⟨rfl, b1⟩
    have HB1 := Lib.hid (BT.out _ _ B1.out b1)
    have HS := Lib.hid (fun o o' => ((Own.Turn.refl (Own.Has.nil ((w1.alloc o).alloc o'))).allocRow (w1.heap.size + 1 + 1) (by rw [Json.size_alloc, Json.size_alloc]) 23 [.int .i64 2, .int .i64 (t : Int), .int .i64 4, .int .i64 100, .int .i64 0]))
    clear b1
    go_wp2_with (fail)
    refine (HX.out _).mono ?_
    rintro e w2 ⟨rfl, b2⟩
    have HB2 := Lib.hid b2
    have T2 := Lib.hid ((HS.out _ _).trans (Own.Turn.of_below (HS.out _ _).has b2))
    have c0 := T2.out.has.cell _ _ _ (List.mem_cons_self ..) 0 _ rfl
    have c1 := T2.out.has.cell _ _ _ (List.mem_cons_self ..) 1 _ rfl
    have c2 := T2.out.has.cell _ _ _ (List.mem_cons_self ..) 2 _ rfl
    have c3 := T2.out.has.cell _ _ _ (List.mem_cons_self ..) 3 _ rfl
    have c4 := T2.out.has.cell _ _ _ (List.mem_cons_self ..) 4 _ rfl
    clear b2
    go_wp2_with (fail)
    refine (HY.out _).mono ?_
    rintro e w3 ⟨rfl, b3⟩
    have HB3 := Lib.hid b3
    clear b3
    go_wp2
    go_ret
    exact ⟨rfl, BT.out _ _ (BT.out _ _ (B0.out _ _ (B0.out _ _ (B0.out _ _ HB1.out))) HB2.out) HB3.out⟩
  · obtain ⟨X, Y, hX, hY, hE, hG⟩ := KB.out 5 (by omega)
    have HX := Lib.hid (show ∀ w, Calls Tryz.prog 21 #[.agg #[.int .i64 2, .int .i64 (t : Int), .int .i64 4, .int .i64 100, .int .i64 0], .string ⟨#[130, 1, 255]⟩] w fun e w' => e = .returned (.tuple #[.string X, .int .i64 2]) ∧ Below w.heap.size w w' from hX)
    have HY := Lib.hid (show ∀ w, Calls Tryz.prog 21 #[.agg #[.int .i64 2, .int .i64 (t : Int), .int .i64 4, .int .i64 100, .int .i64 0], .string ⟨#[130, 1]⟩] w fun e w' => e = .returned (.tuple #[.string Y, .int .i64 3]) ∧ Below w.heap.size w w' from hY)
    have hcat : (⟨#[130, 1]⟩ : ByteArray) ++ ⟨#[255]⟩ = ⟨#[130, 1, 255]⟩ := rfl
    obtain rfl := hE (by omega)
    clear hX hY hE hG KB
    go_enter Tryz.func4, Tryz.ntmps4
    go_wp2_with (fail)
    refine (HA.out _).mono ?_
    rintro e w1 ⟨rfl, b1⟩
    have HB1 := Lib.hid (BT.out _ _ B1.out b1)
    have HS := Lib.hid (fun o o' => ((Own.Turn.refl (Own.Has.nil ((w1.alloc o).alloc o'))).allocRow (w1.heap.size + 1 + 1) (by rw [Json.size_alloc, Json.size_alloc]) 23 [.int .i64 2, .int .i64 (t : Int), .int .i64 4, .int .i64 100, .int .i64 0]))
    clear b1
    go_wp2_with (fail)
    refine (HX.out _).mono ?_
    rintro e w2 ⟨rfl, b2⟩
    have HB2 := Lib.hid b2
    have T2 := Lib.hid ((HS.out _ _).trans (Own.Turn.of_below (HS.out _ _).has b2))
    have c0 := T2.out.has.cell _ _ _ (List.mem_cons_self ..) 0 _ rfl
    have c1 := T2.out.has.cell _ _ _ (List.mem_cons_self ..) 1 _ rfl
    have c2 := T2.out.has.cell _ _ _ (List.mem_cons_self ..) 2 _ rfl
    have c3 := T2.out.has.cell _ _ _ (List.mem_cons_self ..) 3 _ rfl
    have c4 := T2.out.has.cell _ _ _ (List.mem_cons_self ..) 4 _ rfl
    clear b2
    go_wp2_with (fail)
    refine (HY.out _).mono ?_
    rintro e w3 ⟨rfl, b3⟩
    have HB3 := Lib.hid b3
    clear b3
    go_wp2
    go_ret
    exact ⟨rfl, BT.out _ _ (BT.out _ _ (B0.out _ _ (B0.out _ _ (B0.out _ _ HB1.out))) HB2.out) HB3.out⟩
  · obtain ⟨X, Y, hX, hY, hE, hG⟩ := KB.out 4 (by omega)
    have HX := Lib.hid (show ∀ w, Calls Tryz.prog 21 #[.agg #[.int .i64 2, .int .i64 (t : Int), .int .i64 4, .int .i64 100, .int .i64 0], .string ⟨#[130, 1, 28]⟩] w fun e w' => e = .returned (.tuple #[.string X, .int .i64 2]) ∧ Below w.heap.size w w' from hX)
    have HY := Lib.hid (show ∀ w, Calls Tryz.prog 21 #[.agg #[.int .i64 2, .int .i64 (t : Int), .int .i64 4, .int .i64 100, .int .i64 0], .string ⟨#[130, 1]⟩] w fun e w' => e = .returned (.tuple #[.string Y, .int .i64 3]) ∧ Below w.heap.size w w' from hY)
    have hcat : (⟨#[130, 1]⟩ : ByteArray) ++ ⟨#[28]⟩ = ⟨#[130, 1, 28]⟩ := rfl
    obtain rfl := hE (by omega)
    clear hX hY hE hG KB
    go_enter Tryz.func4, Tryz.ntmps4
    go_wp2_with (fail)
    refine (HA.out _).mono ?_
    rintro e w1 ⟨rfl, b1⟩
    have HB1 := Lib.hid (BT.out _ _ B1.out b1)
    have HS := Lib.hid (fun o o' => ((Own.Turn.refl (Own.Has.nil ((w1.alloc o).alloc o'))).allocRow (w1.heap.size + 1 + 1) (by rw [Json.size_alloc, Json.size_alloc]) 23 [.int .i64 2, .int .i64 (t : Int), .int .i64 4, .int .i64 100, .int .i64 0]))
    clear b1
    go_wp2_with (fail)
    refine (HX.out _).mono ?_
    rintro e w2 ⟨rfl, b2⟩
    have HB2 := Lib.hid b2
    have T2 := Lib.hid ((HS.out _ _).trans (Own.Turn.of_below (HS.out _ _).has b2))
    have c0 := T2.out.has.cell _ _ _ (List.mem_cons_self ..) 0 _ rfl
    have c1 := T2.out.has.cell _ _ _ (List.mem_cons_self ..) 1 _ rfl
    have c2 := T2.out.has.cell _ _ _ (List.mem_cons_self ..) 2 _ rfl
    have c3 := T2.out.has.cell _ _ _ (List.mem_cons_self ..) 3 _ rfl
    have c4 := T2.out.has.cell _ _ _ (List.mem_cons_self ..) 4 _ rfl
    clear b2
    go_wp2_with (fail)
    refine (HY.out _).mono ?_
    rintro e w3 ⟨rfl, b3⟩
    have HB3 := Lib.hid b3
    clear b3
    go_wp2
    go_ret
    exact ⟨rfl, BT.out _ _ (BT.out _ _ (B0.out _ _ (B0.out _ _ (B0.out _ _ HB1.out))) HB2.out) HB3.out⟩
  · obtain ⟨X, Y, hX, hY, hE, hG⟩ := KB.out 3 (by omega)
    have HX := Lib.hid (show ∀ w, Calls Tryz.prog 21 #[.agg #[.int .i64 2, .int .i64 (t : Int), .int .i64 4, .int .i64 100, .int .i64 0], .string ⟨#[130, 1, 224]⟩] w fun e w' => e = .returned (.tuple #[.string X, .int .i64 8]) ∧ Below w.heap.size w w' from hX)
    have HY := Lib.hid (show ∀ w, Calls Tryz.prog 21 #[.agg #[.int .i64 2, .int .i64 (t : Int), .int .i64 4, .int .i64 100, .int .i64 0], .string ⟨#[130, 1]⟩] w fun e w' => e = .returned (.tuple #[.string Y, .int .i64 3]) ∧ Below w.heap.size w w' from hY)
    have hcat : (⟨#[130, 1]⟩ : ByteArray) ++ ⟨#[224]⟩ = ⟨#[130, 1, 224]⟩ := rfl
    obtain rfl := hE (by omega)
    clear hX hY hE hG KB
    go_enter Tryz.func4, Tryz.ntmps4
    go_wp2_with (fail)
    refine (HA.out _).mono ?_
    rintro e w1 ⟨rfl, b1⟩
    have HB1 := Lib.hid (BT.out _ _ B1.out b1)
    have HS := Lib.hid (fun o o' => ((Own.Turn.refl (Own.Has.nil ((w1.alloc o).alloc o'))).allocRow (w1.heap.size + 1 + 1) (by rw [Json.size_alloc, Json.size_alloc]) 23 [.int .i64 2, .int .i64 (t : Int), .int .i64 4, .int .i64 100, .int .i64 0]))
    clear b1
    go_wp2_with (fail)
    refine (HX.out _).mono ?_
    rintro e w2 ⟨rfl, b2⟩
    have HB2 := Lib.hid b2
    have T2 := Lib.hid ((HS.out _ _).trans (Own.Turn.of_below (HS.out _ _).has b2))
    have c0 := T2.out.has.cell _ _ _ (List.mem_cons_self ..) 0 _ rfl
    have c1 := T2.out.has.cell _ _ _ (List.mem_cons_self ..) 1 _ rfl
    have c2 := T2.out.has.cell _ _ _ (List.mem_cons_self ..) 2 _ rfl
    have c3 := T2.out.has.cell _ _ _ (List.mem_cons_self ..) 3 _ rfl
    have c4 := T2.out.has.cell _ _ _ (List.mem_cons_self ..) 4 _ rfl
    clear b2
    go_wp2_with (fail)
    refine (HY.out _).mono ?_
    rintro e w3 ⟨rfl, b3⟩
    have HB3 := Lib.hid b3
    clear b3
    go_wp2
    go_ret
    exact ⟨rfl, BT.out _ _ (BT.out _ _ (B0.out _ _ (B0.out _ _ (B0.out _ _ HB1.out))) HB2.out) HB3.out⟩
  · obtain ⟨X, Y, hX, hY, hE, hG⟩ := KB.out 2 (by omega)
    have HX := Lib.hid (show ∀ w, Calls Tryz.prog 21 #[.agg #[.int .i64 2, .int .i64 (t : Int), .int .i64 4, .int .i64 100, .int .i64 0], .string ⟨#[130, 1, 247]⟩] w fun e w' => e = .returned (.tuple #[.string X, .int .i64 8]) ∧ Below w.heap.size w w' from hX)
    have HY := Lib.hid (show ∀ w, Calls Tryz.prog 21 #[.agg #[.int .i64 2, .int .i64 (t : Int), .int .i64 4, .int .i64 100, .int .i64 0], .string ⟨#[130, 1]⟩] w fun e w' => e = .returned (.tuple #[.string Y, .int .i64 3]) ∧ Below w.heap.size w w' from hY)
    have hcat : (⟨#[130, 1]⟩ : ByteArray) ++ ⟨#[247]⟩ = ⟨#[130, 1, 247]⟩ := rfl
    obtain rfl := hE (by omega)
    clear hX hY hE hG KB
    go_enter Tryz.func4, Tryz.ntmps4
    go_wp2_with (fail)
    refine (HA.out _).mono ?_
    rintro e w1 ⟨rfl, b1⟩
    have HB1 := Lib.hid (BT.out _ _ B1.out b1)
    have HS := Lib.hid (fun o o' => ((Own.Turn.refl (Own.Has.nil ((w1.alloc o).alloc o'))).allocRow (w1.heap.size + 1 + 1) (by rw [Json.size_alloc, Json.size_alloc]) 23 [.int .i64 2, .int .i64 (t : Int), .int .i64 4, .int .i64 100, .int .i64 0]))
    clear b1
    go_wp2_with (fail)
    refine (HX.out _).mono ?_
    rintro e w2 ⟨rfl, b2⟩
    have HB2 := Lib.hid b2
    have T2 := Lib.hid ((HS.out _ _).trans (Own.Turn.of_below (HS.out _ _).has b2))
    have c0 := T2.out.has.cell _ _ _ (List.mem_cons_self ..) 0 _ rfl
    have c1 := T2.out.has.cell _ _ _ (List.mem_cons_self ..) 1 _ rfl
    have c2 := T2.out.has.cell _ _ _ (List.mem_cons_self ..) 2 _ rfl
    have c3 := T2.out.has.cell _ _ _ (List.mem_cons_self ..) 3 _ rfl
    have c4 := T2.out.has.cell _ _ _ (List.mem_cons_self ..) 4 _ rfl
    clear b2
    go_wp2_with (fail)
    refine (HY.out _).mono ?_
    rintro e w3 ⟨rfl, b3⟩
    have HB3 := Lib.hid b3
    clear b3
    go_wp2
    go_ret
    exact ⟨rfl, BT.out _ _ (BT.out _ _ (B0.out _ _ (B0.out _ _ (B0.out _ _ HB1.out))) HB2.out) HB3.out⟩
  · obtain ⟨X, Y, hX, hY, hE, hG⟩ := KB.out 1 (by omega)
    have HX := Lib.hid (show ∀ w, Calls Tryz.prog 21 #[.agg #[.int .i64 2, .int .i64 (t : Int), .int .i64 4, .int .i64 100, .int .i64 0], .string ⟨#[130, 1, 193, 1]⟩] w fun e w' => e = .returned (.tuple #[.string X, .int .i64 8]) ∧ Below w.heap.size w w' from hX)
    have HY := Lib.hid (show ∀ w, Calls Tryz.prog 21 #[.agg #[.int .i64 2, .int .i64 (t : Int), .int .i64 4, .int .i64 100, .int .i64 0], .string ⟨#[130, 1]⟩] w fun e w' => e = .returned (.tuple #[.string Y, .int .i64 3]) ∧ Below w.heap.size w w' from hY)
    have hcat : (⟨#[130, 1]⟩ : ByteArray) ++ ⟨#[193, 1]⟩ = ⟨#[130, 1, 193, 1]⟩ := rfl
    obtain rfl := hE (by omega)
    clear hX hY hE hG KB
    go_enter Tryz.func4, Tryz.ntmps4
    go_wp2_with (fail)
    refine (HA.out _).mono ?_
    rintro e w1 ⟨rfl, b1⟩
    have HB1 := Lib.hid (BT.out _ _ B1.out b1)
    have HS := Lib.hid (fun o o' => ((Own.Turn.refl (Own.Has.nil ((w1.alloc o).alloc o'))).allocRow (w1.heap.size + 1 + 1) (by rw [Json.size_alloc, Json.size_alloc]) 23 [.int .i64 2, .int .i64 (t : Int), .int .i64 4, .int .i64 100, .int .i64 0]))
    clear b1
    go_wp2_with (fail)
    refine (HX.out _).mono ?_
    rintro e w2 ⟨rfl, b2⟩
    have HB2 := Lib.hid b2
    have T2 := Lib.hid ((HS.out _ _).trans (Own.Turn.of_below (HS.out _ _).has b2))
    have c0 := T2.out.has.cell _ _ _ (List.mem_cons_self ..) 0 _ rfl
    have c1 := T2.out.has.cell _ _ _ (List.mem_cons_self ..) 1 _ rfl
    have c2 := T2.out.has.cell _ _ _ (List.mem_cons_self ..) 2 _ rfl
    have c3 := T2.out.has.cell _ _ _ (List.mem_cons_self ..) 3 _ rfl
    have c4 := T2.out.has.cell _ _ _ (List.mem_cons_self ..) 4 _ rfl
    clear b2
    go_wp2_with (fail)
    refine (HY.out _).mono ?_
    rintro e w3 ⟨rfl, b3⟩
    have HB3 := Lib.hid b3
    clear b3
    go_wp2
    go_ret
    exact ⟨rfl, BT.out _ _ (BT.out _ _ (B0.out _ _ (B0.out _ _ (B0.out _ _ HB1.out))) HB2.out) HB3.out⟩
end Go.Proofs.YthnbpnfaghjamaaGreat.pipeKinds
