/- The purse's functions: each computes what the plain purse does. -/
import Derived.Test.YtpeimoknmlmppaaPurseM
import Derived.Test.YtpeimoknmlmppaaProg
import Derived.OpenShut
import Derived.Deep.QuietTactic
import Derived.Deep.OwnRows
namespace Go.Proofs.Ytpeimoknmlmppaa
open Go.RowKit
namespace Purse

def cells (p : St) (hb ob : Nat) : List Value :=
  [.int .i64 (p.rest : Int), .slice (some ⟨hb, 0, none⟩) p.has.length p.has.length, .slice (some ⟨ob, 0, none⟩) p.has.length p.has.length]

/-- The memory of a purse. -/
def heap (p : St) (pb hb ob : Nat) : Own.Heap := [Own.row pb 67 (cells p hb ob), Own.row hb 3 (ints p.has), Own.row ob 4 (bools p.opn)]

section
variable {p : St} {pb hb ob : Nat} {w : World}

theorem mem0 (p : St) (pb hb ob : Nat) : Own.row pb 67 (cells p hb ob) ∈ heap p pb hb ob := List.mem_cons_self ..
theorem memH (p : St) (pb hb ob : Nat) : Own.row hb 3 (ints p.has) ∈ heap p pb hb ob := List.mem_cons_of_mem _ (List.mem_cons_self ..)
theorem memO (p : St) (pb hb ob : Nat) : Own.row ob 4 (bools p.opn) ∈ heap p pb hb ob := List.mem_cons_of_mem _ (List.mem_cons_of_mem _ (List.mem_cons_self ..))
theorem cell0 (h : Own.Has w (heap p pb hb ob)) : w.cell? ⟨pb, 0, none⟩ = some (.int .i64 (p.rest : Int)) := h.cell _ _ _ (mem0 ..) 0 _ rfl
theorem cell1 (h : Own.Has w (heap p pb hb ob)) : w.cell? ⟨pb, 1, none⟩ = some (.slice (some ⟨hb, 0, none⟩) p.has.length p.has.length) := h.cell _ _ _ (mem0 ..) 1 _ rfl
theorem cell2 (h : Own.Has w (heap p pb hb ob)) : w.cell? ⟨pb, 2, none⟩ = some (.slice (some ⟨ob, 0, none⟩) p.has.length p.has.length) := h.cell _ _ _ (mem0 ..) 2 _ rfl
theorem cellH (h : Own.Has w (heap p pb hb ob)) (i : Nat) (hi : i < p.has.length) : w.cell? ⟨hb, i, none⟩ = some (.int .i64 ((p.has[i]'hi : Nat) : Int)) := h.cell _ _ _ (memH ..) i _ (by simp [ints, hi])
theorem cellO (h : Own.Has w (heap p pb hb ob)) (i : Nat) (hi : i < p.opn.length) : w.cell? ⟨ob, i, none⟩ = some (.bool (p.opn[i]'hi)) := h.cell _ _ _ (memO ..) i _ (by simp [bools, hi])
theorem freeH (h : Own.Has w (heap p pb hb ob)) (i : Nat) : w.frozen? ⟨hb, i, none⟩ = false := h.free _ _ _ (memH ..) i
theorem freeO (h : Own.Has w (heap p pb hb ob)) (i : Nat) : w.frozen? ⟨ob, i, none⟩ = false := h.free _ _ _ (memO ..) i

theorem over_any (n : Nat) (w : World) (hn : n ≤ 1000000) : Calls Try.prog 57 #[.int .i64 (n : Int)] w fun e w' => e = .returned (.int .i64 (over n : Int)) ∧ w' = w := by
  go_enter Try.func57, Try.ntmps57
  go_wp2
  all_goals go_ret
  all_goals exact ⟨Own.ret_int (by unfold over; omega), rfl⟩

theorem is_any (h : Own.Has w (heap p pb hb ob)) (f : p.Fits) (i : Nat) (hi : i < p.opn.length) :
    Calls Try.prog 48 #[.pointer (some ⟨pb, 0, none⟩), .int .i64 (i : Int)] w fun e w' => e = .returned (.bool (p.opn[i]'hi)) ∧ w' = w := by
  have c2 := cell2 h
  have ci := cellO h i hi
  have hlt : (i : Int) < (p.has.length : Int) := by rw [f.same]; omega
  have hlt2 : (i : Nat) < p.has.length := by rw [f.same]; omega
  go_enter Try.func48, Try.ntmps48
  go_wp2
  all_goals go_ret
  all_goals exact ⟨rfl, rfl⟩

theorem ints_set (l : List Nat) (i x : Nat) : (ints l).set i (.int .i64 (x : Int)) = ints (l.set i x) := by simp [ints, List.map_set]
theorem bools_set (l : List Bool) (i : Nat) (x : Bool) : (bools l).set i (.bool x) = bools (l.set i x) := by simp [bools, List.map_set]

theorem turnH {a : Own.Heap} {u v : World} (t : Own.Turn a (heap p pb hb ob) u v) (i x : Nat) (hi : i < p.has.length) :
    Own.Turn a (heap (p.put i x) pb hb ob) u (v.setCell ⟨hb, i, none⟩ (.int .i64 (x : Int))) := by
  have := Own.Turn.setAt (A := [_]) t i (.int .i64 (x : Int)) (by simpa [ints] using hi)
  rw [ints_set] at this
  have e : cells (p.put i x) hb ob = cells p hb ob := by simp [cells, St.put]
  show Own.Turn a [Own.row pb _ (cells (p.put i x) hb ob), _, _] _ _
  rw [e]
  exact this

theorem turnO {a : Own.Heap} {u v : World} (t : Own.Turn a (heap p pb hb ob) u v) (i : Nat) (x : Bool) (hi : i < p.opn.length) :
    Own.Turn a (heap (p.turn i x) pb hb ob) u (v.setCell ⟨ob, i, none⟩ (.bool x)) := by
  have := Own.Turn.setAt (A := [_, _]) t i (.bool x) (by simpa [bools] using hi)
  rw [bools_set] at this
  exact this

theorem open_any (h : Own.Has w (heap p pb hb ob)) (f : p.Fits) (i : Nat) (hi : i < p.opn.length) (hc : p.opn[i]'hi = false) :
    Calls Try.prog 23 #[.pointer (some ⟨pb, 0, none⟩), .int .i64 (i : Int)] w fun e w' => e = .returned (.bool true) ∧
      Own.Turn (heap p pb hb ob) (heap (p.turn i true) pb hb ob) w w' := by
  have c2 := cell2 h
  have ci := cellO h i hi
  rw [hc] at ci
  have fi := freeO h i
  have hlt : (i : Int) < (p.has.length : Int) := by rw [f.same]; omega
  have hlt2 : (i : Nat) < p.has.length := by rw [f.same]; omega
  have T1 := Lib.hid (turnO (Own.Turn.refl h) i true hi)
  go_enter Try.func23, Try.ntmps23
  go_wp2
  all_goals go_ret
  all_goals exact ⟨rfl, T1.out⟩

set_option maxHeartbeats 1000000 in
theorem shared_any (h : Own.Has w (heap p pb hb ob)) (f : p.Fits) :
    Calls Try.prog 49 #[.pointer (some ⟨pb, 0, none⟩)] w fun e w' => e = .returned (.int .i64 (p.left : Int)) ∧ w' = w := by
  have c0 := cell0 h
  have c1 := cell1 h
  have hf1 := f.room
  have hf2 := f.small
  have hf3 := f.few
  have hf4 := f.same
  have hl := Lib.hid (show (p.left : Int) = (p.rest : Int) - (overs p.has : Int) by unfold St.left; omega)
  go_enter Try.func49, Try.ntmps49
  go_wp2
  go_loopw [3, 17] (fun fr k wr => ∃ (k' : Nat), k = .int .i64 k' ∧ fr = .int .i64 ((p.rest : Int) - overs (p.has.take k')) ∧ k' ≤ p.has.length ∧ wr = w) (fun _ k _ => p.has.length - (intOf k).toNat)
  case atStart => exact ⟨0, rfl, by simp [overs], by omega, rfl⟩
  case round =>
    obtain ⟨k, rfl, rfl, hk, rfl⟩ := hrel
    by_cases hkl : k < p.has.length
    · have ck := cellH h k hkl
      have ht := Lib.hid (overs_take_succ p.has k hkl)
      have hle := overs_take_le p.has (k + 1)
      rw [ht.out] at hle
      have hone := f.one k hkl
      have hlt : (k : Int) < (p.has.length : Int) := by omega
      have HO := Lib.hid (fun W => over_any (p.has[k]'hkl) W (by omega))
      obtain ⟨O, hO⟩ : ∃ O, O = over (p.has[k]'hkl) := ⟨_, rfl⟩
      obtain ⟨A, hA⟩ : ∃ A, A = overs (p.has.take k) := ⟨_, rfl⟩
      obtain ⟨B, hB⟩ : ∃ B, B = overs p.has := ⟨_, rfl⟩
      rw [← hO] at HO ht hle
      rw [← hA] at ht hle ⊢
      rw [← hB] at hf1 hle
      clear hO hA hB hone
      go_wp2_with (fail)
      refine (HO.out _).mono ?_
      rintro e W1 ⟨rfl, rfl⟩
      go_wp2
      go_roundw
      case rel => refine ⟨k + 1, by go_num, ?_, by omega, trivial⟩; rw [ht.out]; congr 1; omega
      case measure => simp [intOf]; omega
    · have hk2 : (p.has.length : Int) ≤ (k : Int) := by omega
      have ht := Lib.hid (List.take_of_length_le (show p.has.length ≤ k by omega))
      go_wp2
      go_ret
      exact ⟨Own.ret_int (by rw [ht.out, hl.out]), rfl⟩

set_option maxHeartbeats 1000000 in
theorem set_any (h : Own.Has w (heap p pb hb ob)) (f : p.Fits) (i x : Nat) (hi : i < p.has.length) (hx : x ≤ 1000000) (ho : p.opn[i]'(f.same ▸ hi) = true) (hm : over x ≤ p.left + over (p.has[i]'hi)) :
    Calls Try.prog 44 #[.pointer (some ⟨pb, 0, none⟩), .int .i64 (i : Int), .int .i64 (x : Int)] w fun e w' => e = .returned (.bool true) ∧
      Own.Turn (heap p pb hb ob) (heap (p.put i x) pb hb ob) w w' := by
  have c1 := cell1 h
  have ci := cellH h i hi
  have fi := freeH h i
  have hlt : (i : Int) < (p.has.length : Int) := by omega
  have hone := f.one i hi
  have hl : p.left ≤ 40000 := by unfold St.left; have := f.small; omega
  have ho2 : over (p.has[i]'hi) ≤ 40700 := by unfold over; omega
  have T1 := Lib.hid (fun n => turnH ((Own.Turn.refl h).drewN n) i x hi)
  have H1 := Lib.hid (fun n => ho ▸ is_any (h.drewN n) f i (f.same ▸ hi))
  have H2 := Lib.hid (fun n => over_any x (w.drewN n) hx)
  have H3 := Lib.hid (fun n => shared_any (h.drewN n) f)
  have H4 := Lib.hid (fun n => over_any (p.has[i]'hi) (w.drewN n) (by omega))
  obtain ⟨X, hX⟩ : ∃ X, X = over x := ⟨_, rfl⟩
  obtain ⟨Y, hY⟩ : ∃ X, X = over (p.has[i]'hi) := ⟨_, rfl⟩
  rw [← hX] at hm H2
  rw [← hY] at hm H4 ho2
  clear hX hY
  have D1 := Lib.hid (show decide ((x : Int) < 0) = false by simp)
  have D2 := Lib.hid (show decide (IntKind.i64.wrap ((p.left : Int) + (Y : Int)) < (X : Int)) = false by rw [IntKind.wrap_i64, decide_eq_false_iff_not]; omega)
  go_enter Try.func44, Try.ntmps44
  go_wp2
  go_quiet (first | exact Calls.quiet_of_same (H1.out _) | exact Calls.quiet_of_same (H2.out _) | exact Calls.quiet_of_same (H3.out _) | exact Calls.quiet_of_same (H4.out _))
  simp only [D1.out, D2.out, Bool.or_false]
  go_wp2
  go_ret
  exact ⟨rfl, T1.out _⟩

set_option maxHeartbeats 1000000 in
theorem left_any (h : Own.Has w (heap p pb hb ob)) (f : p.Fits) (i : Nat) (hi : i < p.has.length) (ho : p.opn[i]'(f.same ▸ hi) = true) :
    Calls Try.prog 30 #[.pointer (some ⟨pb, 0, none⟩), .int .i64 (i : Int)] w fun e w' => e = .returned (.int .i64 ((700 - (p.has[i]'hi) + p.left : Nat) : Int)) ∧ ∃ n, w' = w.drewN n := by
  have c1 := cell1 h
  have ci := cellH h i hi
  have hlt : (i : Int) < (p.has.length : Int) := by omega
  have hone := f.one i hi
  have hl : p.left ≤ 40000 := by unfold St.left; have := f.small; omega
  have H1 := Lib.hid (ho ▸ is_any h f i (f.same ▸ hi))
  have H3 := Lib.hid (fun n => shared_any (h.drewN n) f)
  obtain ⟨M, hM⟩ : ∃ M : Nat, M = 700 - (p.has[i]'hi) := ⟨_, rfl⟩
  have hM2 := Lib.hid (show max (IntKind.i64.wrap (700 - ((p.has[i]'hi : Nat) : Int))) 0 = (M : Int) by rw [IntKind.wrap_i64]; omega)
  have hM3 : M ≤ 700 := by omega
  rw [← hM]
  clear hM
  go_enter Try.func30, Try.ntmps30
  go_wp2_with (fail)
  refine H1.out.mono ?_
  rintro e W1 ⟨rfl, rfl⟩
  go_wp2
  go_quiet (exact Calls.quiet_of_same (H3.out _))
  go_wp2
  all_goals go_ret
  all_goals
    refine ⟨Own.ret_int ?_, _, rfl⟩
    have h2 := hM2.out
    have h3 : (0 : Int) ≤ (p.has[i]'hi : Nat) := Int.natCast_nonneg _
    generalize ((p.has[i]'hi : Nat) : Int) = V at *
    generalize p.left = L at *
    simp only [IntKind.wrap_i64] at *
    omega

theorem has_any (h : Own.Has w (heap p pb hb ob)) (f : p.Fits) (i : Nat) (hi : i < p.has.length) (ho : p.opn[i]'(f.same ▸ hi) = true) :
    Calls Try.prog 32 #[.pointer (some ⟨pb, 0, none⟩), .int .i64 (i : Int)] w fun e w' => e = .returned (.int .i64 ((p.has[i]'hi : Nat) : Int)) ∧ w' = w := by
  have c1 := cell1 h
  have ci := cellH h i hi
  have hlt : (i : Int) < (p.has.length : Int) := by omega
  have H1 := Lib.hid (ho ▸ is_any h f i (f.same ▸ hi))
  go_enter Try.func32, Try.ntmps32
  go_wp2_with (fail)
  refine H1.out.mono ?_
  rintro e W1 ⟨rfl, rfl⟩
  go_wp2
  go_ret
  exact ⟨rfl, rfl⟩

set_option maxHeartbeats 1000000 in
theorem total_any (h : Own.Has w (heap p pb hb ob)) (f : p.Fits) :
    Calls Try.prog 33 #[.pointer (some ⟨pb, 0, none⟩)] w fun e w' => e = .returned (.int .i64 (p.has.sum : Int)) ∧ w' = w := by
  have c1 := cell1 h
  have hf3 := f.few
  have hf4 := f.same
  go_enter Try.func33, Try.ntmps33
  go_wp2
  go_loopw [3, 13] (fun fr k wr => ∃ (k' : Nat), k = .int .i64 k' ∧ fr = .int .i64 ((p.has.take k').sum : Int) ∧ k' ≤ p.has.length ∧ (p.has.take k').sum ≤ k' * 40700 ∧ wr = w) (fun _ k _ => p.has.length - (intOf k).toNat)
  case atStart => exact ⟨0, rfl, by simp, by omega, by simp, rfl⟩
  case round =>
    obtain ⟨k, rfl, rfl, hk, hb2, rfl⟩ := hrel
    by_cases hkl : k < p.has.length
    · have ck := cellH h k hkl
      have ht := Lib.hid (sum_take_succ p.has k hkl)
      have hone := f.one k hkl
      have hlt : (k : Int) < (p.has.length : Int) := by omega
      obtain ⟨A, hA⟩ : ∃ A, A = (p.has.take k).sum := ⟨_, rfl⟩
      rw [← hA] at ht hb2 ⊢
      clear hA
      go_wp2
      go_roundw
      case rel => refine ⟨k + 1, by go_num, ?_, by omega, by rw [ht.out]; omega, trivial⟩; rw [ht.out]; congr 1
      case measure => simp [intOf]; omega
    · have hk2 : (p.has.length : Int) ≤ (k : Int) := by omega
      have ht := Lib.hid (List.take_of_length_le (show p.has.length ≤ k by omega))
      go_wp2
      go_ret
      exact ⟨Own.ret_int (by rw [ht.out]), rfl⟩

set_option maxHeartbeats 1000000 in
theorem close_any (h : Own.Has w (heap p pb hb ob)) (f : p.Fits) (i : Nat) (hi : i < p.has.length) (ho : p.opn[i]'(f.same ▸ hi) = true) :
    Calls Try.prog 37 #[.pointer (some ⟨pb, 0, none⟩), .int .i64 (i : Int)] w fun e w' => (∃ v, e = .returned v) ∧
      Own.Turn (heap p pb hb ob) (heap ((p.put i 0).turn i false) pb hb ob) w w' := by
  have c1 := cell1 h
  have c2 := cell2 h
  have ci := cellH h i hi
  have co := cellO h i (f.same ▸ hi)
  have fi := freeH h i
  have fo := freeO h i
  have hlt : (i : Int) < (p.has.length : Int) := by omega
  have hne : hb ≠ ob := by
    have := h.once
    simp [heap] at this
    exact this.2
  have T1 := Lib.hid ((turnO (turnH (Own.Turn.refl h) i 0 hi) i false (f.same ▸ hi)).drew)
  have H1 := Lib.hid (ho ▸ is_any h f i (f.same ▸ hi))
  go_enter Try.func37, Try.ntmps37
  go_wp2_with (fail)
  refine H1.out.mono ?_
  rintro e W1 ⟨rfl, rfl⟩
  go_wp2
  go_region
  all_goals go_wp2
  all_goals go_ret
  all_goals exact ⟨⟨_, rfl⟩, T1.out⟩

theorem heap_made (B n pb hb ob : Nat) (hB : n * 700 ≤ B) : heap ⟨B - n * 700, List.replicate n 0, List.replicate n false⟩ pb hb ob =
    [(pb, .cells #[.int .i64 ((B : Int) - (n : Int) * 700), .slice (some ⟨hb, 0, none⟩) n n, .slice (some ⟨ob, 0, none⟩) n n] 67 (0, 0)),
      (hb, .cells (madeCells #[.int .i64 0] n) 3 (0, 0)), (ob, .cells (madeCells #[.bool false] n) 4 (0, 0))] := by
  have e1 : ((B - n * 700 : Nat) : Int) = (B : Int) - (n : Int) * 700 := by omega
  rw [Own.made_list, Own.made_list]
  simp [heap, cells, ints, bools, e1]

set_option maxHeartbeats 1000000 in
theorem new_any (B n : Nat) (h1 : 1 ≤ n) (h8 : n ≤ 8) (hB : n * 700 ≤ B) (hB2 : B ≤ 40000) (w : World) :
    Calls Try.prog 20 #[.int .i64 (B : Int), .int .i64 (n : Int)] w fun e w' => ∃ pb hb ob, e = .returned (.pointer (some ⟨pb, 0, none⟩)) ∧
      Own.Turn [] (heap ⟨B - n * 700, List.replicate n 0, List.replicate n false⟩ pb hb ob) w w' := by
  have hmk := run_make_row' (P := Try.prog) 32 3 (.int .i64 0) 8 Try.underlying32 (by kernel_rfl) rfl .i64 .i64 n (by omega) (by omega)
  have hmk2 := run_make_row' (P := Try.prog) 65 4 (.bool false) 1 Try.underlying65 (by kernel_rfl) rfl .i64 .i64 n (by omega) (by omega)
  go_enter Try.func20, Try.ntmps20
  go_wp2
  go_region
  all_goals go_wp2
  all_goals go_ret
  · refine ⟨w.heap.size + 1 + 1, w.heap.size, w.heap.size + 1, rfl, ?_⟩
    rw [heap_made B n _ _ _ hB]
    exact ((((Own.Turn.refl (Own.Has.nil w)).allocAt _ rfl _).allocAt _ (by simp) _).allocAt _ (by simp) _).drew.perm (List.Perm.refl _) (List.Perm.cons _ (List.Perm.swap _ _ _))
  · refine ⟨w.heap.size + 1 + 1, w.heap.size + 1, w.heap.size, rfl, ?_⟩
    rw [heap_made B n _ _ _ hB]
    exact ((((Own.Turn.refl (Own.Has.nil w)).allocAt _ rfl _).allocAt _ (by simp) _).allocAt _ (by simp) _).drew
end
end Purse
end Go.Proofs.Ytpeimoknmlmppaa
