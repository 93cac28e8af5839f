/- The ring's other functions: a new one, taking the first bytes, taking all away. -/
import Derived.Test.YtpeimoknmlmppaaRing
namespace Go.Proofs.Ytpeimoknmlmppaa
open Go.RowKit
namespace Ring

def St.drop (r : St) (k : Nat) : St := ⟨r.l, (r.first + k) % r.l.length, r.n - k⟩

theorem St.Fits.drop {r : St} (f : r.Fits) (k : Nat) : (r.drop k).Fits :=
  ⟨Nat.mod_lt _ (Nat.lt_of_le_of_lt (Nat.zero_le _) f.first), Nat.le_trans (Nat.sub_le _ _) f.n, f.small⟩

theorem St.all_drop (r : St) (k : Nat) (h : k ≤ r.n) : (r.drop k).all = r.all.drop k := circ_drop _ _ _ _ h

section
variable {r : St} {rb bb : Nat} {w : World}

theorem cells_drop (r : St) (bb k : Nat) (x y : Int) (hx : x = ((r.drop k).first : Int)) (hy : y = ((r.drop k).n : Int)) :
    ((cells r bb).set 1 (.int .i64 x)).set 2 (.int .i64 y) = cells (r.drop k) bb := by
  subst hx hy
  simp [cells, St.drop]

theorem turnDrop {a : Own.Heap} {u v : World} (t : Own.Turn a (heap r rb bb) u v) (k : Nat) (x y : Int) (hx : x = ((r.drop k).first : Int)) (hy : y = ((r.drop k).n : Int)) :
    Own.Turn a (heap (r.drop k) rb bb) u ((v.setCell ⟨rb, 1, none⟩ (.int .i64 x)).setCell ⟨rb, 2, none⟩ (.int .i64 y)) := by
  have t2 := Own.Turn.set (Own.Turn.set t 1 (.int .i64 x) (by simp [cells])) 2 (.int .i64 y) (by simp [cells])
  rw [cells_drop r bb k x y hx hy] at t2
  exact t2

theorem new_any (n : Nat) (h1 : 1 ≤ n) (h2 : n ≤ 1000) (w : World) : Calls Try.prog 43 #[.int .i64 (n : Int)] w fun e w' => ∃ rb bb, e = .returned (.pointer (some ⟨rb, 0, none⟩)) ∧
    Own.Turn [] (heap ⟨List.replicate n 0, 0, 0⟩ rb bb) w w' := by
  have hmk := run_make_row' (P := Try.prog) 27 5 (.int .u8 0) 1 Try.underlying27 (by kernel_rfl) rfl .i64 .i64 n (by omega) (by omega)
  have hle : ¬ (n : Int) < 0 := by omega
  have hle2 : (n : Int) ≤ 10000 := by omega
  go_enter Try.func43, Try.ntmps43
  go_wp2
  all_goals first | (exfalso; omega) | skip
  all_goals go_ret
  all_goals
    refine ⟨w.heap.size + 1, rfl, w.heap.size, ?_⟩
    have := (((Own.Turn.refl (Own.Has.nil w)).allocAt _ rfl (.cells (madeCells #[.int .u8 0] n) 5)).allocAt (w.heap.size + 1) (by simp) (.cells #[.slice (some ⟨w.heap.size, 0, none⟩) n n, .int .i64 0, .int .i64 0] 91))
    rw [Own.made_list] at this
    simp only [heap, cells, bytes, List.map_replicate, List.length_replicate]
    rw [Own.made_list]
    exact this

set_option maxRecDepth 100000 in
set_option maxHeartbeats 1000000 in
theorem take_any (h : Own.Has w (heap r rb bb)) (f : r.Fits) (m : Nat) (hm : m ≤ 1000000) :
    Calls Try.prog 69 #[.pointer (some ⟨rb, 0, none⟩), .int .i64 (m : Int)] w fun e w' => ∃ r' : St, e = .returned (.string ⟨(r.all.take m).toArray⟩) ∧
      r'.Fits ∧ r'.l.length = r.l.length ∧ r'.all = r.all.drop m ∧ Own.Turn (heap r rb bb) (heap r' rb bb) w w' := by
  have HP := Lib.hid (peek_any h f m hm)
  have Hm := Lib.hid hm
  clear hm
  obtain ⟨S, hS⟩ : ∃ S : ByteArray, S = ⟨(r.all.take m).toArray⟩ := ⟨_, rfl⟩
  have HSz := Lib.hid (show S.size = min m r.n by rw [hS]; show (List.take m r.all).toArray.size = _; rw [List.size_toArray, List.length_take, St.length_all])
  have hSle : S.size ≤ 10000 := by have := HSz.out; have := f.n; have := f.small; omega
  rw [← hS] at HP ⊢
  have HS := Lib.hid hS
  clear hS
  go_enter Try.func69, Try.ntmps69
  go_wp2_with (fail)
  refine HP.out.mono ?_
  rintro e W1 ⟨rfl, ht⟩
  have b1 := f.first
  have b2 := f.n
  have b3 := f.small
  by_cases h0 : S.size = 0
  · have h0' : (S.size : Int) = 0 := by omega
    have HR := Lib.hid (show r.all.drop m = r.all by
      have := HSz.out
      rcases Nat.eq_zero_or_pos m with e | e
      · rw [e]; rfl
      · have hr0 : r.all = [] := List.eq_nil_of_length_eq_zero (by rw [St.length_all]; omega)
        rw [hr0, List.drop_nil])
    clear h0
    go_wp2
    all_goals go_ret
    all_goals exact ⟨r, rfl, f, rfl, HR.out.symm, ht⟩
  · have c0 := cell0 ht.has
    have c1 := cell1 ht.has
    have c2 := cell2 ht.has
    have f1 := free0 ht.has 1
    have f2 := free0 ht.has 2
    obtain ⟨k, hk⟩ : ∃ k, k = S.size := ⟨_, rfl⟩
    obtain ⟨x, hx⟩ : ∃ x : Nat, x = (r.first + k) % r.l.length := ⟨_, rfl⟩
    have hmod := mod_nat r.first k r.l.length
    have hmod' := mod_nat' r.first k r.l.length
    rw [← hx] at hmod hmod'
    have hkp : (0 : Int) < (k : Int) := by omega
    have hkn : k ≤ r.n := by have := HSz.out; omega
    have hkm : k ≤ m := by have := HSz.out; omega
    have hwrap : IntKind.i64.wrap ((r.first : Int) + (k : Int)) = (r.first : Int) + (k : Int) := by rw [IntKind.wrap_i64]; omega
    have hne : ¬ r.l = [] := by intro e; rw [e] at b1; simp at b1
    have Hx := Lib.hid hx
    have Hk := Lib.hid (And.intro hkn hkm)
    have HR := Lib.hid (show r.all.drop k = r.all.drop m by
      rcases Nat.lt_or_ge m r.n with e | e
      · have h1 : k = m := by have := HSz.out; omega
        rw [h1]
      · rw [List.drop_of_length_le (by rw [St.length_all]; have := HSz.out; omega), List.drop_of_length_le (by rw [St.length_all]; omega)])
    have HSz2 := Lib.hid (And.intro h0 hSle)
    clear h0 hSle hx hkm
    have hx2 : x < r.l.length := by rw [Hx.out]; exact Nat.mod_lt _ (by omega)
    have hk' := hk.symm
    clear hk
    go_wp2
    go_still_tail 16, (by kernel_rfl)
    change wpList _ _ _ _ _ W1.drew
    go_wp2
    go_ret
    refine ⟨r.drop k, rfl, f.drop k, rfl, (St.all_drop _ _ hkn).trans HR.out, ?_⟩
    exact ht.trans (turnDrop (Own.Turn.refl ht.has) k _ _ (congrArg Nat.cast Hx.out) (by show (r.n : Int) - (k : Int) = ((r.n - k : Nat) : Int); omega)).drew

set_option maxHeartbeats 1000000 in
theorem clear_any (h : Own.Has w (heap r rb bb)) (f : r.Fits) :
    Calls Try.prog 63 #[.pointer (some ⟨rb, 0, none⟩)] w fun e w' => ∃ r' : St, (∃ v, e = .returned v) ∧
      r'.Fits ∧ r'.l.length = r.l.length ∧ r'.all = [] ∧ Own.Turn (heap r rb bb) (heap r' rb bb) w w' := by
  have hh := h
  have HL := Lib.hid (len_any hh)
  have HT := Lib.hid (fun W (hW : Own.Has W (heap r rb bb)) => take_any hW f r.n (by have := f.n; have := f.small; omega))
  have HA := Lib.hid (show r.all.drop r.n = [] from List.drop_of_length_le (by rw [St.length_all]; exact Nat.le_refl _))
  go_enter Try.func63, Try.ntmps63
  go_wp2_with (fail)
  refine HL.out.mono ?_
  rintro e W1 ⟨rfl, rfl⟩
  go_wp2_with (fail)
  refine (HT.out _ hh).mono ?_
  rintro e W1 ⟨r', rfl, f', hl, ha, ht⟩
  go_wp2
  go_ret
  exact ⟨r', ⟨_, rfl⟩, f', hl, ha.trans HA.out, ht⟩
end
end Ring
end Go.Proofs.Ytpeimoknmlmppaa
