/- A new gateway; one that is full. -/
import Derived.Test.YtpeimoknmlmppaaGateN
namespace Go.Proofs.Ytpeimoknmlmppaa
open Go.RowKit
namespace Gate
open Purse (ints)

/-- A gateway to which nobody came. -/
def Ga.new (B n : Nat) : Ga := ⟨n, List.replicate n none, List.replicate n 0, 0, ⟨B - n * 700, List.replicate n 0, List.replicate n false⟩, [], []⟩

theorem slots_new (n : Nat) : Slots (List.replicate n none) (List.replicate n (.pointer none)) [] := by
  induction n with
  | zero => exact .nil
  | succ n ih => exact .free ih

theorem overs_rep (n : Nat) : Purse.overs (List.replicate n 0) = 0 := overs_zero _ fun x hx => by rw [(List.mem_replicate.1 hx).2]; exact Nat.zero_le _

theorem Ga.Ok.new (B n : Nat) (h : 0 < n) : (Ga.new B n).Ok where
  pos := h
  len := List.length_replicate ..
  timed := by
    intro i s hs
    have := List.mem_of_getElem? hs
    have := (List.mem_replicate.1 this).2
    simp at this
  untimed := by intro i _ hi; simp [Ga.new] at hi
  once := List.nodup_nil
  has := by simp [Ga.new, chargeO]
  opn := by simp [Ga.new]
  sess := by intro s hs; have := (List.mem_replicate.1 hs).2; simp at this
  ids := by intro x hx; rw [(List.mem_replicate.1 hx).2]; omega
  turns := by intro i _ hi; simp [Ga.new] at hi
  turnsOnce := List.nodup_nil
  turnsLive := by
    intro i s hs
    have := (List.mem_replicate.1 (List.mem_of_getElem? hs)).2
    simp at this
  few := Nat.zero_le _
  many := Nat.zero_le _

theorem Good.new (l : Lay) (B n : Nat) (h8 : n ≤ 8) (hB : B ≤ 40000) (hvs : l.vs = List.replicate n (.pointer none)) (hhs : l.hs = []) (hmv : l.mv = .map none) (hht : l.ht = []) (hw : Wheel.Is n [] l.wb l.hw) : l.Good (Ga.new B n) where
  len := List.length_replicate ..
  ids := List.length_replicate ..
  pun := List.length_replicate ..
  pu := ⟨by simp [Ga.new], by simpa [Ga.new] using h8, by show Purse.overs (List.replicate n 0) ≤ _; rw [overs_rep]; exact Nat.zero_le _, by show B - n * 700 ≤ 40000; omega⟩
  wheel := hw
  timer := by rw [hmv, hht]; exact .none rfl
  slots := by rw [hvs, hhs]; exact slots_new n

theorem _root_.Go.Proofs.Ytpeimoknmlmppaa.Own.Turn.plus {X Y : Own.Heap} {u v w : World} (t : Own.Turn [] X u v) (s : Own.Turn [] Y v w) : Own.Turn [] (Y ++ X) u w := t.trans (s.frame (a := []) t.has)

theorem ints_rep (n : Nat) : ints (List.replicate n 0) = List.replicate n (.int .i64 0) := by simp [ints]

theorem heap_new (l : Lay) (B n : Nat) (hvs : l.vs = List.replicate n (.pointer none)) (hhs : l.hs = []) (hmv : l.mv = .map none) (hht : l.ht = []) :
    l.heap (Ga.new B n) = (l.gb, .cells #[.slice (some ⟨l.sb, 0, none⟩) n n, .slice (some ⟨l.ib, 0, none⟩) n n, .int .i64 0, .pointer (some ⟨l.pb, 0, none⟩), .pointer (some ⟨l.wb, 0, none⟩), .int .i64 0, .map none] 53 (0, 0)) ::
      (l.sb, .cells (madeCells #[.pointer none] n) 54 (0, 0)) :: (l.ib, .cells (madeCells #[.int .i64 0] n) 3 (0, 0)) ::
      (Purse.heap ⟨B - n * 700, List.replicate n 0, List.replicate n false⟩ l.pb l.hb l.ob ++ l.hw) := by
  unfold Lay.heap Lay.row Lay.srow Lay.irow Lay.purse
  rw [hvs, hhs, hmv, hht, Own.made_list, Own.made_list, List.append_nil, List.append_nil]
  show Timer.at_ _ _ _ _ _ _ :: _ :: Own.row _ _ (ints (List.replicate n 0)) :: _ = _
  rw [ints_rep]
  rfl

set_option maxRecDepth 100000 in
set_option maxHeartbeats 4000000 in
theorem new_any (B n : Nat) (h1 : 1 ≤ n) (h8 : n ≤ 8) (hB : n * 700 ≤ B) (hB2 : B ≤ 40000) (w : World) :
    Calls Try.prog 8 #[.int .i64 (B : Int), .int .i64 (n : Int)] w fun e w' => ∃ l : Lay, e = .returned (.pointer (some ⟨l.gb, 0, none⟩)) ∧ l.Good (Ga.new B n) ∧ Own.Turn [] (l.heap (Ga.new B n)) w w' := by
  have hmk := run_make_row' (P := Try.prog) 46 54 (.pointer none) 8 Try.underlying46 (by kernel_rfl) rfl .i64 .i64 n (by omega) (by omega)
  have hmk2 := run_make_row' (P := Try.prog) 32 3 (.int .i64 0) 8 Try.underlying32 (by kernel_rfl) rfl .i64 .i64 n (by omega) (by omega)
  have HP := Lib.hid (Purse.new_any B n h1 h8 hB hB2 w)
  have HB := Lib.hid (And.intro h8 hB2)
  clear h1 h8 hB hB2
  go_enter Try.func8, Try.ntmps8
  go_wp2_with (fail)
  refine HP.out.mono ?_
  rintro e W0 ⟨pb, hb, ob, rfl, tp⟩
  have TP := Lib.hid tp
  clear tp HP
  go_wp2
  go_region_with (refine (Wheel.new_any n HB.out.1 _).mono ?_; rintro e W1 ⟨wb, hw, rfl, iw, tw⟩; have TW := Lib.hid tw; have IW := Lib.hid iw; clear tw iw)
  all_goals go_wp2
  all_goals go_ret
  · refine ⟨⟨W1.heap.size, W0.heap.size, W0.heap.size + 1, pb, hb, ob, wb, .map none, List.replicate n (.pointer none), hw, [], []⟩, rfl, Good.new _ B n HB.out.1 HB.out.2 rfl rfl rfl rfl IW.out, ?_⟩
    rw [heap_new _ B n rfl rfl rfl rfl]
    refine (((((TP.out.allocAt _ rfl _).allocAt (W0.heap.size + 1) (by simp) _).drew.plus TW.out).allocAt _ rfl _)).perm (List.Perm.refl _) (Own.perm_of_count _ _ fun x => ?_)
    simp only [List.count_append, List.count_cons]
    omega
  · refine ⟨⟨W1.heap.size + 1, W0.heap.size, W1.heap.size, pb, hb, ob, wb, .map none, List.replicate n (.pointer none), hw, [], []⟩, rfl, Good.new _ B n HB.out.1 HB.out.2 rfl rfl rfl rfl IW.out, ?_⟩
    rw [heap_new _ B n rfl rfl rfl rfl]
    refine (((((TP.out.allocAt _ rfl _)).drew.plus TW.out).allocAt _ rfl _).allocAt (W1.heap.size + 1) (by simp) _).perm (List.Perm.refl _) (Own.perm_of_count _ _ fun x => ?_)
    simp only [List.count_append, List.count_cons]
    omega
  · refine ⟨⟨W1.heap.size, W0.heap.size + 1, W0.heap.size, pb, hb, ob, wb, .map none, List.replicate n (.pointer none), hw, [], []⟩, rfl, Good.new _ B n HB.out.1 HB.out.2 rfl rfl rfl rfl IW.out, ?_⟩
    rw [heap_new _ B n rfl rfl rfl rfl]
    refine (((((TP.out.allocAt _ rfl _).allocAt (W0.heap.size + 1) (by simp) _).drew.plus TW.out).allocAt _ rfl _)).perm (List.Perm.refl _) (Own.perm_of_count _ _ fun x => ?_)
    simp only [List.count_append, List.count_cons]
    omega
  · refine ⟨⟨W1.heap.size + 1, W1.heap.size, W0.heap.size, pb, hb, ob, wb, .map none, List.replicate n (.pointer none), hw, [], []⟩, rfl, Good.new _ B n HB.out.1 HB.out.2 rfl rfl rfl rfl IW.out, ?_⟩
    rw [heap_new _ B n rfl rfl rfl rfl]
    refine (((((TP.out.allocAt _ rfl _)).drew.plus TW.out).allocAt _ rfl _).allocAt (W1.heap.size + 1) (by simp) _).perm (List.Perm.refl _) (Own.perm_of_count _ _ fun x => ?_)
    simp only [List.count_append, List.count_cons]
    omega
  · refine ⟨⟨W1.heap.size + 1 + 1, W1.heap.size, W1.heap.size + 1, pb, hb, ob, wb, .map none, List.replicate n (.pointer none), hw, [], []⟩, rfl, Good.new _ B n HB.out.1 HB.out.2 rfl rfl rfl rfl IW.out, ?_⟩
    rw [heap_new _ B n rfl rfl rfl rfl]
    refine (((TP.out.drew.plus TW.out).allocAt _ rfl _).allocAt (W1.heap.size + 1) (by simp) _).allocAt (W1.heap.size + 1 + 1) (by simp) _ |>.perm (List.Perm.refl _) (Own.perm_of_count _ _ fun x => ?_)
    simp only [List.count_append, List.count_cons]
    omega
  · refine ⟨⟨W1.heap.size + 1 + 1, W1.heap.size + 1, W1.heap.size, pb, hb, ob, wb, .map none, List.replicate n (.pointer none), hw, [], []⟩, rfl, Good.new _ B n HB.out.1 HB.out.2 rfl rfl rfl rfl IW.out, ?_⟩
    rw [heap_new _ B n rfl rfl rfl rfl]
    refine (((TP.out.drew.plus TW.out).allocAt _ rfl _).allocAt (W1.heap.size + 1) (by simp) _).allocAt (W1.heap.size + 1 + 1) (by simp) _ |>.perm (List.Perm.refl _) (Own.perm_of_count _ _ fun x => ?_)
    simp only [List.count_append, List.count_cons]
    omega

section
variable {l : Lay} {g : Ga} {w : World}

set_option maxHeartbeats 1000000 in
theorem full_connect (k : l.Good g) (h : Own.Has w (l.heap g)) (hfull : ∀ j : Nat, g.slots[j]? ≠ some none) :
    Calls Try.prog 9 #[.pointer (some ⟨l.gb, 0, none⟩)] w fun e w' => e = .returned (.tuple #[.int .i64 (-1), .string ⟨#[70]⟩]) ∧ w' = w := by
  have c0 := cell h 0 _ rfl
  have h8 := k.small
  have K := Lib.hid (And.intro k hfull)
  have HF := Lib.hid (full_any w)
  clear k hfull
  go_enter Try.func9, Try.ntmps9
  go_wp2
  go_loopw [13] (fun x wr => ∃ (j : Nat), x = .int .i64 j ∧ j ≤ g.n ∧ wr = w) (fun x _ => g.n - (intOf x).toNat)
  case atStart => exact ⟨0, rfl, by omega, rfl⟩
  case round =>
    obtain ⟨j, rfl, hj, rfl⟩ := hrel
    by_cases hjn : j < g.n
    · have hI : (j : Int) < (g.n : Int) := by omega
      have hjv : j < l.vs.length := by rw [K.out.1.vlen]; exact hjn
      have hjs : j < g.slots.length := by rw [K.out.1.len]; exact hjn
      have cs := cellS h j _ (List.getElem?_eq_getElem hjv)
      have hs' : ∃ s, g.slots[j]? = some (some s) := by
        cases hs : g.slots[j]'hjs with
        | none => exact absurd (by rw [List.getElem?_eq_getElem hjs, hs]) (K.out.2 j)
        | some s => exact ⟨s, by rw [List.getElem?_eq_getElem hjs, hs]⟩
      obtain ⟨s, hs'⟩ := hs'
      obtain ⟨b, _, _, _, hv, _⟩ := K.out.1.slots.some_at j s hs'
      rw [List.getElem?_eq_getElem hjv] at hv
      rw [Option.some.inj hv] at cs
      clear hs' hv
      go_wp2
      go_roundw
      case rel => exact ⟨j + 1, by go_num, by omega, trivial⟩
      case measure => simp [intOf]; omega
    · have hI : (g.n : Int) ≤ (j : Int) := by omega
      go_wp2_with (fail)
      refine HF.out.mono ?_
      rintro e W1 ⟨rfl, rfl⟩
      go_wp2
      go_ret2
      exact ⟨rfl, rfl⟩
end
end Gate
end Go.Proofs.Ytpeimoknmlmppaa
