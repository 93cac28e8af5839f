/- One takes no turns any more. -/
import Derived.Test.YtpeimoknmlmppaaWheel
import Derived.Test.YtpeimoknmlmppaaShelf
namespace Go.Proofs.Ytpeimoknmlmppaa
open Go.RowKit
namespace Wheel
open Purse (ints)

theorem ints_map (l : List Nat) : ints l = (l.map fun (n : Nat) => (n : Int)).map (Value.int .i64) := by simp [ints]

set_option maxRecDepth 100000 in
set_option maxHeartbeats 2000000 in
theorem remove_any {n : Nat} {l : List Nat} {wb : Nat} {h : Own.Heap} (i : Is n l wb h) {w : World} (hw : Own.Has w h) (hs : l.length ≤ 1000) (x : Nat) (hm : x ∈ l) :
    Calls Try.prog 38 #[.pointer (some ⟨wb, 0, none⟩), .int .i64 (x : Int)] w fun e w' => e = .returned (.bool true) ∧ ∃ h', Is n (l.take (l.idxOf x) ++ l.drop (l.idxOf x + 1)) wb h' ∧ Own.Turn h h' w w' := by
  obtain ⟨lv, hl, s, rfl⟩ := i
  have hI := index_any s (Own.Has.right (a := [_]) hw) hs x
  have hp : place l x = (l.idxOf x : Int) := by unfold place; rw [if_pos hm]
  rw [hp] at hI
  have hlt : l.idxOf x < l.length := List.idxOf_lt_length_iff.2 hm
  generalize l.idxOf x = k at *
  have HI := Lib.hid hI
  clear hI hp hm
  generalize hxs : ints l = xs at s
  cases s with
  | bare a h0 =>
    exfalso
    have h9 : l.length = 0 := by rw [← length_ints, hxs, h0]; rfl
    omega
  | row b pre spare hmx =>
    subst hxs
    have c1 := hw.cell wb _ _ (List.mem_cons_self ..) 1 _ rfl
    have hcell : ∀ j, j < (l.map fun (n : Nat) => (n : Int)).length → w.cell? ⟨b, pre.length + j, none⟩ = some (.int .i64 ((l.map fun (n : Nat) => (n : Int)).getD j 0)) := by
      intro j hj
      have hj' : j < l.length := by simpa using hj
      refine hw.cell b 3 _ (List.mem_cons_of_mem _ (List.mem_cons_self ..)) (pre.length + j) _ ?_
      rw [List.getElem?_append_right (by omega), Nat.add_sub_cancel_left, List.getElem?_append_left (by rw [length_ints]; exact hj')]
      simp [ints, hj']
    have HD := Lib.hid (Try.slices_Delete_int_cells b pre.length l.length (l.length + spare.length) k (k + 1) (l.map fun (n : Nat) => (n : Int)) w (by simp) (by omega) (by rw [length_ints] at hmx; simp only [maxLen] at hmx; omega) (by omega) (by omega) hcell
      (fun j _ => hw.free b 3 _ (List.mem_cons_of_mem _ (List.mem_cons_self ..)) (pre.length + j)))
    rw [length_ints] at c1 hmx HI
    have hkI : (0 : Int) ≤ (k : Int) := by omega
    have hk1 : wrap64 ((k : Int) + 1) = ((k + 1 : Nat) : Int) := by unfold wrap64; omega
    have HW := Lib.hid (And.intro hw (And.intro hmx hlt))
    clear hcell hw hmx hlt
    go_enter Try.func38, Try.ntmps38
    go_wp2_with (fail)
    refine HI.out.mono ?_
    rintro e W1 ⟨rfl, rfl⟩
    go_wp2_with (fail)
    refine HD.out.mono ?_
    rintro e W2 ⟨rfl, q, rfl⟩
    have hn : (List.map (Value.int .i64) (List.take k (List.take l.length (List.map (fun (n : Nat) => (n : Int)) l)) ++ List.drop (k + 1) (List.take l.length (List.map (fun (n : Nat) => (n : Int)) l)) ++ List.replicate (k + 1 - k) 0)) = ints (l.take k ++ l.drop (k + 1)) ++ [.int .i64 0] := by
      have e0 : List.take l.length (List.map (fun (n : Nat) => (n : Int)) l) = List.map (fun (n : Nat) => (n : Int)) l := List.take_of_length_le (by simp)
      rw [e0, Nat.add_sub_cancel_left]
      simp [ints, List.map_take, List.map_drop, Function.comp_def]
    rw [hn]
    obtain ⟨l2, hl2⟩ : ∃ l2, l2 = l.take k ++ l.drop (k + 1) := ⟨_, rfl⟩
    have hlen : l2.length + 1 = l.length := by rw [hl2, List.length_append, List.length_take, List.length_drop]; have := HW.out.2.2; omega
    rw [← hl2, show l.length - (k + 1 - k) = l2.length by omega]
    have t0 := ((Own.Turn.refl HW.out.1).drewN q).perm (List.Perm.refl _) (List.Perm.swap _ _ _)
    have T1 := (Own.Turn.sets (r := [_]) (ints l2 ++ [.int .i64 0]) pre (ints l) spare _ t0 (by rw [List.length_append, length_ints, length_ints]; simpa using hlen)).perm (List.Perm.refl _) (List.Perm.swap _ _ _)
    generalize (World.setCells _ b pre.length (ints l2 ++ [Value.int .i64 0])) = W3 at T1 ⊢
    have d1 := T1.has.cell wb _ _ (List.mem_cons_self ..) 1 _ rfl
    have f1 := T1.has.free wb _ _ (List.mem_cons_self ..) 1
    have T2 := Lib.hid (T1.set 1 (.slice (some ⟨b, pre.length, none⟩) l2.length (l.length + spare.length)) (by simp))
    have HL := Lib.hid (And.intro hlen hl2)
    clear T1 t0 hn hlen hl2 c1 HI HD
    go_wp2
    go_ret
    refine ⟨rfl, _, ⟨.slice (some ⟨b, pre.length, none⟩) l2.length (l.length + spare.length), [Own.row b 3 (pre ++ (ints l2 ++ (.int .i64 0 :: spare)))], ?_, rfl⟩, ?_⟩
    · rw [← HL.out.2]
      have := Own.Slc.row (e := 3) (xs := ints l2) b pre (.int .i64 0 :: spare) (by rw [length_ints]; have := HW.out.2.1; have := HL.out.1; simp; omega)
      rw [length_ints, show l2.length + (Value.int .i64 0 :: spare).length = l.length + spare.length by have := HL.out.1; simp; omega] at this
      exact this
    · have h9 := T2.out
      rw [show pre ++ (ints l2 ++ [Value.int .i64 0] ++ spare) = pre ++ (ints l2 ++ (Value.int .i64 0 :: spare)) by simp] at h9
      exact h9
end Wheel
end Go.Proofs.Ytpeimoknmlmppaa
