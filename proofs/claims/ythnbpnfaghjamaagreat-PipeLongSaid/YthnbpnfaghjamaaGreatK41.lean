/- Texts of the walk, joined. -/
import Derived.Test.YthnbpnfaghjamaaGreatK37
import Derived.Deep.RegionHeld3
import Derived.Deep.RegionLaw
import Derived.Deep.RegionWith
/- The reference's Head and length, where a byte stands ahead of a number of one byte, or of two. (Written by wip/gen_rfk.py.) -/
namespace Go.Proofs.YthnbpnfaghjamaaGreat
open Go.RowKit
open Json (Part)
namespace Pip
theorem cat_bytes1 (a : UInt8) (b : List UInt8) : (⟨#[a]⟩ : ByteArray) ++ ⟨b.toArray⟩ = ⟨(a :: b).toArray⟩ := by
 apply ByteArray.ext
 simp
theorem byte_cv (x : UInt8) (k : Nat) (V : World) (h : Own.Has V [Own.row k 5 [.int .u8 (x.toNat : Int)]]) : (convert 47 9 (.slice (some ⟨k, 0, none⟩) 1 1)).run Tryz.prog V = .ok (.string ⟨#[x]⟩) V := by
 have s := Own.Slc.row (e := 5) (xs := u8s [x]) k [] [] (by rw [u8s_length]; exact (by decide : 1 ≤ maxLen))
 rw [u8s_length] at s
 simp only [List.length_nil, Nat.add_zero, List.nil_append, List.append_nil] at s
 exact Own.Slc.run_string [x] 47 9 Tryz.underlying47 Tryz.underlying5 Tryz.underlying9 s h
set_option maxRecDepth 100000 in
set_option maxHeartbeats 4000000 in
theorem rhead2_one (v : Nat) (h1 : 24 ≤ v) (h2 : v < 256) (w : World) :
  Calls Tryz.prog 45 #[.int .i64 2, .int .u64 (v : Int)] w fun e w' => e = .returned (.string ⟨(put 2 v).toArray⟩) ∧ Below w.heap.size w w' := by
 have HP := Lib.hid (show put 2 v = 88 :: big v 1 by unfold put; rw [if_neg (by omega), if_pos h2]; rfl)
 obtain ⟨X, hX⟩ : ∃ S : ByteArray, S = ⟨(big v 1).toArray⟩ := ⟨_, rfl⟩
 have hB := fun u => rbig1_any v (by omega) u
 rw [← hX] at hB
 have HBig := Lib.hid hB
 have z2 : X.size = 1 := by rw [hX, big_1]; rfl
 have hcat : (⟨#[88]⟩ : ByteArray) ++ X = ⟨(put 2 v).toArray⟩ := by rw [hX, HP.out]; exact cat_bytes1 88 (big v 1)
 have Hcat := Lib.hid hcat
 have HCV := Lib.hid (fun (V : World) (b : Nat) (h : Own.Has V [Own.row b 5 [.int .u8 88]]) => byte_cv 88 b V h)
 have B0 := Lib.hid (Below.refl w.heap.size w)
 have BA := Lib.hid (fun (u : World) (o : Obj) (b : Below w.heap.size w u) => b.alloc b.size o)
 have BD := Lib.hid (fun (u : World) (o : Obj) (b : Below w.heap.size w u) => (b.alloc b.size o).drew)
 have BT := Lib.hid (fun (u V : World) (b : Below w.heap.size w u) (b2 : Below u.heap.size u V) => (b.trans (b2.mono b.size) : Below w.heap.size w V))
 have HasA := Lib.hid (fun (u V : World) (b : Below (u.alloc (.cells #[.int .u8 88] 5)).heap.size (u.alloc (.cells #[.int .u8 88] 5)) V) =>
  (((Own.Turn.refl (Own.Has.nil u)).allocRow u.heap.size rfl 5 [.int .u8 88]).has.below b))
 have HasAD := Lib.hid (fun (u V : World) (b : Below (u.alloc (.cells #[.int .u8 88] 5)).drew.heap.size (u.alloc (.cells #[.int .u8 88] 5)).drew V) =>
  (((Own.Turn.refl (Own.Has.nil u)).allocRow u.heap.size rfl 5 [.int .u8 88]).drew.has.below b))
 have hcv1 := fun u : World => HCV.out _ _ ((Own.Turn.refl (Own.Has.nil u)).allocRow u.heap.size rfl 5 [.int .u8 88]).drew.has
 have hcv0 := fun u : World => HCV.out _ _ ((Own.Turn.refl (Own.Has.nil u)).allocRow u.heap.size rfl 5 [.int .u8 88]).has
 have hwr : IntKind.u8.wrap 88 = 88 := by rw [IntKind.wrap_u8]; rfl
 have i1 : ¬ (v : Int) < 24 := by omega
 have i2 : (v : Int) < 256 := by omega
 clear hX hB hcat
 go_enter Tryz.func45, Tryz.ntmps45
 go_wp2_with (fail)
 go_region_held (fun u => Below w.heap.size w u)
  (first | assumption | exact B0.out | exact B0.out.drew | exact BA.out _ _ (by assumption) | exact BD.out _ _ (by assumption) | exact BA.out _ _ B0.out | exact BD.out _ _ B0.out | exact BT.out _ _ (by assumption) (by assumption) | (trace_state; fail))
  (first | (go_at_call 57; refine (HBig.out _).mono ?_; rintro e W ⟨rfl, b⟩; (first | (have hcvW := HCV.out _ _ (HasAD.out _ _ b); have hHas := Lib.hid (HasAD.out _ _ b)) | (have hcvW := HCV.out _ _ (HasA.out _ _ b); have hHas := Lib.hid (HasA.out _ _ b)) | skip)))
 all_goals
  go_wp2
  go_ret
  exact ⟨Own.ret_string Hcat.out, by assumption⟩
set_option maxRecDepth 100000 in
set_option maxHeartbeats 4000000 in
theorem rhead2_two (v : Nat) (h1 : 256 ≤ v) (h2 : v < 65536) (w : World) :
  Calls Tryz.prog 45 #[.int .i64 2, .int .u64 (v : Int)] w fun e w' => e = .returned (.string ⟨(put 2 v).toArray⟩) ∧ Below w.heap.size w w' := by
 have HP := Lib.hid (show put 2 v = 89 :: big v 2 by unfold put; rw [if_neg (by omega), if_neg (by omega), if_pos h2]; rfl)
 obtain ⟨X, hX⟩ : ∃ S : ByteArray, S = ⟨(big v 2).toArray⟩ := ⟨_, rfl⟩
 have hB := fun u => rbig2_any v (by omega) u
 rw [← hX] at hB
 have HBig := Lib.hid hB
 have z2 : X.size = 2 := by rw [hX, big_2]; rfl
 have hcat : (⟨#[89]⟩ : ByteArray) ++ X = ⟨(put 2 v).toArray⟩ := by rw [hX, HP.out]; exact cat_bytes1 89 (big v 2)
 have Hcat := Lib.hid hcat
 have HCV := Lib.hid (fun (V : World) (b : Nat) (h : Own.Has V [Own.row b 5 [.int .u8 89]]) => byte_cv 89 b V h)
 have B0 := Lib.hid (Below.refl w.heap.size w)
 have BA := Lib.hid (fun (u : World) (o : Obj) (b : Below w.heap.size w u) => b.alloc b.size o)
 have BD := Lib.hid (fun (u : World) (o : Obj) (b : Below w.heap.size w u) => (b.alloc b.size o).drew)
 have BT := Lib.hid (fun (u V : World) (b : Below w.heap.size w u) (b2 : Below u.heap.size u V) => (b.trans (b2.mono b.size) : Below w.heap.size w V))
 have HasA := Lib.hid (fun (u V : World) (b : Below (u.alloc (.cells #[.int .u8 89] 5)).heap.size (u.alloc (.cells #[.int .u8 89] 5)) V) =>
  (((Own.Turn.refl (Own.Has.nil u)).allocRow u.heap.size rfl 5 [.int .u8 89]).has.below b))
 have HasAD := Lib.hid (fun (u V : World) (b : Below (u.alloc (.cells #[.int .u8 89] 5)).drew.heap.size (u.alloc (.cells #[.int .u8 89] 5)).drew V) =>
  (((Own.Turn.refl (Own.Has.nil u)).allocRow u.heap.size rfl 5 [.int .u8 89]).drew.has.below b))
 have hcv1 := fun u : World => HCV.out _ _ ((Own.Turn.refl (Own.Has.nil u)).allocRow u.heap.size rfl 5 [.int .u8 89]).drew.has
 have hcv0 := fun u : World => HCV.out _ _ ((Own.Turn.refl (Own.Has.nil u)).allocRow u.heap.size rfl 5 [.int .u8 89]).has
 have hwr : IntKind.u8.wrap 89 = 89 := by rw [IntKind.wrap_u8]; rfl
 have i1 : ¬ (v : Int) < 24 := by omega
 have i2 : ¬ (v : Int) < 256 := by omega
 have i3 : (v : Int) < 65536 := by omega
 clear hX hB hcat
 go_enter Tryz.func45, Tryz.ntmps45
 go_wp2_with (fail)
 go_region_held (fun u => Below w.heap.size w u)
  (first | assumption | exact B0.out | exact B0.out.drew | exact BA.out _ _ (by assumption) | exact BD.out _ _ (by assumption) | exact BA.out _ _ B0.out | exact BD.out _ _ B0.out | exact BT.out _ _ (by assumption) (by assumption) | (trace_state; fail))
  (first | (go_at_call 57; refine (HBig.out _).mono ?_; rintro e W ⟨rfl, b⟩; (first | (have hcvW := HCV.out _ _ (HasAD.out _ _ b); have hHas := Lib.hid (HasAD.out _ _ b)) | (have hcvW := HCV.out _ _ (HasA.out _ _ b); have hHas := Lib.hid (HasA.out _ _ b)) | skip)))
 all_goals
  go_wp2
  go_ret
  exact ⟨Own.ret_string Hcat.out, by assumption⟩
set_option maxRecDepth 100000 in
set_option maxHeartbeats 4000000 in
theorem rhead3_one (v : Nat) (h1 : 24 ≤ v) (h2 : v < 256) (w : World) :
  Calls Tryz.prog 45 #[.int .i64 3, .int .u64 (v : Int)] w fun e w' => e = .returned (.string ⟨(put 3 v).toArray⟩) ∧ Below w.heap.size w w' := by
 have HP := Lib.hid (show put 3 v = 120 :: big v 1 by unfold put; rw [if_neg (by omega), if_pos h2]; rfl)
 obtain ⟨X, hX⟩ : ∃ S : ByteArray, S = ⟨(big v 1).toArray⟩ := ⟨_, rfl⟩
 have hB := fun u => rbig1_any v (by omega) u
 rw [← hX] at hB
 have HBig := Lib.hid hB
 have z2 : X.size = 1 := by rw [hX, big_1]; rfl
 have hcat : (⟨#[120]⟩ : ByteArray) ++ X = ⟨(put 3 v).toArray⟩ := by rw [hX, HP.out]; exact cat_bytes1 120 (big v 1)
 have Hcat := Lib.hid hcat
 have HCV := Lib.hid (fun (V : World) (b : Nat) (h : Own.Has V [Own.row b 5 [.int .u8 120]]) => byte_cv 120 b V h)
 have B0 := Lib.hid (Below.refl w.heap.size w)
 have BA := Lib.hid (fun (u : World) (o : Obj) (b : Below w.heap.size w u) => b.alloc b.size o)
 have BD := Lib.hid (fun (u : World) (o : Obj) (b : Below w.heap.size w u) => (b.alloc b.size o).drew)
 have BT := Lib.hid (fun (u V : World) (b : Below w.heap.size w u) (b2 : Below u.heap.size u V) => (b.trans (b2.mono b.size) : Below w.heap.size w V))
 have HasA := Lib.hid (fun (u V : World) (b : Below (u.alloc (.cells #[.int .u8 120] 5)).heap.size (u.alloc (.cells #[.int .u8 120] 5)) V) =>
  (((Own.Turn.refl (Own.Has.nil u)).allocRow u.heap.size rfl 5 [.int .u8 120]).has.below b))
 have HasAD := Lib.hid (fun (u V : World) (b : Below (u.alloc (.cells #[.int .u8 120] 5)).drew.heap.size (u.alloc (.cells #[.int .u8 120] 5)).drew V) =>
  (((Own.Turn.refl (Own.Has.nil u)).allocRow u.heap.size rfl 5 [.int .u8 120]).drew.has.below b))
 have hcv1 := fun u : World => HCV.out _ _ ((Own.Turn.refl (Own.Has.nil u)).allocRow u.heap.size rfl 5 [.int .u8 120]).drew.has
 have hcv0 := fun u : World => HCV.out _ _ ((Own.Turn.refl (Own.Has.nil u)).allocRow u.heap.size rfl 5 [.int .u8 120]).has
 have hwr : IntKind.u8.wrap 120 = 120 := by rw [IntKind.wrap_u8]; rfl
 have i1 : ¬ (v : Int) < 24 := by omega
 have i2 : (v : Int) < 256 := by omega
 clear hX hB hcat
 go_enter Tryz.func45, Tryz.ntmps45
 go_wp2_with (fail)
 go_region_held (fun u => Below w.heap.size w u)
  (first | assumption | exact B0.out | exact B0.out.drew | exact BA.out _ _ (by assumption) | exact BD.out _ _ (by assumption) | exact BA.out _ _ B0.out | exact BD.out _ _ B0.out | exact BT.out _ _ (by assumption) (by assumption) | (trace_state; fail))
  (first | (go_at_call 57; refine (HBig.out _).mono ?_; rintro e W ⟨rfl, b⟩; (first | (have hcvW := HCV.out _ _ (HasAD.out _ _ b); have hHas := Lib.hid (HasAD.out _ _ b)) | (have hcvW := HCV.out _ _ (HasA.out _ _ b); have hHas := Lib.hid (HasA.out _ _ b)) | skip)))
 all_goals
  go_wp2
  go_ret
  exact ⟨Own.ret_string Hcat.out, by assumption⟩
set_option maxRecDepth 100000 in
set_option maxHeartbeats 4000000 in
theorem rhead3_two (v : Nat) (h1 : 256 ≤ v) (h2 : v < 65536) (w : World) :
  Calls Tryz.prog 45 #[.int .i64 3, .int .u64 (v : Int)] w fun e w' => e = .returned (.string ⟨(put 3 v).toArray⟩) ∧ Below w.heap.size w w' := by
 have HP := Lib.hid (show put 3 v = 121 :: big v 2 by unfold put; rw [if_neg (by omega), if_neg (by omega), if_pos h2]; rfl)
 obtain ⟨X, hX⟩ : ∃ S : ByteArray, S = ⟨(big v 2).toArray⟩ := ⟨_, rfl⟩
 have hB := fun u => rbig2_any v (by omega) u
 rw [← hX] at hB
 have HBig := Lib.hid hB
 have z2 : X.size = 2 := by rw [hX, big_2]; rfl
 have hcat : (⟨#[121]⟩ : ByteArray) ++ X = ⟨(put 3 v).toArray⟩ := by rw [hX, HP.out]; exact cat_bytes1 121 (big v 2)
 have Hcat := Lib.hid hcat
 have HCV := Lib.hid (fun (V : World) (b : Nat) (h : Own.Has V [Own.row b 5 [.int .u8 121]]) => byte_cv 121 b V h)
 have B0 := Lib.hid (Below.refl w.heap.size w)
 have BA := Lib.hid (fun (u : World) (o : Obj) (b : Below w.heap.size w u) => b.alloc b.size o)
 have BD := Lib.hid (fun (u : World) (o : Obj) (b : Below w.heap.size w u) => (b.alloc b.size o).drew)
 have BT := Lib.hid (fun (u V : World) (b : Below w.heap.size w u) (b2 : Below u.heap.size u V) => (b.trans (b2.mono b.size) : Below w.heap.size w V))
 have HasA := Lib.hid (fun (u V : World) (b : Below (u.alloc (.cells #[.int .u8 121] 5)).heap.size (u.alloc (.cells #[.int .u8 121] 5)) V) =>
  (((Own.Turn.refl (Own.Has.nil u)).allocRow u.heap.size rfl 5 [.int .u8 121]).has.below b))
 have HasAD := Lib.hid (fun (u V : World) (b : Below (u.alloc (.cells #[.int .u8 121] 5)).drew.heap.size (u.alloc (.cells #[.int .u8 121] 5)).drew V) =>
  (((Own.Turn.refl (Own.Has.nil u)).allocRow u.heap.size rfl 5 [.int .u8 121]).drew.has.below b))
 have hcv1 := fun u : World => HCV.out _ _ ((Own.Turn.refl (Own.Has.nil u)).allocRow u.heap.size rfl 5 [.int .u8 121]).drew.has
 have hcv0 := fun u : World => HCV.out _ _ ((Own.Turn.refl (Own.Has.nil u)).allocRow u.heap.size rfl 5 [.int .u8 121]).has
 have hwr : IntKind.u8.wrap 121 = 121 := by rw [IntKind.wrap_u8]; rfl
 have i1 : ¬ (v : Int) < 24 := by omega
 have i2 : ¬ (v : Int) < 256 := by omega
 have i3 : (v : Int) < 65536 := by omega
 clear hX hB hcat
 go_enter Tryz.func45, Tryz.ntmps45
 go_wp2_with (fail)
 go_region_held (fun u => Below w.heap.size w u)
  (first | assumption | exact B0.out | exact B0.out.drew | exact BA.out _ _ (by assumption) | exact BD.out _ _ (by assumption) | exact BA.out _ _ B0.out | exact BD.out _ _ B0.out | exact BT.out _ _ (by assumption) (by assumption) | (trace_state; fail))
  (first | (go_at_call 57; refine (HBig.out _).mono ?_; rintro e W ⟨rfl, b⟩; (first | (have hcvW := HCV.out _ _ (HasAD.out _ _ b); have hHas := Lib.hid (HasAD.out _ _ b)) | (have hcvW := HCV.out _ _ (HasA.out _ _ b); have hHas := Lib.hid (HasA.out _ _ b)) | skip)))
 all_goals
  go_wp2
  go_ret
  exact ⟨Own.ret_string Hcat.out, by assumption⟩
set_option maxRecDepth 100000 in
set_option maxHeartbeats 4000000 in
theorem rlen196_one (v : Nat) (h2 : v < 256) (w : World) :
  Calls Tryz.prog 46 #[.int .u64 (v : Int), .int .u8 196, .int .u8 197, .int .u8 198] w fun e w' => e = .returned (.string ⟨(sized 196 v [1, 2, 4] 0).toArray⟩) ∧ Below w.heap.size w w' := by
 have HP := Lib.hid (show sized 196 v [1, 2, 4] 0 = 196 :: big v 1 by unfold sized; rw [if_pos (.inr (by simpa using h2))]; rfl)
 obtain ⟨X, hX⟩ : ∃ S : ByteArray, S = ⟨(big v 1).toArray⟩ := ⟨_, rfl⟩
 have hB := fun u => rbig1_any v (by omega) u
 rw [← hX] at hB
 have HBig := Lib.hid hB
 have z2 : X.size = 1 := by rw [hX, big_1]; rfl
 have hcat : (⟨#[196]⟩ : ByteArray) ++ X = ⟨(sized 196 v [1, 2, 4] 0).toArray⟩ := by rw [hX, HP.out]; exact cat_bytes1 196 (big v 1)
 have Hcat := Lib.hid hcat
 have HCV := Lib.hid (fun (V : World) (b : Nat) (h : Own.Has V [Own.row b 5 [.int .u8 196]]) => byte_cv 196 b V h)
 have B0 := Lib.hid (Below.refl w.heap.size w)
 have BA := Lib.hid (fun (u : World) (o : Obj) (b : Below w.heap.size w u) => b.alloc b.size o)
 have BD := Lib.hid (fun (u : World) (o : Obj) (b : Below w.heap.size w u) => (b.alloc b.size o).drew)
 have BT := Lib.hid (fun (u V : World) (b : Below w.heap.size w u) (b2 : Below u.heap.size u V) => (b.trans (b2.mono b.size) : Below w.heap.size w V))
 have HasA := Lib.hid (fun (u V : World) (b : Below (u.alloc (.cells #[.int .u8 196] 5)).heap.size (u.alloc (.cells #[.int .u8 196] 5)) V) =>
  (((Own.Turn.refl (Own.Has.nil u)).allocRow u.heap.size rfl 5 [.int .u8 196]).has.below b))
 have HasAD := Lib.hid (fun (u V : World) (b : Below (u.alloc (.cells #[.int .u8 196] 5)).drew.heap.size (u.alloc (.cells #[.int .u8 196] 5)).drew V) =>
  (((Own.Turn.refl (Own.Has.nil u)).allocRow u.heap.size rfl 5 [.int .u8 196]).drew.has.below b))
 have hcv1 := fun u : World => HCV.out _ _ ((Own.Turn.refl (Own.Has.nil u)).allocRow u.heap.size rfl 5 [.int .u8 196]).drew.has
 have hcv0 := fun u : World => HCV.out _ _ ((Own.Turn.refl (Own.Has.nil u)).allocRow u.heap.size rfl 5 [.int .u8 196]).has
 have i2 : (v : Int) < 256 := by omega
 clear hX hB hcat
 go_enter Tryz.func46, Tryz.ntmps46
 go_wp2_with (fail)
 go_region_held (fun u => Below w.heap.size w u)
  (first | assumption | exact B0.out | exact B0.out.drew | exact BA.out _ _ (by assumption) | exact BD.out _ _ (by assumption) | exact BA.out _ _ B0.out | exact BD.out _ _ B0.out | exact BT.out _ _ (by assumption) (by assumption) | (trace_state; fail))
  (first | (go_at_call 57; refine (HBig.out _).mono ?_; rintro e W ⟨rfl, b⟩; (first | (have hcvW := HCV.out _ _ (HasAD.out _ _ b); have hHas := Lib.hid (HasAD.out _ _ b)) | (have hcvW := HCV.out _ _ (HasA.out _ _ b); have hHas := Lib.hid (HasA.out _ _ b)) | skip)))
 all_goals
  go_wp2
  go_ret
  exact ⟨Own.ret_string Hcat.out, by assumption⟩
set_option maxRecDepth 100000 in
set_option maxHeartbeats 4000000 in
theorem rlen217_one (v : Nat) (h2 : v < 256) (w : World) :
  Calls Tryz.prog 46 #[.int .u64 (v : Int), .int .u8 217, .int .u8 218, .int .u8 219] w fun e w' => e = .returned (.string ⟨(sized 217 v [1, 2, 4] 0).toArray⟩) ∧ Below w.heap.size w w' := by
 have HP := Lib.hid (show sized 217 v [1, 2, 4] 0 = 217 :: big v 1 by unfold sized; rw [if_pos (.inr (by simpa using h2))]; rfl)
 obtain ⟨X, hX⟩ : ∃ S : ByteArray, S = ⟨(big v 1).toArray⟩ := ⟨_, rfl⟩
 have hB := fun u => rbig1_any v (by omega) u
 rw [← hX] at hB
 have HBig := Lib.hid hB
 have z2 : X.size = 1 := by rw [hX, big_1]; rfl
 have hcat : (⟨#[217]⟩ : ByteArray) ++ X = ⟨(sized 217 v [1, 2, 4] 0).toArray⟩ := by rw [hX, HP.out]; exact cat_bytes1 217 (big v 1)
 have Hcat := Lib.hid hcat
 have HCV := Lib.hid (fun (V : World) (b : Nat) (h : Own.Has V [Own.row b 5 [.int .u8 217]]) => byte_cv 217 b V h)
 have B0 := Lib.hid (Below.refl w.heap.size w)
 have BA := Lib.hid (fun (u : World) (o : Obj) (b : Below w.heap.size w u) => b.alloc b.size o)
 have BD := Lib.hid (fun (u : World) (o : Obj) (b : Below w.heap.size w u) => (b.alloc b.size o).drew)
 have BT := Lib.hid (fun (u V : World) (b : Below w.heap.size w u) (b2 : Below u.heap.size u V) => (b.trans (b2.mono b.size) : Below w.heap.size w V))
 have HasA := Lib.hid (fun (u V : World) (b : Below (u.alloc (.cells #[.int .u8 217] 5)).heap.size (u.alloc (.cells #[.int .u8 217] 5)) V) =>
  (((Own.Turn.refl (Own.Has.nil u)).allocRow u.heap.size rfl 5 [.int .u8 217]).has.below b))
 have HasAD := Lib.hid (fun (u V : World) (b : Below (u.alloc (.cells #[.int .u8 217] 5)).drew.heap.size (u.alloc (.cells #[.int .u8 217] 5)).drew V) =>
  (((Own.Turn.refl (Own.Has.nil u)).allocRow u.heap.size rfl 5 [.int .u8 217]).drew.has.below b))
 have hcv1 := fun u : World => HCV.out _ _ ((Own.Turn.refl (Own.Has.nil u)).allocRow u.heap.size rfl 5 [.int .u8 217]).drew.has
 have hcv0 := fun u : World => HCV.out _ _ ((Own.Turn.refl (Own.Has.nil u)).allocRow u.heap.size rfl 5 [.int .u8 217]).has
 have i2 : (v : Int) < 256 := by omega
 clear hX hB hcat
 go_enter Tryz.func46, Tryz.ntmps46
 go_wp2_with (fail)
 go_region_held (fun u => Below w.heap.size w u)
  (first | assumption | exact B0.out | exact B0.out.drew | exact BA.out _ _ (by assumption) | exact BD.out _ _ (by assumption) | exact BA.out _ _ B0.out | exact BD.out _ _ B0.out | exact BT.out _ _ (by assumption) (by assumption) | (trace_state; fail))
  (first | (go_at_call 57; refine (HBig.out _).mono ?_; rintro e W ⟨rfl, b⟩; (first | (have hcvW := HCV.out _ _ (HasAD.out _ _ b); have hHas := Lib.hid (HasAD.out _ _ b)) | (have hcvW := HCV.out _ _ (HasA.out _ _ b); have hHas := Lib.hid (HasA.out _ _ b)) | skip)))
 all_goals
  go_wp2
  go_ret
  exact ⟨Own.ret_string Hcat.out, by assumption⟩
set_option maxRecDepth 100000 in
set_option maxHeartbeats 4000000 in
theorem rlen217_two (v : Nat) (h1 : 256 ≤ v) (h2 : v < 65536) (w : World) :
  Calls Tryz.prog 46 #[.int .u64 (v : Int), .int .u8 217, .int .u8 218, .int .u8 219] w fun e w' => e = .returned (.string ⟨(sized 217 v [1, 2, 4] 0).toArray⟩) ∧ Below w.heap.size w w' := by
 have HP := Lib.hid (show sized 217 v [1, 2, 4] 0 = 218 :: big v 2 by unfold sized; rw [if_neg (by simp; omega)]; unfold sized; rw [if_pos (.inr (by simpa using h2))]; rfl)
 obtain ⟨X, hX⟩ : ∃ S : ByteArray, S = ⟨(big v 2).toArray⟩ := ⟨_, rfl⟩
 have hB := fun u => rbig2_any v (by omega) u
 rw [← hX] at hB
 have HBig := Lib.hid hB
 have z2 : X.size = 2 := by rw [hX, big_2]; rfl
 have hcat : (⟨#[218]⟩ : ByteArray) ++ X = ⟨(sized 217 v [1, 2, 4] 0).toArray⟩ := by rw [hX, HP.out]; exact cat_bytes1 218 (big v 2)
 have Hcat := Lib.hid hcat
 have HCV := Lib.hid (fun (V : World) (b : Nat) (h : Own.Has V [Own.row b 5 [.int .u8 218]]) => byte_cv 218 b V h)
 have B0 := Lib.hid (Below.refl w.heap.size w)
 have BA := Lib.hid (fun (u : World) (o : Obj) (b : Below w.heap.size w u) => b.alloc b.size o)
 have BD := Lib.hid (fun (u : World) (o : Obj) (b : Below w.heap.size w u) => (b.alloc b.size o).drew)
 have BT := Lib.hid (fun (u V : World) (b : Below w.heap.size w u) (b2 : Below u.heap.size u V) => (b.trans (b2.mono b.size) : Below w.heap.size w V))
 have HasA := Lib.hid (fun (u V : World) (b : Below (u.alloc (.cells #[.int .u8 218] 5)).heap.size (u.alloc (.cells #[.int .u8 218] 5)) V) =>
  (((Own.Turn.refl (Own.Has.nil u)).allocRow u.heap.size rfl 5 [.int .u8 218]).has.below b))
 have HasAD := Lib.hid (fun (u V : World) (b : Below (u.alloc (.cells #[.int .u8 218] 5)).drew.heap.size (u.alloc (.cells #[.int .u8 218] 5)).drew V) =>
  (((Own.Turn.refl (Own.Has.nil u)).allocRow u.heap.size rfl 5 [.int .u8 218]).drew.has.below b))
 have hcv1 := fun u : World => HCV.out _ _ ((Own.Turn.refl (Own.Has.nil u)).allocRow u.heap.size rfl 5 [.int .u8 218]).drew.has
 have hcv0 := fun u : World => HCV.out _ _ ((Own.Turn.refl (Own.Has.nil u)).allocRow u.heap.size rfl 5 [.int .u8 218]).has
 have i2 : ¬ (v : Int) < 256 := by omega
 have i3 : (v : Int) < 65536 := by omega
 clear hX hB hcat
 go_enter Tryz.func46, Tryz.ntmps46
 go_wp2_with (fail)
 go_region_held (fun u => Below w.heap.size w u)
  (first | assumption | exact B0.out | exact B0.out.drew | exact BA.out _ _ (by assumption) | exact BD.out _ _ (by assumption) | exact BA.out _ _ B0.out | exact BD.out _ _ B0.out | exact BT.out _ _ (by assumption) (by assumption) | (trace_state; fail))
  (first | (go_at_call 57; refine (HBig.out _).mono ?_; rintro e W ⟨rfl, b⟩; (first | (have hcvW := HCV.out _ _ (HasAD.out _ _ b); have hHas := Lib.hid (HasAD.out _ _ b)) | (have hcvW := HCV.out _ _ (HasA.out _ _ b); have hHas := Lib.hid (HasA.out _ _ b)) | skip)))
 all_goals
  go_wp2
  go_ret
  exact ⟨Own.ret_string Hcat.out, by assumption⟩
end Pip
end Go.Proofs.YthnbpnfaghjamaaGreat

/- The reference's plain of bytes, and of a text, in CBOR and MessagePack. (Written by wip/gen_rfp.py.) -/
namespace Go.Proofs.YthnbpnfaghjamaaGreat
open Go.RowKit
open Json (Part)
namespace Pip
theorem cat_text (a : List UInt8) (s : ByteArray) : (⟨a.toArray⟩ : ByteArray) ++ s = ⟨(a ++ s.data.toList).toArray⟩ := by
 apply ByteArray.ext
 simp
theorem ret_first {a b : ByteArray} {v : Value} (h : a = b) : Ending.returned (.tuple #[.string a, v]) = .returned (.tuple #[.string b, v]) := by rw [h]
theorem big_length (v n : Nat) : (big v n).length = n := by simp [big]
theorem head_size_Head {m : Nat} (v : Nat) : (⟨(put m v).toArray⟩ : ByteArray).size ≤ 10 := by
 show (put m v).toArray.size ≤ 10
 rw [List.size_toArray]
 unfold put
 repeat' split
 all_goals simp only [List.length_append, big_length]; omega
theorem head_size_length {f : Nat} (v : Nat) : (⟨(sized f v [1, 2, 4] 0).toArray⟩ : ByteArray).size ≤ 10 := by
 show (sized f v [1, 2, 4] 0).toArray.size ≤ 10
 rw [List.size_toArray]
 simp only [sized]
 repeat' split
 all_goals simp [big_length]
theorem rhead2_any (v : Nat) (h : v < 65536) (w : World) : Calls Tryz.prog 45 #[.int .i64 2, .int .u64 (v : Int)] w fun e w' => e = .returned (.string ⟨(put 2 v).toArray⟩) ∧ Below w.heap.size w w' := by
 by_cases h1 : v < 24
 ·exact rhead2_few v h1 w
 ·by_cases h2 : v < 256
  ·exact rhead2_one v (by omega) h2 w
  ·exact rhead2_two v (by omega) h w
set_option maxRecDepth 100000 in
set_option maxHeartbeats 4000000 in
theorem rplain2_blob (s : ByteArray) (hs : s.size ≤ 1000) (w : World) :
  Calls Tryz.prog 47 #[.int .i64 2, .agg #[.int .i64 4, .bool false, .int .u64 0, .string s, .int .i64 0]] w fun e w' => e = .returned (.tuple #[.string ⟨(put 2 s.size ++ s.data.toList).toArray⟩, .int .i64 0]) ∧ Below w.heap.size w w' := by
 have hH := fun u => rhead2_any s.size (by omega) u
 obtain ⟨X, hX⟩ : ∃ S : ByteArray, S = ⟨(put 2 s.size).toArray⟩ := ⟨_, rfl⟩
 rw [← hX] at hH
 have HH := Lib.hid hH
 have hcat : X ++ s = ⟨(put 2 s.size ++ s.data.toList).toArray⟩ := by rw [hX]; exact cat_text _ s
 have Hcat := Lib.hid hcat
 have zX : X.size ≤ 10 := by rw [hX]; exact head_size_Head _
 have TA := Lib.hid ((Own.Turn.refl (Own.Has.nil w)).allocRow w.heap.size rfl 39 [.int .i64 4, .bool false, .int .u64 0, .string s, .int .i64 0])
 have TT := Lib.hid (fun (u W : World) (t : Own.Turn [] [Own.row w.heap.size 39 [.int .i64 4, .bool false, .int .u64 0, .string s, .int .i64 0]] w u) (b : Below u.heap.size u W) => t.trans (Own.Turn.of_below t.has b))
 have TC := Lib.hid (fun (u : World) (t : Own.Turn [] [Own.row w.heap.size 39 [.int .i64 4, .bool false, .int .u64 0, .string s, .int .i64 0]] w u) => t.has.cell w.heap.size _ _ (List.mem_cons_self ..) 3 _ rfl)
 have TB := Lib.hid (fun (u : World) (t : Own.Turn [] [Own.row w.heap.size 39 [.int .i64 4, .bool false, .int .u64 0, .string s, .int .i64 0]] w u) => t.below (B := w.heap.size) (fun x hx => by cases hx) (Nat.le_refl _))
 have hsI : (s.size : Int) ≤ 1000 := by omega
 have hwr : IntKind.u64.wrap (s.size : Int) = (s.size : Int) := by rw [IntKind.wrap_u64]; omega
 clear hX hH hcat
 go_enter Tryz.func47, Tryz.ntmps47
 go_wp2_with (fail)
 go_region_with (go_at_call 45; refine (HH.out _).mono ?_; rintro e W ⟨rfl, b⟩; have t := TT.out _ _ (by first | exact TA.out | exact TA.out.drew | exact TA.out.drewN _) b; have c3' := TC.out _ t)
 all_goals
  go_wp2
  go_ret2
  exact ⟨ret_first Hcat.out, TB.out _ (by first | assumption | exact Own.Turn.drew (by assumption) | exact Own.Turn.drewN (by assumption) _)⟩
set_option maxRecDepth 100000 in
set_option maxHeartbeats 4000000 in
theorem rplain3_blob (s : ByteArray) (hs : s.size < 256) (w : World) :
  Calls Tryz.prog 47 #[.int .i64 3, .agg #[.int .i64 4, .bool false, .int .u64 0, .string s, .int .i64 0]] w fun e w' => e = .returned (.tuple #[.string ⟨(sized 196 s.size [1, 2, 4] 0 ++ s.data.toList).toArray⟩, .int .i64 0]) ∧ Below w.heap.size w w' := by
 have hH := fun u => rlen196_one s.size (by omega) u
 obtain ⟨X, hX⟩ : ∃ S : ByteArray, S = ⟨(sized 196 s.size [1, 2, 4] 0).toArray⟩ := ⟨_, rfl⟩
 rw [← hX] at hH
 have HH := Lib.hid hH
 have hcat : X ++ s = ⟨(sized 196 s.size [1, 2, 4] 0 ++ s.data.toList).toArray⟩ := by rw [hX]; exact cat_text _ s
 have Hcat := Lib.hid hcat
 have zX : X.size ≤ 10 := by rw [hX]; exact head_size_length _
 have TA := Lib.hid ((Own.Turn.refl (Own.Has.nil w)).allocRow w.heap.size rfl 39 [.int .i64 4, .bool false, .int .u64 0, .string s, .int .i64 0])
 have TT := Lib.hid (fun (u W : World) (t : Own.Turn [] [Own.row w.heap.size 39 [.int .i64 4, .bool false, .int .u64 0, .string s, .int .i64 0]] w u) (b : Below u.heap.size u W) => t.trans (Own.Turn.of_below t.has b))
 have TC := Lib.hid (fun (u : World) (t : Own.Turn [] [Own.row w.heap.size 39 [.int .i64 4, .bool false, .int .u64 0, .string s, .int .i64 0]] w u) => t.has.cell w.heap.size _ _ (List.mem_cons_self ..) 3 _ rfl)
 have TB := Lib.hid (fun (u : World) (t : Own.Turn [] [Own.row w.heap.size 39 [.int .i64 4, .bool false, .int .u64 0, .string s, .int .i64 0]] w u) => t.below (B := w.heap.size) (fun x hx => by cases hx) (Nat.le_refl _))
 have hsI : (s.size : Int) ≤ 1000 := by omega
 have hwr : IntKind.u64.wrap (s.size : Int) = (s.size : Int) := by rw [IntKind.wrap_u64]; omega
 clear hX hH hcat
 go_enter Tryz.func47, Tryz.ntmps47
 go_wp2_with (fail)
 go_region_with (go_at_call 46; refine (HH.out _).mono ?_; rintro e W ⟨rfl, b⟩; have t := TT.out _ _ (by first | exact TA.out | exact TA.out.drew | exact TA.out.drewN _) b; have c3' := TC.out _ t)
 all_goals
  go_wp2
  go_ret2
  exact ⟨ret_first Hcat.out, TB.out _ (by first | assumption | exact Own.Turn.drew (by assumption) | exact Own.Turn.drewN (by assumption) _)⟩
end Pip
end Go.Proofs.YthnbpnfaghjamaaGreat
