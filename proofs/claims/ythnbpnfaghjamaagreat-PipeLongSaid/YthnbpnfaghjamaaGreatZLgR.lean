/- Texts of the walk, joined. -/
import Derived.Test.YthnbpnfaghjamaaGreatZXtra
import Derived.Test.YthnbpnfaghjamaaGreatK43
import Derived.Test.YthnbpnfaghjamaaGreatZLgM
/- The reference's plain of a text, in CBOR and MessagePack. (Written by wip/gen_lgr.py.) -/
namespace Go.Proofs.YthnbpnfaghjamaaGreat
open Go.RowKit
open Json (Part)
namespace Pip
set_option maxRecDepth 100000 in
set_option maxHeartbeats 4000000 in
theorem rhead3_few (v : Nat) (hv : v < 24) (w : World) :
  Calls Tryz.prog 45 #[.int .i64 3, .int .u64 (v : Int)] w fun e w' => e = .returned (.string ⟨(put 3 v).toArray⟩) ∧ Below w.heap.size w w' := by
 have HB := Lib.hid (fun o => (Below.refl w.heap.size w).alloc (Nat.le_refl _) o)
 have HP := Lib.hid (show put 3 v = [UInt8.ofNat (96 + v)] by unfold put; rw [if_pos hv]; simp [big_1])
 have hwv : IntKind.u8.wrap (v : Int) = (v : Int) := by rw [IntKind.wrap_u8]; omega
 obtain ⟨A, hA⟩ : ∃ A : Int, A = 96 + (v : Int) := ⟨_, rfl⟩
 have hw8 : IntKind.u8.wrap (96 + (v : Int)) = A := by rw [IntKind.wrap_u8]; omega
 have hlt : (v : Int) < 24 := by omega
 obtain ⟨S, hS⟩ : ∃ S : ByteArray, S = ⟨([UInt8.ofNat (96 + v)] : List UInt8).toArray⟩ := ⟨_, rfl⟩
 have hcv : (convert 47 9 (.slice (some ⟨w.heap.size, 0, none⟩) 1 1)).run Tryz.prog (w.alloc (.cells #[.int .u8 A] 5)) = .ok (.string S) (w.alloc (.cells #[.int .u8 A] 5)) := by
  have h := hcv_new w w.heap.size rfl [UInt8.ofNat (96 + v)] 1 rfl (by decide)
  have e : (u8s [UInt8.ofNat (96 + v)]).toArray = #[.int .u8 A] := by
   simp only [u8s, List.map_cons, List.map_nil, UInt8.toNat_ofNat']
   rw [hA, show (((96 + v) % 2 ^ 8 : Nat) : Int) = 96 + (v : Int) by omega]
  rw [e, ← hS] at h
  exact h
 have HS := Lib.hid hS
 clear hS hA hv
 go_enter Tryz.func45, Tryz.ntmps45
 go_wp2
 go_ret
 exact ⟨by rw [HP.out, ← HS.out]; rfl, HB.out _⟩
theorem rhead3_any (v : Nat) (h : v < 65536) (w : World) : Calls Tryz.prog 45 #[.int .i64 3, .int .u64 (v : Int)] w fun e w' => e = .returned (.string ⟨(put 3 v).toArray⟩) ∧ Below w.heap.size w w' := by
 by_cases h1 : v < 24
 ·exact rhead3_few v h1 w
 ·by_cases h2 : v < 256
  ·exact rhead3_one v (by omega) h2 w
  ·exact rhead3_two v (by omega) h w
theorem rlen217_any (v : Nat) (h : v < 65536) (w : World) : Calls Tryz.prog 46 #[.int .u64 (v : Int), .int .u8 217, .int .u8 218, .int .u8 219] w fun e w' => e = .returned (.string ⟨(sized 217 v [1, 2, 4] 0).toArray⟩) ∧ Below w.heap.size w w' := by
 by_cases h2 : v < 256
 ·exact rlen217_one v h2 w
 ·exact rlen217_two v (by omega) h w
set_option maxRecDepth 100000 in
set_option maxHeartbeats 4000000 in
theorem rplain2_text (s : ByteArray) (hs : s.size ≤ 1000) (w : World) :
  Calls Tryz.prog 47 #[.int .i64 2, .agg #[.int .i64 3, .bool false, .int .u64 0, .string s, .int .i64 0]] w fun e w' => e = .returned (.tuple #[.string ⟨(put 3 s.size ++ s.data.toList).toArray⟩, .int .i64 0]) ∧ Below w.heap.size w w' := by
 have hH := fun u => rhead3_any s.size (by omega) u
 obtain ⟨X, hX⟩ : ∃ S : ByteArray, S = ⟨(put 3 s.size).toArray⟩ := ⟨_, rfl⟩
 rw [← hX] at hH
 have HH := Lib.hid hH
 have hcat : X ++ s = ⟨(put 3 s.size ++ s.data.toList).toArray⟩ := by rw [hX]; exact cat_text _ s
 have Hcat := Lib.hid hcat
 have zX : X.size ≤ 10 := by rw [hX]; exact head_size_Head _
 have TA := Lib.hid ((Own.Turn.refl (Own.Has.nil w)).allocRow w.heap.size rfl 39 [.int .i64 3, .bool false, .int .u64 0, .string s, .int .i64 0])
 have TT := Lib.hid (fun (u W : World) (t : Own.Turn [] [Own.row w.heap.size 39 [.int .i64 3, .bool false, .int .u64 0, .string s, .int .i64 0]] w u) (b : Below u.heap.size u W) => t.trans (Own.Turn.of_below t.has b))
 have TC := Lib.hid (fun (u : World) (t : Own.Turn [] [Own.row w.heap.size 39 [.int .i64 3, .bool false, .int .u64 0, .string s, .int .i64 0]] w u) => t.has.cell w.heap.size _ _ (List.mem_cons_self ..) 3 _ rfl)
 have TB := Lib.hid (fun (u : World) (t : Own.Turn [] [Own.row w.heap.size 39 [.int .i64 3, .bool false, .int .u64 0, .string s, .int .i64 0]] w u) => t.below (B := w.heap.size) (fun x hx => by cases hx) (Nat.le_refl _))
 have hsI : (s.size : Int) ≤ 1000 := by omega
 have hwr : IntKind.u64.wrap (s.size : Int) = (s.size : Int) := by rw [IntKind.wrap_u64]; omega
 clear hX hH hcat
 go_enter Tryz.func47, Tryz.ntmps47
 go_wp2_with (fail)
 go_region_with (go_at_call 45; refine (HH.out _).mono ?_; rintro e W ⟨rfl, b⟩; have t := TT.out _ _ (by first | exact TA.out | exact TA.out.drew | exact TA.out.drewN _) b; have c3' := TC.out _ t)
 all_goals
  go_wp2
  go_ret2
  exact ⟨ret_first Hcat.out, TB.out _ (by first | assumption | exact Own.Turn.drew (by assumption) | exact Own.Turn.drewN (by assumption) _)⟩
set_option maxRecDepth 100000 in
set_option maxHeartbeats 4000000 in
theorem rplain3_text (s : ByteArray) (h32 : 32 ≤ s.size) (hs : s.size ≤ 1000) (w : World) :
  Calls Tryz.prog 47 #[.int .i64 3, .agg #[.int .i64 3, .bool false, .int .u64 0, .string s, .int .i64 0]] w fun e w' => e = .returned (.tuple #[.string ⟨(sized 217 s.size [1, 2, 4] 0 ++ s.data.toList).toArray⟩, .int .i64 0]) ∧ Below w.heap.size w w' := by
 have hH := fun u => rlen217_any s.size (by omega) u
 obtain ⟨X, hX⟩ : ∃ S : ByteArray, S = ⟨(sized 217 s.size [1, 2, 4] 0).toArray⟩ := ⟨_, rfl⟩
 rw [← hX] at hH
 have HH := Lib.hid hH
 have hcat : X ++ s = ⟨(sized 217 s.size [1, 2, 4] 0 ++ s.data.toList).toArray⟩ := by rw [hX]; exact cat_text _ s
 have Hcat := Lib.hid hcat
 have zX : X.size ≤ 10 := by rw [hX]; exact head_size_length _
 have TA := Lib.hid ((Own.Turn.refl (Own.Has.nil w)).allocRow w.heap.size rfl 39 [.int .i64 3, .bool false, .int .u64 0, .string s, .int .i64 0])
 have TT := Lib.hid (fun (u W : World) (t : Own.Turn [] [Own.row w.heap.size 39 [.int .i64 3, .bool false, .int .u64 0, .string s, .int .i64 0]] w u) (b : Below u.heap.size u W) => t.trans (Own.Turn.of_below t.has b))
 have TC := Lib.hid (fun (u : World) (t : Own.Turn [] [Own.row w.heap.size 39 [.int .i64 3, .bool false, .int .u64 0, .string s, .int .i64 0]] w u) => t.has.cell w.heap.size _ _ (List.mem_cons_self ..) 3 _ rfl)
 have TB := Lib.hid (fun (u : World) (t : Own.Turn [] [Own.row w.heap.size 39 [.int .i64 3, .bool false, .int .u64 0, .string s, .int .i64 0]] w u) => t.below (B := w.heap.size) (fun x hx => by cases hx) (Nat.le_refl _))
 have hsI : (s.size : Int) ≤ 1000 := by omega
 have hwr : IntKind.u64.wrap (s.size : Int) = (s.size : Int) := by rw [IntKind.wrap_u64]; omega
 have i32 : (32 : Int) ≤ (s.size : Int) := by omega
 clear hX hH hcat
 go_enter Tryz.func47, Tryz.ntmps47
 go_wp2_with (fail)
 go_region_with (go_at_call 46; refine (HH.out _).mono ?_; rintro e W ⟨rfl, b⟩; have t := TT.out _ _ (by first | exact TA.out | exact TA.out.drew | exact TA.out.drewN _) b; have c3' := TC.out _ t)
 all_goals
  go_wp2
  go_ret2
  exact ⟨ret_first Hcat.out, TB.out _ (by first | assumption | exact Own.Turn.drew (by assumption) | exact Own.Turn.drewN (by assumption) _)⟩
set_option maxRecDepth 100000 in
set_option maxHeartbeats 4000000 in
theorem rplain3_few (s : ByteArray) (hs : s.size < 32) (w : World) :
  Calls Tryz.prog 47 #[.int .i64 3, .agg #[.int .i64 3, .bool false, .int .u64 0, .string s, .int .i64 0]] w fun e w' => e = .returned (.tuple #[.string ⟨(big (160 + s.size) 1 ++ s.data.toList).toArray⟩, .int .i64 0]) ∧ Below w.heap.size w w' := by
 have HB := Lib.hid (fun (o p : Obj) => ((Below.refl w.heap.size w).alloc (Nat.le_refl _) o).alloc (by rw [Json.size_alloc]; omega) p)
 obtain ⟨v, hv⟩ : ∃ v, v = s.size := ⟨_, rfl⟩
 have hvI : (s.size : Int) = (v : Int) := by omega
 have hlt : (v : Int) < 32 := by omega
 obtain ⟨A, hA⟩ : ∃ A : Int, A = 160 + (v : Int) := ⟨_, rfl⟩
 have hwi : IntKind.i64.wrap (160 + (v : Int)) = A := by rw [IntKind.wrap_i64]; omega
 have hw8 : IntKind.u8.wrap A = A := by rw [IntKind.wrap_u8]; omega
 obtain ⟨S, hS⟩ : ∃ S : ByteArray, S = ⟨([UInt8.ofNat (160 + v)] : List UInt8).toArray⟩ := ⟨_, rfl⟩
 have hcv : ∀ u : World, (convert 47 9 (.slice (some ⟨u.heap.size, 0, none⟩) 1 1)).run Tryz.prog (u.alloc (.cells #[.int .u8 A] 5)) = .ok (.string S) (u.alloc (.cells #[.int .u8 A] 5)) := fun u => by
  have h := hcv_new u u.heap.size rfl [UInt8.ofNat (160 + v)] 1 rfl (by decide)
  have e : (u8s [UInt8.ofNat (160 + v)]).toArray = #[.int .u8 A] := by
   simp only [u8s, List.map_cons, List.map_nil, UInt8.toNat_ofNat']
   rw [hA, show (((160 + v) % 2 ^ 8 : Nat) : Int) = 160 + (v : Int) by omega]
  rw [e, ← hS] at h
  exact h
 have hcvW := hcv (w.alloc (.cells #[.int .i64 3, .bool false, .int .u64 0, .string s, .int .i64 0] 39))
 rw [Json.size_alloc] at hcvW
 have zS : S.size = 1 := by rw [hS]; rfl
 have hcat : S ++ s = ⟨(big (160 + s.size) 1 ++ s.data.toList).toArray⟩ := by rw [hS, big_one, ← hv]; exact cat_text _ s
 have Hcat := Lib.hid hcat
 clear hcv hcat hS hA hs hv
 go_enter Tryz.func47, Tryz.ntmps47
 go_wp2
 go_ret2
 exact ⟨ret_first Hcat.out, HB.out _ _⟩
end Pip
end Go.Proofs.YthnbpnfaghjamaaGreat
