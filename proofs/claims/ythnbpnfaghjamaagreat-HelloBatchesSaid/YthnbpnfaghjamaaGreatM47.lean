/- Texts of the walk, joined. -/
import Derived.Test.YthnbpnfaghjamaaGreatM36
import Derived.Test.YthnbpnfaghjamaaGreatM45
import Derived.Test.YthnbpnfaghjamaaGreatM46
/- hello.Batch; the laws' first call. -/
namespace Go.Proofs.YthnbpnfaghjamaaGreat
open Go.RowKit
open Json (Part Wr)
namespace Pip
def u8e (e : Nat) : UInt8 := UInt8.ofNat ((e : Int) % 256).toNat
set_option maxRecDepth 100000 in
set_option maxHeartbeats 4000000 in
theorem hbatch_with (b : ByteArray) (s : Setup) (hg : helloGet b.data.toList = (s, 0)) (h8 : 8 ≤ b.size) (out : List UInt8) (e : Nat) (hol : out.length ≤ 100000000) (w : World)
  (HB : ∀ u : World, Below w.heap.size w u → Calls Tryz.prog 21 #[s.val, .string (b.extract 8 b.size)] u fun r w' => r = .returned (.tuple #[.string ⟨out.toArray⟩, .int .i64 (e : Int)]) ∧ Below u.heap.size u w') :
  Calls Tryz.prog 29 #[.string b] w fun r w' => r = .returned (.string ⟨(75 :: out ++ [255, u8e e]).toArray⟩) ∧ Below w.heap.size w w' := by
 have hG := get_any b w
 rw [hg] at hG
 have HG := Lib.hid hG
 have HY := Lib.hid (fun u => yes_any u)
 have HTr := Lib.hid (fun u => trailer_any (e : Int) u)
 have B0 := Lib.hid (fun o u (b : Below w.heap.size w u) => b.alloc b.size o)
 have BT := Lib.hid (fun (u v : World) (b : Below w.heap.size w u) (b2 : Below u.heap.size u v) => (b.trans (b2.mono b.size) : Below w.heap.size w v))
 have hcat : ((⟨#[75]⟩ : ByteArray) ++ ⟨out.toArray⟩) ++ ⟨([255, u8e e] : List UInt8).toArray⟩ = ⟨(75 :: out ++ [255, u8e e]).toArray⟩ := by
  rw [show (⟨#[75]⟩ : ByteArray) = ⟨([75] : List UInt8).toArray⟩ from rfl, cat_bytes0, cat_bytes0]; rfl
 have hu : UInt8.ofNat ((e : Int) % 256).toNat = u8e e := rfl
 rw [hu] at HTr
 obtain ⟨X, hX⟩ : ∃ X : ByteArray, X = ⟨out.toArray⟩ := ⟨_, rfl⟩
 obtain ⟨Y, hY⟩ : ∃ Y : ByteArray, Y = ⟨([255, u8e e] : List UInt8).toArray⟩ := ⟨_, rfl⟩
 have zX : X.size ≤ 100000000 := by rw [hX]; exact hol
 have zY : Y.size = 2 := by rw [hY]; rfl
 rw [← hY] at HTr hcat
 rw [← hX] at HB hcat
 have HBa := Lib.hid HB
 have Hcat := Lib.hid hcat
 have i8 : (8 : Int) ≤ (b.size : Int) := by omega
 obtain ⟨f, t, d, g, l⟩ := s
 unfold Setup.val at HG HBa
 simp only at HG HBa
 clear hG hg HB hcat hX hY hu h8 hol
 go_enter Tryz.func29, Tryz.ntmps29
 go_wp2_with (fail)
 refine HG.out.mono ?_
 rintro r w1 ⟨rfl, b1⟩
 have HB1 := Lib.hid b1
 clear b1
 go_wp2_with (fail)
 go_region_with (go_at_call 21; refine (HBa.out _ (by first | exact (B0.out _ _ HB1.out).drew | exact B0.out _ _ HB1.out)).mono ?_; rintro r w2 ⟨rfl, b2⟩; (first | have HB2 := Lib.hid (BT.out _ _ (B0.out _ _ HB1.out).drew b2) | have HB2 := Lib.hid (BT.out _ _ (B0.out _ _ HB1.out) b2)); clear b2)
 all_goals
  go_wp2_with (fail)
  refine (HY.out _).mono ?_
  rintro r w3 ⟨rfl, rfl⟩
  go_wp2_with (fail)
  refine (HTr.out _).mono ?_
  rintro r w4 ⟨rfl, b4⟩
  have HB4 := Lib.hid (BT.out _ _ HB2.out b4)
  clear b4
  go_wp2
  go_ret
  exact ⟨Own.ret_string Hcat.out, HB4.out⟩
theorem hbatch_good (b : ByteArray) (s : Setup) (hg : helloGet b.data.toList = (s, 0)) (h8 : 8 ≤ b.size) (out : List UInt8) (e : Nat) (hol : out.length ≤ 100000000)
  (HB : ∀ u : World, Calls Tryz.prog 21 #[s.val, .string (b.extract 8 b.size)] u fun r w' => r = .returned (.tuple #[.string ⟨out.toArray⟩, .int .i64 (e : Int)]) ∧ Below u.heap.size u w') (w : World) :
  Calls Tryz.prog 29 #[.string b] w fun r w' => r = .returned (.string ⟨(75 :: out ++ [255, u8e e]).toArray⟩) ∧ Below w.heap.size w w' :=
 hbatch_with b s hg h8 out e hol w fun u _ => HB u
theorem helloBytes_put (s : Setup) : (⟨(helloBytes s).toArray⟩ : ByteArray).data.toList = helloBytes s := by simp
def s0 : Setup := ⟨1, 2, 3, 258, 9⟩
set_option maxRecDepth 100000 in
set_option maxHeartbeats 4000000 in
theorem alive_any (w : World) : Calls Tryz.prog 27 #[] w fun r w' => r = .returned (.bool true) ∧ Below w.heap.size w w' := by
 have hr : right s0 = true := by decide
 obtain ⟨S1, hS1⟩ : ∃ S : ByteArray, S = ⟨(helloBytes s0).toArray⟩ := ⟨_, rfl⟩
 obtain ⟨S2, hS2⟩ : ∃ S : ByteArray, S = S1 ++ ⟨#[91, 49, 93]⟩ := ⟨_, rfl⟩
 have d2 : S2.data.toList = helloBytes s0 ++ [91, 49, 93] := by rw [hS2, hS1]; simp
 have z1 : S1.size = 8 := by rw [hS1]; rfl
 have z2 : S2.size = 11 := by show S2.data.toList.length = 11; rw [d2]; rfl
 have g2 : helloGet S2.data.toList = (s0, 0) := by rw [d2]; exact get_bytes s0 hr _
 have HPut := Lib.hid (fun u => hput_any s0 hr u)
 have HGet := Lib.hid (fun u => get_any S2 u)
 have HBat := Lib.hid (fun u => hbatch_good S2 s0 g2 (by omega) [159, 1, 255] 0 (by decide) (fun v => by
  have h := batch_cbor s0 hr rfl rfl (S2.extract 8 S2.size) (by rw [ByteArray.size_extract]; omega) (fun _ => []) v
  have e : (S2.extract 8 S2.size).data.toList = [91, 49, 93] := by
   rw [ByteArray.data_extract, Array.toList_extract, List.extract_eq_take_drop, d2, z2]; rfl
  rw [e, show batch (fun _ => []) s0 [91, 49, 93] = ([159, 1, 255], 0) from alive_cbor _] at h
  exact h) u)
 rw [g2] at HGet
 rw [← hS1] at HPut
 have HF := Lib.hid (fun u => fulls_any u)
 have q1 : (S1.toList == [84, 82, 1, 2, 3, 1, 2, 9]) = true := by rw [ByteArray.toList_eq, hS1, helloBytes_put]; decide
 obtain ⟨Z, hZ⟩ : ∃ Z : ByteArray, Z = ⟨((75 :: [159, 1, 255] ++ [255, u8e 0] : List UInt8)).toArray⟩ := ⟨_, rfl⟩
 have q2 : (Z.toList == [75, 159, 1, 255, 255, 0]) = true := by rw [ByteArray.toList_eq, hZ]; decide
 rw [← hZ] at HBat
 have hcat : S1 ++ (⟨#[91, 49, 93]⟩ : ByteArray) = S2 := hS2.symm
 have BT := Lib.hid (fun (u v : World) (b : Below w.heap.size w u) (b2 : Below u.heap.size u v) => (b.trans (b2.mono b.size) : Below w.heap.size w v))
 have B0 := Lib.hid (fun o u (b : Below w.heap.size w u) => b.alloc b.size o)
 unfold Setup.val s0 at HPut HGet
 simp only at HPut HGet
 clear g2 hS1 hS2 d2 hZ
 go_enter Tryz.func27, Tryz.ntmps27
 go_wp2_with (fail)
 refine (HPut.out _).mono ?_
 rintro r w1 ⟨rfl, b1⟩
 have HB1 := Lib.hid b1
 clear b1
 go_wp2_with (fail)
 refine (HGet.out _).mono ?_
 rintro r w2 ⟨rfl, b2⟩
 have HB2 := Lib.hid (BT.out _ _ HB1.out b2)
 clear b2
 go_wp2_with (fail)
 refine (HBat.out _).mono ?_
 rintro r w3 ⟨rfl, b3⟩
 have HB3 := Lib.hid (BT.out _ _ (B0.out _ _ HB2.out) b3)
 clear b3
 go_wp2_with (fail)
 refine (HF.out _).mono ?_
 rintro r w4 ⟨rfl, rfl⟩
 go_wp2
 go_ret
 exact ⟨rfl, HB3.out⟩
end Pip
end Go.Proofs.YthnbpnfaghjamaaGreat
