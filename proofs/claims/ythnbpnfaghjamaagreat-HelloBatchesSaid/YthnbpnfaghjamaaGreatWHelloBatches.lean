/- HelloBatches: the walk: all that a session tells begins with a yes, or is a no; it ends with a trailer. -/
import Derived.Test.YthnbpnfaghjamaaGreatM44
import Derived.Test.YthnbpnfaghjamaaGreatM47
import Derived.Test.YthnbpnfaghjamaaGreatM48
namespace Go.Proofs.YthnbpnfaghjamaaGreat.helloBatches
open Go.RowKit Pip
open Esc (Tabs TabsAt)
theorem behind_put (P b : ByteArray) : (P ++ b).extract P.size (P ++ b).size = b := by
 apply ByteArray.ext
 apply Array.toList_inj.1
 have hl : P.data.toList.length = P.size := Array.length_toList
 rw [ByteArray.data_extract, Array.toList_extract, List.extract_eq_take_drop, ByteArray.size_append, show (P ++ b).data.toList = P.data.toList ++ b.data.toList by simp, List.drop_append_of_le_length (by omega), ← hl, List.drop_length, List.nil_append, Nat.add_sub_cancel_left,
  show b.size = b.data.toList.length from Array.length_toList.symm, List.take_length]
set_option maxRecDepth 100000 in
set_option maxHeartbeats 8000000 in
theorem walk (T : Tabs) (a0 : Setup) (a1 : ByteArray) (_z1 : a1.size ≤ 140737488355327) (w : World) (hT : TabsAt T w) :
  Calls Tryz.prog 11 #[a0.val, .string a1] w fun e w' => e = .returned (.bool true) ∧ Below w.heap.size w w' := by
 have HA := Lib.hid (fun u => alive_any u)
 have BT := Lib.hid (fun (u v : World) (b : Below w.heap.size w u) (b2 : Below u.heap.size u v) => (b.trans (b2.mono b.size) : Below w.heap.size w v))
 have B0 := Lib.hid (fun o u (b : Below w.heap.size w u) => b.alloc b.size o)
 have B1 := Lib.hid (Below.refl w.heap.size w)
 have H0 := Lib.hid (fun u => hput_all a0 u)
 clear _z1
 by_cases hr : right a0 = false
 ·rw [hr] at H0
  obtain ⟨X, hX⟩ : ∃ X, X = putBytes a0 := ⟨_, rfl⟩
  rw [← hX] at H0
  obtain ⟨f, t, d, g, l⟩ := a0
  unfold Setup.val at H0 ⊢
  simp only at H0 ⊢
  clear hX hr hT
  go_enter Tryz.func11, Tryz.ntmps11
  go_wp2_with (fail)
  refine (H0.out _).mono ?_
  rintro e w1 ⟨rfl, b1⟩
  have HB1 := Lib.hid (BT.out _ _ (B0.out _ _ B1.out) b1)
  clear b1
  go_wp2_with (fail)
  refine (HA.out _).mono ?_
  rintro e w3 ⟨rfl, b3⟩
  go_wp2
  go_ret
  exact ⟨rfl, BT.out _ _ HB1.out b3⟩
 have hr' : right a0 = true := by simpa using hr
 rw [hr', putBytes_right hr'] at H0
 obtain ⟨S, hS⟩ : ∃ X : ByteArray, X = ⟨(helloBytes a0).toArray⟩ := ⟨_, rfl⟩
 have zS : S.size = 8 := by subst hS; rfl
 have dS : S.data.toList = helloBytes a0 := by rw [hS]
 rw [← hS] at H0
 by_cases hlong : 150 < a1.size
 ·have q0 : (150 : Int) < (a1.size : Int) := by omega
  obtain ⟨f, t, d, g, l⟩ := a0
  unfold Setup.val at H0 ⊢
  simp only at H0 ⊢
  clear hS dS hr hr' hT hlong
  go_enter Tryz.func11, Tryz.ntmps11
  go_wp2_with (fail)
  refine (H0.out _).mono ?_
  rintro e w1 ⟨rfl, b1⟩
  have HB1 := Lib.hid (BT.out _ _ (B0.out _ _ B1.out) b1)
  clear b1
  go_wp2_with (fail)
  refine (HA.out _).mono ?_
  rintro e w3 ⟨rfl, b3⟩
  go_wp2
  go_ret
  exact ⟨rfl, BT.out _ _ HB1.out b3⟩
 have q0 : (a1.size : Int) ≤ 150 := by omega
 have hX := fun u hu => batch_tabs T a0 hr' a1 (by omega) u hu
 have hlenX := batch_len_tabs T a0 hr' a1.data.toList
 have hl1 : a1.data.toList.length = a1.size := Array.length_toList
 obtain ⟨Z, hZ⟩ : ∃ Z : ByteArray, Z = S ++ a1 := ⟨_, rfl⟩
 have dZ : helloGet Z.data.toList = (a0, 0) := by
  rw [hZ, show (S ++ a1).data.toList = S.data.toList ++ a1.data.toList by simp, dS]
  exact get_bytes a0 hr' _
 have zZ : 8 ≤ Z.size := by rw [hZ, ByteArray.size_append]; omega
 have eZ : Z.extract 8 Z.size = a1 := by
  have := behind_put S a1
  rw [zS, ← hZ] at this
  exact this
 have HT := Lib.hid hT
 have hY := fun (u : World) (hu : Below w.heap.size w u) => hbatch_with Z a0 dZ zZ (batch (textT T) a0 a1.data.toList).1 (batch (textT T) a0 a1.data.toList).2 (by omega) u (fun v hv => by rw [eZ]; exact hX v (HT.out.of ((hu.trans (hv.mono hu.size)).mono HT.out.size)))
 generalize (batch (textT T) a0 a1.data.toList).2 = E at hX hY
 obtain ⟨X, hXe⟩ : ∃ X : ByteArray, X = ⟨(batch (textT T) a0 a1.data.toList).1.toArray⟩ := ⟨_, rfl⟩
 obtain ⟨R, hR⟩ : ∃ X : ByteArray, X = ⟨(75 :: (batch (textT T) a0 a1.data.toList).1 ++ [255, u8e E]).toArray⟩ := ⟨_, rfl⟩
 obtain ⟨Y, hYe⟩ : ∃ Y : ByteArray, Y = ⟨([255, u8e E] : List UInt8).toArray⟩ := ⟨_, rfl⟩
 have hcat : ((⟨#[75]⟩ : ByteArray) ++ X) ++ Y = R := by
  rw [hXe, hYe, hR, show (⟨#[75]⟩ : ByteArray) = ⟨([75] : List UInt8).toArray⟩ from rfl, cat_bytes0, cat_bytes0]; rfl
 have zX : X.size ≤ 100000000 := by
  rw [hXe]
  show (batch (textT T) a0 a1.data.toList).1.toArray.size ≤ _
  rw [List.size_toArray]; omega
 have zY : Y.size = 2 := by rw [hYe]; rfl
 rw [← hXe] at hX
 rw [← hR] at hY
 have hTr := fun u => trailer_any (E : Int) u
 rw [show UInt8.ofNat ((E : Int) % 256).toNat = u8e E from rfl, ← hYe] at hTr
 have HX := Lib.hid hX
 have HY := Lib.hid hY
 have HTr := Lib.hid hTr
 have HYes := Lib.hid (fun u => yes_any u)
 have hcatZ : S ++ a1 = Z := hZ.symm
 have s1 : (R.toList == R.toList) = true := beq_self_eq_true _
 have TA := Lib.hid ((Own.Turn.refl (Own.Has.nil w)).allocRow w.heap.size rfl 23 [.int .i64 a0.from_, .int .i64 a0.to, .int .i64 a0.depth, .int .i64 a0.stage, .int .i64 a0.limit])
 obtain ⟨f, t, d, g, l⟩ := a0
 unfold Setup.val at H0 HX ⊢
 simp only at H0 HX TA ⊢
 clear hX hY hTr hZ dZ zZ eZ hXe hR hYe hlenX hl1 hlong dS hS hr hr' hT
 go_enter Tryz.func11, Tryz.ntmps11
 go_wp2_with (fail)
 refine (H0.out _).mono ?_
 rintro e w1 ⟨rfl, b1⟩
 have T1 := Lib.hid (TA.out.trans (Own.Turn.of_below TA.out.has b1))
 clear b1
 go_wp2_with (fail)
 refine (HA.out _).mono ?_
 rintro e w2 ⟨rfl, b2⟩
 have T2 := Lib.hid (T1.out.trans (Own.Turn.of_below T1.out.has b2))
 have HB2 := Lib.hid (T2.out.below (B := w.heap.size) (fun x hx => by cases hx) (Nat.le_refl _))
 clear b2 T1
 go_wp2_with (fail)
 refine (HY.out _ HB2.out).mono ?_
 rintro e w3 ⟨rfl, b3⟩
 have T3 := Lib.hid (T2.out.trans (Own.Turn.of_below T2.out.has b3))
 clear b3 T2
 have c0 := T3.out.has.cell w.heap.size _ _ (List.mem_cons_self ..) 0 _ rfl
 have c1 := T3.out.has.cell w.heap.size _ _ (List.mem_cons_self ..) 1 _ rfl
 have c2 := T3.out.has.cell w.heap.size _ _ (List.mem_cons_self ..) 2 _ rfl
 have c3 := T3.out.has.cell w.heap.size _ _ (List.mem_cons_self ..) 3 _ rfl
 have c4 := T3.out.has.cell w.heap.size _ _ (List.mem_cons_self ..) 4 _ rfl
 have hT3 := Lib.hid (HT.out.of (T3.out.below (B := Esc.tabsEnd) (fun x hx => by cases hx) HT.out.size))
 go_wp2_with (fail)
 refine (HX.out _ hT3.out).mono ?_
 rintro e w4 ⟨rfl, b4⟩
 have T4 := Lib.hid (T3.out.trans (Own.Turn.of_below T3.out.has b4))
 clear b4 c0 c1 c2 c3 c4
 go_wp2_with (fail)
 refine (HYes.out _).mono ?_
 rintro e w5 ⟨rfl, rfl⟩
 go_wp2_with (fail)
 refine (HTr.out _).mono ?_
 rintro e w6 ⟨rfl, b6⟩
 have T6 := Lib.hid (T4.out.trans (Own.Turn.of_below T4.out.has b6))
 clear b6
 go_wp2
 go_ret
 exact ⟨rfl, T6.out.below (fun x hx => by cases hx) (Nat.le_refl _)⟩
end Go.Proofs.YthnbpnfaghjamaaGreat.helloBatches
