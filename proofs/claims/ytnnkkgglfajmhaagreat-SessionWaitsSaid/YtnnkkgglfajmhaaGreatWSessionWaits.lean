/- SessionWaits: the walk. -/
import Derived.Test.YtnnkkgglfajmhaaGreatM47
import Derived.Test.YtnnkkgglfajmhaaGreatM48
set_option maxRecDepth 100000
set_option maxHeartbeats 8000000
namespace Go.Proofs.YtnnkkgglfajmhaaGreat.sessionWaits
open Go.RowKit
open Ses Pip
theorem cat_lists (a b : List UInt8) : ((⟨a.toArray⟩ : ByteArray) ++ ⟨b.toArray⟩) = ⟨(a ++ b).toArray⟩ := by
 apply ByteArray.ext; simp
theorem extract_drop (l : List UInt8) (k n : Nat) (hn : n = l.length) : (⟨l.toArray⟩ : ByteArray).extract k n = ⟨(l.drop k).toArray⟩ := by
 subst hn
 apply ByteArray.ext
 apply Array.toList_inj.1
 simp only [ByteArray.data_extract, Array.toList_extract, List.extract_eq_take_drop]
 exact List.take_of_length_le (by rw [List.length_drop]; omega)
theorem walk (T : Esc.Tabs) (n : Int) (_wn : (Lit.int .i64 n).wf = true) (w : World) (hT : Esc.TabsAt T w) :
  Calls Tryz.prog 4 #[.int .i64 n] w fun e w' => e = .returned (.bool true) ∧ Below w.heap.size w w' := by
 have BT := hhh (fun (u v : World) (b : Below w.heap.size w u) (b2 : Below u.heap.size u v) => (b.trans (b2.mono b.size) : Below w.heap.size w v))
 have HTb := hhh (fun (u : World) (h : Below w.heap.size w u) => (hT.of (h.mono hT.size) : Esc.TabsAt T u))
 have HA := hhh (alive23_any w hT)
 clear hT _wn
 rcases (show n < 40 ∨ (40 ≤ n ∧ 60 < n) ∨ (40 ≤ n ∧ n ≤ 60) by omega) with h1 | ⟨h1, h2⟩ | ⟨h1, h2⟩
 case inr.inr =>
  obtain ⟨N, rfl⟩ : ∃ N : Nat, n = (N : Int) := ⟨n.toNat, by omega⟩
  have h60 : N ≤ 60 := by omega
  have HW := hhh (wend_at (textT T) (by kernel_rfl) N (by omega) h60)
  have HP := hhh (fun u => hput_any wset (by decide) u)
  obtain ⟨PB, hPB⟩ : ∃ PB : ByteArray, PB = ⟨(helloBytes wset).toArray⟩ := ⟨_, rfl⟩
  rw [← hPB] at HP
  have hPs : PB.size = 8 := by rw [hPB]; rfl
  have HPB := hhh (show PB.data.toList = helloBytes wset by rw [hPB])
  unfold Setup.val wset at HP
  simp only at HP
  clear hPB
  go_enter Tryz.func4, Tryz.ntmps4
  go_wp2_with (fail)
  refine HA.out.mono ?_
  rintro e W1 ⟨rfl, b1⟩
  have B1 := hhh b1
  clear b1
  go_wp2_with (fail)
  refine (Ses.new_any _).mono ?_
  rintro e W2 ⟨sb, h0, rfl, i0, t0⟩
  have H0 := hhh (And.intro i0 t0)
  clear i0 t0
  go_wp2_with (fail)
  refine (HP.out _).mono ?_
  rintro e W3 ⟨rfl, b3⟩
  have H3 := hhh (H0.out.2.trans (Own.Turn.of_below H0.out.2.has b3))
  clear b3
  have HF := feed_any H0.out.1 H3.out.has PB (by omega) 99
  rw [HPB.out, show (St.new.takes (helloBytes wset) 99 : Nat) = 8 from wfed_takes, show St.new.feed (helloBytes wset) 99 = wfed from rfl] at HF
  have HF := hhh HF
  go_wp2_with (fail)
  refine HF.out.mono ?_
  rintro e W4 ⟨rfl, h4, i4, t4⟩
  have H4 := hhh (And.intro i4 (H3.out.trans t4))
  clear i4 t4 HF
  have bot := fun {h : Own.Heap} {u : World} (t : Own.Turn [] h W1 u) => BT.out _ _ B1.out (t.below (B := W1.heap.size) (fun x hx => by cases hx) (Nat.le_refl _))
  have Bot := @hhh _ @bot
  have hbl := fun {h : Own.Heap} {u : World} (t : Own.Turn [] h W1 u) => t.least (B := Esc.tabsEnd) (fun x hx => by cases hx) (HTb.out _ B1.out).size
  have Hbl := @hhh _ @hbl
  clear bot hbl
  go_wp2_with (fail)
  refine (run_nil H4.out.1 H4.out.2.has (wfed_good T) (by omega) (Hbl.out H4.out.2) (HTb.out _ (Bot.out H4.out.2))).mono ?_
  rintro e W5 ⟨rfl, h5, i5, t5⟩
  have H5 := hhh (And.intro i5 (H4.out.2.trans t5))
  clear i5 t5
  go_wp2_with (fail)
  refine (Ses.write_any H5.out.1 H5.out.2.has 9 (by omega) (by have := (run_good none 16 0 wfed (wfed_good T) (by omega)).out; omega)).mono ?_
  rintro e W6 ⟨rfl, h6, i6, t6⟩
  have H6 := hhh (And.intro (show Is (wstart (textT T)) sb h6 from i6) (H5.out.2.trans t6))
  clear i6 t6
  go_wp2
  go_loopw [6, 7] (fun d x wr => ∃ (i : Nat), x = .int .i64 i ∧ d = .string ⟨(fives i).toArray⟩ ∧ i ≤ N ∧ wr = W6) (fun _ x _ => N - (intOf x).toNat)
  case atStart => exact ⟨0, rfl, rfl, by omega, rfl⟩
  case round =>
   obtain ⟨i, rfl, rfl, hi, rfl⟩ := hrel
   have HD := hhh (cat_lists (fives i) [53, 44])
   obtain ⟨D, hD⟩ : ∃ D : ByteArray, D = ⟨(fives i).toArray⟩ := ⟨_, rfl⟩
   rw [← hD] at HD ⊢
   have HDe := hhh hD
   have hDs : (D.size : Int) ≤ 200 := by rw [hD]; show ((fives i).length : Int) ≤ 200; rw [fives_length]; omega
   clear hD
   have hi60 : (i : Int) ≤ 60 := by omega
   by_cases hiN : i < N
   ·have hiNI : (i : Int) < (N : Int) := by omega
    go_wp2
    go_roundw
    case rel => exact ⟨i + 1, by congr 1, by rw [← fives_succ]; exact congrArg Value.string HD.out, by omega, trivial⟩
    case measure => simp [intOf]; omega
   ·obtain rfl : i = N := by omega
    have HD2 := hhh (show D ++ ⟨#[53, 93]⟩ = ⟨(doc i).toArray⟩ by rw [HDe.out]; exact cat_lists (fives i) [53, 93])
    go_wp2
    rw [HD2.out]
    go_loopw [6, 8] (fun d x wr => ∃ (j : Nat) (h' : Own.Heap), x = .int .i64 j ∧ d = .string ⟨(wit (textT T) i j).2.1.toArray⟩ ∧ j ≤ 5 ∧ Is (wit (textT T) i j).1 sb h' ∧ Own.Turn [] h' W1 wr) (fun _ x _ => 6 - (intOf x).toNat)
    case atStart => exact ⟨0, h6, rfl, rfl, by omega, H6.out.1, H6.out.2⟩
    case round =>
     obtain ⟨j, h', rfl, rfl, hj, k, tt⟩ := hrel
     have g := wit_good T i j (by omega)
     have hlen := wit_length (textT T) i j
     obtain ⟨D2, hD2⟩ : ∃ D2 : ByteArray, D2 = ⟨(wit (textT T) i j).2.1.toArray⟩ := ⟨_, rfl⟩
     have hDl : D2.data.toList = (wit (textT T) i j).2.1 := by rw [hD2]
     have hDs : D2.size = (wit (textT T) i j).2.1.length := by rw [hD2]; rfl
     have HF := feed_any k tt.has D2 (by omega) 999
     rw [hDl] at HF
     have HF := hhh HF
     obtain ⟨KT, hKT⟩ : ∃ KT, KT = (wit (textT T) i j).1.takes (wit (textT T) i j).2.1 999 := ⟨_, rfl⟩
     rw [← hKT] at HF
     have hle : KT ≤ D2.size := by rw [hKT, hDs]; exact (takes_le _ _ _).2.1
     have HX := hhh (show D2.extract KT D2.size = ⟨(wit (textT T) i (j + 1)).2.1.toArray⟩ by rw [hD2, extract_drop (wit (textT T) i j).2.1 KT _ (show (⟨(wit (textT T) i j).2.1.toArray⟩ : ByteArray).size = _ from rfl), hKT]; rfl)
     rw [← hD2]
     have hDI : (D2.size : Int) ≤ 200 := by omega
     have Hj := hhh (And.intro hj (And.intro (g.feed (wit (textT T) i j).2.1 999) tt))
     obtain ⟨R, hR⟩ : ∃ R, R = (wit (textT T) i (j + 1)).2.2 := ⟨_, rfl⟩
     have HR := hhh hR
     clear k tt g hlen hD2 hDl hDs hKT hR
     by_cases hj5 : j < 5
     ·have hR0 : ((R : Int) == 0) = false := by have := HW.out.on j hj5; rw [← HR.out] at this; rw [beq_eq_false_iff_ne]; omega
      have hjI : (j : Int) < 60 := by omega
      go_wp2_with (fail)
      refine HF.out.mono ?_
      rintro e W7 ⟨rfl, h7, i7, t7⟩
      have H7 := hhh (And.intro i7 (Hj.out.2.2.trans t7))
      clear i7 t7 HF
      go_wp2_with (fail)
      have HRun := run_nil H7.out.1 H7.out.2.has Hj.out.2.1 (by have := Hj.out.1; omega) (Hbl.out H7.out.2) (HTb.out _ (Bot.out H7.out.2))
      rw [show ((((wit (textT T) i j).1.feed (wit (textT T) i j).2.1 999).run (textT T) none 16).2 : Int) = (R : Int) by rw [HR.out]; rfl] at HRun
      refine HRun.mono ?_
      rintro e W8 ⟨rfl, h8, i8, t8⟩
      have H8 := hhh (And.intro (show Is (wit (textT T) i (j + 1)).1 sb h8 from i8) (H7.out.2.trans t8))
      clear i8 t8 HRun
      go_wp2
      go_roundw
      case rel => exact ⟨j + 1, h8, by congr 1, by rw [← HX.out], by omega, H8.out.1, H8.out.2⟩
      case measure => simp [intOf]; omega
     ·have hj6 : j + 1 = 6 := by omega
      have hR0 : R = 0 := by rw [HR.out, hj6]; exact HW.out.off
      subst hR0
      have hjI : (j : Int) < 60 := by omega
      obtain ⟨S, hS⟩ : ∃ S, S = (wit (textT T) i (j + 1)).1 := ⟨_, rfl⟩
      have HS := hhh (show S.ready = false ∧ 20 ≤ S.out.length ∧ (S.write 20).ready = true by rw [hS, hj6]; exact ⟨HW.out.full, HW.out.out, HW.out.again⟩)
      have HSe := hhh hS
      clear hS hj6 hj5
      go_wp2_with (fail)
      refine HF.out.mono ?_
      rintro e W7 ⟨rfl, h7, i7, t7⟩
      have H7 := hhh (And.intro i7 (Hj.out.2.2.trans t7))
      clear i7 t7 HF
      go_wp2_with (fail)
      have HRun := run_nil H7.out.1 H7.out.2.has Hj.out.2.1 (by have := Hj.out.1; omega) (Hbl.out H7.out.2) (HTb.out _ (Bot.out H7.out.2))
      rw [show ((((wit (textT T) i j).1.feed (wit (textT T) i j).2.1 999).run (textT T) none 16).2 : Int) = ((0 : Nat) : Int) by rw [HR.out]; rfl] at HRun
      refine HRun.mono ?_
      rintro e W8 ⟨rfl, h8, i8, t8⟩
      have i9 : Is (wit (textT T) i (j + 1)).1 sb h8 := i8
      rw [← HSe.out] at i9
      have H8 := hhh (And.intro i9 (H7.out.2.trans t8))
      clear i8 i9 t8 HRun HX
      have G := wit_good T i (j + 1) (by have := Hj.out.1; omega)
      rw [← HSe.out] at G
      have G := hhh (G.mono (show 16 * (j + 1 + 1) ≤ 200 by have := Hj.out.1; omega))
      clear HR HW HSe
      obtain ⟨C, hC⟩ : ∃ C : Int, C = (S.charge : Int) := ⟨_, rfl⟩
      have hCle := charge_le G.out
      have hC1 : C ≤ 100000000000 := by omega
      have hC0 : 20 ≤ C := by
       have h9 := write_charge S 20
       have h10 : (S.out.take 20).length = 20 := by rw [List.length_take]; have := HS.out.2.1; omega
       omega
      have HC := hhh hC
      clear hC hCle
      have HRd0 := ready_any H8.out.1 H8.out.2.has
      rw [HS.out.1] at HRd0
      have HCh := Ses.charge_any H8.out.1 H8.out.2.has G.out (by omega)
      rw [← HC.out] at HCh
      have HRn := fun m => run_nil H8.out.1 (H8.out.2.has.drewN m) G.out (by omega) (Hbl.out H8.out.2) (HTb.out _ (Bot.out (H8.out.2.drewN m)))
      rw [run_off (textT T) none 16 S (.inr HS.out.1)] at HRn
      have HRn := hhh HRn
      go_wp2_with (fail)
      refine HRd0.mono ?_
      rintro e W9 ⟨rfl, rfl⟩
      clear HRd0
      go_wp2_with (fail)
      refine HCh.mono ?_
      rintro e W10 ⟨rfl, m10, rfl⟩
      clear HCh
      go_wp2_with (fail)
      refine (HRn.out m10).mono ?_
      rintro e W11 ⟨rfl, h11, i11, t11⟩
      have H11 := hhh (And.intro i11 ((H8.out.2.drewN m10).trans t11))
      clear i11 t11
      have HCh := Ses.charge_any H11.out.1 H11.out.2.has G.out (by omega)
      rw [← HC.out] at HCh
      go_wp2_with (fail)
      refine HCh.mono ?_
      rintro e W12 ⟨rfl, m12, rfl⟩
      clear HCh
      obtain ⟨OB, hOB⟩ : ∃ OB : ByteArray, OB = ⟨(S.out.take 20).toArray⟩ := ⟨_, rfl⟩
      have hOBs : OB.size = 20 := by rw [hOB]; show (S.out.take 20).length = 20; rw [List.length_take]; have := HS.out.2.1; omega
      have HWr := Ses.write_any H11.out.1 (H11.out.2.has.drewN m12) 20 (by omega) (by have := G.out.out; omega)
      rw [← hOB] at HWr
      have HWc := hhh (show ((S.write ((20 : Nat) : Int)).charge : Int) = C - 20 by
       have h9 := write_charge S 20
       have h10 : (S.out.take 20).length = 20 := by rw [List.length_take]; have := HS.out.2.1; omega
       have := HC.out
       omega)
      clear hOB
      go_wp2_with (fail)
      refine HWr.mono ?_
      rintro e W13 ⟨rfl, h13, i13, t13⟩
      have H13 := hhh (And.intro i13 ((H11.out.2.drewN m12).trans t13))
      clear i13 t13 HWr
      have HRd3 := ready_any H13.out.1 H13.out.2.has
      rw [show (S.write ((20 : Nat) : Int)).ready = true from HS.out.2.2] at HRd3
      have HCh := Ses.charge_any H13.out.1 H13.out.2.has (G.out.write _) (by omega)
      rw [HWc.out] at HCh
      go_wp2_with (fail)
      refine HRd3.mono ?_
      rintro e W14 ⟨rfl, rfl⟩
      clear HRd3
      go_wp2_with (fail)
      refine HCh.mono ?_
      rintro e W15 ⟨rfl, m15, rfl⟩
      go_wp2
      go_ret
      exact ⟨rfl, Bot.out (H13.out.2.drewN m15)⟩
 all_goals
  go_enter Tryz.func4, Tryz.ntmps4
  go_wp2_with (fail)
  refine HA.out.mono ?_
  rintro e W1 ⟨rfl, b1⟩
  have B1 := hhh b1
  clear b1
  go_wp2
  go_ret
  exact ⟨rfl, B1.out⟩
end Go.Proofs.YtnnkkgglfajmhaaGreat.sessionWaits
