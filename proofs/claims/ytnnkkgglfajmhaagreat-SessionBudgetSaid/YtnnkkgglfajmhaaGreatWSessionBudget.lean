/- SessionBudget: the walk. -/
import Derived.Test.YtnnkkgglfajmhaaGreatM45
import Derived.Test.YtnnkkgglfajmhaaGreatM47
set_option maxRecDepth 100000
set_option maxHeartbeats 8000000
namespace Go.Proofs.YtnnkkgglfajmhaaGreat.sessionBudget
open Go.RowKit
open Ses Pip
theorem cat_size (l : List UInt8) (b : ByteArray) : ((⟨l.toArray⟩ : ByteArray) ++ b).size = l.length + b.size := by
 rw [ByteArray.size_append]; rfl
theorem last_byte (A : ByteArray) (l : List UInt8) (y : UInt8) (h : A.data.toList = l ++ [y]) (k : Nat) (hk : k < A.size) (e : k + 1 = A.size) : A[k] = y := by
 have hl : A.size = l.length + 1 := by rw [show A.size = A.data.toList.length from (Array.length_toList).symm, h]; simp
 have h1 : A.data.toList[k]? = some y := by rw [h, List.getElem?_append_right (by omega), show k - l.length = 0 by omega]; rfl
 have h2 : A.data[k]? = some y := by rw [← Array.getElem?_toList]; exact h1
 exact (Array.getElem?_eq_some_iff.1 h2).2
theorem may_any (m : Nat) (most : Int) (_h0 : 0 ≤ most) (_h1 : most ≤ 200) (W : World) (z : Nat) (hW : Own.Has W [Own.row m 3 [.int .i64 most]]) (hz : z ≤ 1000000000000) :
  Calls Tryz.prog 15 #[.int .i64 (z : Int), .pointer (some ⟨m, 0, none⟩)] W fun e w' => e = .returned (.bool (decide ((z : Int) ≤ most))) ∧ w' = W := by
 have c0 := hW.cell m _ _ mcs 0 _ rfl
 obtain ⟨Z, hZ⟩ : ∃ Z : Int, Z = (z : Int) := ⟨_, rfl⟩
 have hZ1 : Z ≤ 1000000000000 := by omega
 have hZ0 : 0 ≤ Z := by omega
 rw [← hZ]
 clear hZ hz hW
 go_enter Tryz.func15, Tryz.ntmps15
 go_wp2
 go_ret
 exact ⟨rfl, rfl⟩
theorem walk (T : Esc.Tabs) (s : Setup) (b : ByteArray) (most : Int) (_zb : b.size ≤ 140737488355327) (_wn : (Lit.int .i64 most).wf = true) (w : World) (hT : Esc.TabsAt T w) :
  Calls Tryz.prog 5 #[s.val, .string b, .int .i64 most] w fun e w' => e = .returned (.bool true) ∧ Below w.heap.size w w' := by
 have HTb := hhh (fun (u : World) (h : Below w.heap.size w u) => (hT.of (h.mono hT.size) : Esc.TabsAt T u))
 have HTs := hhh hT.size
 have HA := hhh (fun (u : World) (h : Esc.TabsAt T u) => alive23_any u h)
 clear hT _wn
 obtain ⟨C, hC⟩ : ∃ C : Own.Heap, C = [Own.row (w.heap.size + 1) 3 [.int .i64 most]] := ⟨_, rfl⟩
 have bot := fun {h : Own.Heap} {u : World} (t : Own.Turn [] h w u) => t.below (B := w.heap.size) (fun x hx => by cases hx) (Nat.le_refl _)
 have Bot := @hhh _ @bot
 have hbl := fun {h : Own.Heap} {u : World} (t : Own.Turn [] h w u) => t.least (B := Esc.tabsEnd) (fun x hx => by cases hx) HTs.out
 have Hbl := @hhh _ @hbl
 have cel := fun {h : Own.Heap} {u : World} (t : Own.Turn [] (h ++ C) w u) => (show u.cell? ⟨w.heap.size + 1, 0, none⟩ = some (.int .i64 most) from (hC ▸ t.has.right).cell (w.heap.size + 1) _ _ mcs 0 _ rfl)
 have Cel := @hhh _ @cel
 clear bot hbl cel
 have T0 := hhh (fun o => (show Own.Turn [] ([] ++ C) w ((w.alloc o).alloc (.cells #[.int .i64 most] 3)) by
  rw [hC]
  exact ((Own.Turn.refl (Own.Has.nil w)).litter o).allocAt (w.heap.size + 1) (by rw [Json.size_alloc]) _))
 cases hr : right s with
 | false =>
  have HP := hhh (fun u => hput_none s hr u)
  clear hr
  obtain ⟨f, t, d, g, l⟩ := s
  unfold Setup.val at HP ⊢
  simp only at HP ⊢
  go_enter Tryz.func5, Tryz.ntmps5
  go_wp2_with (fail)
  refine (HP.out _).mono ?_
  rintro e W1 ⟨rfl, b1⟩
  have H1 := hhh ((T0.out _).trans (Own.Turn.of_below (T0.out _).has b1))
  clear b1
  go_wp2_with (fail)
  refine (HA.out _ (HTb.out _ (Bot.out H1.out))).mono ?_
  rintro e W2 ⟨rfl, b2⟩
  have H2 := hhh (H1.out.trans (Own.Turn.of_below H1.out.has b2))
  clear b2
  go_wp2
  go_ret
  exact ⟨rfl, Bot.out H2.out⟩
 | true =>
  have HP := hhh (fun u => hput_any s hr u)
  obtain ⟨PB, hPB⟩ : ∃ PB : ByteArray, PB = ⟨(helloBytes s).toArray⟩ := ⟨_, rfl⟩
  rw [← hPB] at HP
  obtain ⟨X, hX⟩ : ∃ X, PB ++ b = X := ⟨_, rfl⟩
  have hXs : X.size = 8 + b.size := by rw [← hX, hPB, cat_size]; rfl
  have hPBs : PB.size = 8 := by rw [hPB]; rfl
  clear hr hPB
  rcases (show 60 < b.size ∨ (b.size ≤ 60 ∧ most < 10) ∨ (b.size ≤ 60 ∧ 10 ≤ most ∧ 200 < most) ∨ (b.size ≤ 60 ∧ 10 ≤ most ∧ most ≤ 200) by omega) with hb | ⟨hb, h1⟩ | ⟨hb, h1, h2⟩ | ⟨hb, h1, h2⟩
  case inr.inr.inr =>
   obtain ⟨f, t, d, g, l⟩ := s
   unfold Setup.val at HP ⊢
   simp only at HP ⊢
   have hXI : (X.size : Int) ≤ 68 := by omega
   have HXs := hhh hXI
   have HM := hhh (fun W z (hW : Own.Has W C) (hz : z ≤ 1000000000000) => may_any (w.heap.size + 1) most (by omega) h2 W z (hC ▸ hW) hz)
   clear hXs
   go_enter Tryz.func5, Tryz.ntmps5
   go_wp2_with (fail)
   refine (HP.out _).mono ?_
   rintro e W1 ⟨rfl, b1⟩
   have H1 := hhh ((T0.out _).trans (Own.Turn.of_below (T0.out _).has b1))
   clear b1
   have c1 := Cel.out H1.out
   go_wp2_with (fail)
   refine (HA.out _ (HTb.out _ (Bot.out H1.out))).mono ?_
   rintro e W2 ⟨rfl, b2⟩
   have H2 := hhh (H1.out.trans (Own.Turn.of_below H1.out.has b2))
   clear b2 c1
   go_wp2_with (fail)
   refine (Ses.new_any _).mono ?_
   rintro e W3 ⟨sb, h0, rfl, i0, t0⟩
   have H3 := hhh (And.intro i0 (show Own.Turn [] (h0 ++ C) w W3 from H2.out.trans (t0.frame H2.out.has)))
   clear i0 t0
   have c3 := Cel.out H3.out.2
   have HF := feed_any H3.out.1 H3.out.2.has.left X (by omega) (most - 2)
   obtain ⟨K, hK⟩ : ∃ K, K = (fresh []).takes X.data.toList (most - 2) := ⟨_, rfl⟩
   have hK64 := takes_le (fresh []) X.data.toList (most - 2)
   rw [← hK] at hK64
   rw [show St.new = fresh [] from rfl, ← hK] at HF
   have HF := hhh HF
   obtain ⟨Y, hY⟩ : ∃ Y, Y = (fresh []).feed X.data.toList (most - 2) := ⟨_, rfl⟩
   rw [← hY] at HF
   have HY := hhh (show Y.Good T 0 ∧ (Y.charge : Int) ≤ most ∧ Y.ended = false by
    refine ⟨by rw [hY]; exact (fresh_good T [] (by decide)).feed _ _, ?_, by rw [hY]; rfl⟩
    rw [hY, fresh_feed, ← hK, fresh_charge, List.length_append, List.length_take]
    have := hK64.2.2
    simp only [List.length_nil]
    omega)
   have hKI : (K : Int) ≤ 64 := by have := hK64.1; omega
   clear hK hK64 hY
   go_wp2_with (fail)
   refine HF.out.mono ?_
   rintro e W4 ⟨rfl, h4, i4, t4⟩
   have H4 := hhh (And.intro i4 (H3.out.2.trans (t4.frame H3.out.2.has)))
   clear i4 t4 HF c3
   go_wp2
   go_loopw [11, 12] (fun o x wr => ∃ (i : Nat) (ob : ByteArray) (t : St) (h : Own.Heap), x = .int .i64 i ∧ o = .string ob ∧ i ≤ 100 ∧ ob.size ≤ 3 * i ∧ Is t sb h ∧ t.Good T (16 * i) ∧ (t.charge : Int) ≤ most ∧ t.ended = false ∧ Own.Turn [] (h ++ C) w wr) (fun _ x _ => 100 - (intOf x).toNat)
   case atStart => exact ⟨0, _, Y, h4, rfl, rfl, by omega, by decide, H4.out.1, HY.out.1, HY.out.2.1, HY.out.2.2, H4.out.2⟩
   case round =>
    obtain ⟨i, ob, t, h, rfl, rfl, hi, hob, k, g, hch, hne, tt⟩ := hrel
    have K := hhh (And.intro k (And.intro g (And.intro hne (And.intro hch tt))))
    have hobI := hhh (show ob.size ≤ 300 by omega)
    have hob3 := hhh hob
    obtain ⟨Q, hQ⟩ : ∃ Q : Int, Q = (t.charge : Int) := ⟨_, rfl⟩
    have hQ1 : Q ≤ most := by omega
    have hQ0 : 0 ≤ Q := by omega
    have HQ := hhh hQ
    clear k g hch hne tt hob hQ
    by_cases hi100 : i < 100
    ·have hiI : (i : Int) < 100 := by omega
     have hCh := charge_any K.out.1 K.out.2.2.2.2.has.left K.out.2.1 (by omega)
     rw [← HQ.out] at hCh
     obtain ⟨R, hR⟩ : ∃ R, R = t.run (textT T) (some fun z => decide (z ≤ most)) 16 := ⟨_, rfl⟩
     have HRg := hhh (show R.1.Good T (16 * i + 16) ∧ (R.1.charge : Int) ≤ most ∧ Last R.1 by
      rw [hR]
      exact ⟨run_good _ 16 (16 * i) t K.out.2.1 (by omega), run_charge _ _ 16 t K.out.2.2.2.1, run_last _ _ 16 t (last_on K.out.2.2.1)⟩)
     have HRn := fun m => run_may (c := C) K.out.1 (K.out.2.2.2.2.has.drewN m) K.out.2.1 (by omega) (Hbl.out (K.out.2.2.2.2.drewN m)) (HTb.out _ (Bot.out (K.out.2.2.2.2.drewN m))) (.pointer (some ⟨w.heap.size + 1, 0, none⟩)) (fun z => decide (z ≤ most)) HM.out
     simp only [← hR] at HRn
     have HRn := hhh HRn
     clear hR
     go_wp2_with (fail)
     refine hCh.mono ?_
     rintro e W5 ⟨rfl, m5, rfl⟩
     have c5 := Cel.out (K.out.2.2.2.2.drewN m5)
     by_cases hz : R.2 = 0
     ·rw [hz] at HRn
      go_wp2_with (fail)
      refine (HRn.out m5).mono ?_
      rintro e W6 ⟨rfl, h6, i6, t6⟩
      have H6 := hhh ((K.out.2.2.2.2.drewN m5).trans t6)
      clear i6 t6 hCh HRn
      go_wp2
      go_ret
      exact ⟨rfl, Bot.out H6.out⟩
     ·have hz0 : ((R.2 : Int) == 0) = false := by rw [beq_eq_false_iff_ne]; omega
      go_wp2_with (fail)
      refine (HRn.out m5).mono ?_
      rintro e W6 ⟨rfl, h6, i6, t6⟩
      have H6 := hhh (And.intro i6 ((K.out.2.2.2.2.drewN m5).trans t6))
      clear i6 t6 hCh HRn c5
      have c6 := Cel.out H6.out.2
      obtain ⟨S, hS⟩ : ∃ S, S = R.1 := ⟨_, rfl⟩
      rw [← hS] at H6 HRg
      clear hS
      have HC6 := fun m => charge_any H6.out.1 (H6.out.2.has.left.drewN m) HRg.out.1 (by omega)
      obtain ⟨D, hD⟩ : ∃ D : Int, D = (S.charge : Int) := ⟨_, rfl⟩
      have hD1 : D ≤ most := by have := HRg.out.2.1; omega
      have hD0 : 0 ≤ D := by omega
      have hDl := hhh hD
      rw [← hD] at HC6
      have HC6 := hhh HC6
      have HEn := hhh (fun m => ended_any H6.out.1 (H6.out.2.has.left.drewN m))
      clear hD
      cases he : S.ended with
      | false =>
       rw [he] at HEn
       have HE := hhh he
       have HWr := hhh (fun m => Ses.write_any H6.out.1 (H6.out.2.has.left.drewN m) 3 (by omega) (by have := HRg.out.1.out; omega))
       obtain ⟨OB, hOB⟩ : ∃ OB : ByteArray, OB = ⟨(S.out.take 3).toArray⟩ := ⟨_, rfl⟩
       have hOBs : OB.size ≤ 3 := by rw [hOB]; show (S.out.take 3).length ≤ 3; rw [List.length_take]; omega
       rw [← hOB] at HWr
       have hcat : (ob.size : Int) + (OB.size : Int) ≤ 1000 := by have := hobI.out; omega
       have HOB := hhh hOBs
       clear he hOB hOBs
       go_wp2_with (fail)
       go_quiet (exact Calls.quiet_of (HC6.out _))
       rename_i nq
       go_wp2_with (fail)
       refine (HEn.out _).mono ?_
       rintro e W7 ⟨rfl, m7, rfl⟩
       go_wp2_with (fail)
       refine (HWr.out (nq + m7)).mono ?_
       rintro e W8 ⟨rfl, h8, i8, t8⟩
       have H8 := hhh (And.intro i8 ((H6.out.2.drewN _).trans (t8.frame (H6.out.2.has.drewN _))))
       clear i8 t8
       go_wp2
       go_roundw
       case rel => exact ⟨i + 1, _, S.write (3 : Nat), h8, by congr 1, rfl, by omega, by rw [ByteArray.size_append]; have := HOB.out; have := hob3.out; omega, H8.out.1, (HRg.out.1.write _).mono (by omega), by have := write_charge S 3; have := HRg.out.2.1; omega, HE.out, H8.out.2⟩
       case measure => simp [intOf]; omega
      | true =>
       rw [he] at HEn
       have hso : S.out.length ≤ 200 := by have h9 := charge_ended he; have := HRg.out.2.1; omega
       have HWr := hhh (fun m => Ses.write_any H6.out.1 (H6.out.2.has.left.drewN m) 10000 (by omega) (by omega))
       rw [List.take_of_length_le (show S.out.length ≤ 10000 by omega)] at HWr
       have HCd := hhh (write_closed he 10000 (by omega))
       obtain ⟨OB, hOB⟩ : ∃ OB : ByteArray, OB = ⟨S.out.toArray⟩ := ⟨_, rfl⟩
       rw [← hOB] at HWr
       have hOBs : OB.size = S.out.length := by rw [hOB]; rfl
       obtain ⟨pre, x, hlast⟩ := HRg.out.2.2 he
       have hOB2 : 2 ≤ OB.size := by rw [hOBs, hlast, List.length_append]; simp
       obtain ⟨AB, hAB⟩ : ∃ AB : ByteArray, ob ++ OB = AB := ⟨_, rfl⟩
       have hABs : AB.size = ob.size + OB.size := by rw [← hAB, ByteArray.size_append]
       have hcat : (ob.size : Int) + (OB.size : Int) ≤ 1000 := by have := hobI.out; omega
       have hA2 : 2 ≤ AB.size := by omega
       have hA1 : (AB.size : Int) ≤ 1000 := by omega
       have HLast := hhh (And.intro hlast (And.intro hOB (And.intro hAB hABs)))
       by_cases h11 : S.e = 11
       ·have hx : AB[AB.size - 1]'(by omega) = 11 := by
         refine last_byte AB (ob.data.toList ++ pre ++ [x]) 11 ?_ _ _ (by omega)
         rw [← hAB, hOB, hlast, h11]
         simp
        rw [h11] at HEn
        clear he hso hOB hOBs hlast hABs h11
        go_wp2_with (fail)
        go_quiet (exact Calls.quiet_of (HC6.out _))
        rename_i nq
        go_wp2_with (fail)
        refine (HEn.out _).mono ?_
        rintro e W7 ⟨rfl, m7, rfl⟩
        go_wp2_with (fail)
        refine (HWr.out (nq + m7)).mono ?_
        rintro e W8 ⟨rfl, h8, i8, t8⟩
        have H8 := hhh (And.intro i8 ((H6.out.2.drewN _).trans (t8.frame (H6.out.2.has.drewN _))))
        clear i8 t8
        have HCl := closed_any H8.out.1 H8.out.2.has.left
        rw [show (S.write ((10000 : Nat) : Int)).closed = true from HCd.out] at HCl
        go_wp2_with (fail)
        refine HCl.mono ?_
        rintro e W9 ⟨rfl, rfl⟩
        go_wp2
        go_ret
        exact ⟨rfl, Bot.out H8.out.2⟩
       ·have h11b : ((S.e : Int) != 11) = true := by rw [bne_iff_ne]; omega
        obtain ⟨EI, hEI⟩ : ∃ EI : Int, EI = (S.e : Int) := ⟨_, rfl⟩
        rw [← hEI] at HEn h11b
        clear he hso hOB hOBs hlast hABs h11 hEI
        go_wp2_with (fail)
        go_quiet (exact Calls.quiet_of (HC6.out _))
        rename_i nq
        go_wp2_with (fail)
        refine (HEn.out _).mono ?_
        rintro e W7 ⟨rfl, m7, rfl⟩
        go_wp2_with (fail)
        refine (HWr.out (nq + m7)).mono ?_
        rintro e W8 ⟨rfl, h8, i8, t8⟩
        have H8 := hhh (And.intro i8 ((H6.out.2.drewN _).trans (t8.frame (H6.out.2.has.drewN _))))
        clear i8 t8
        have HCl := closed_any H8.out.1 H8.out.2.has.left
        rw [show (S.write ((10000 : Nat) : Int)).closed = true from HCd.out] at HCl
        go_wp2_with (fail)
        refine HCl.mono ?_
        rintro e W9 ⟨rfl, rfl⟩
        go_wp2
        go_ret
        exact ⟨rfl, Bot.out H8.out.2⟩
    ·obtain rfl : i = 100 := by omega
     have H9 := hhh (Bot.out K.out.2.2.2.2)
     go_wp2
     go_ret
     exact ⟨rfl, H9.out⟩
  all_goals
   obtain ⟨f, t, d, g, l⟩ := s
   unfold Setup.val at HP ⊢
   simp only at HP ⊢
   clear hX hXs
   go_enter Tryz.func5, Tryz.ntmps5
   go_wp2_with (fail)
   refine (HP.out _).mono ?_
   rintro e W1 ⟨rfl, b1⟩
   have H1 := hhh ((T0.out _).trans (Own.Turn.of_below (T0.out _).has b1))
   clear b1
   have c1 := Cel.out H1.out
   go_wp2_with (fail)
   refine (HA.out _ (HTb.out _ (Bot.out H1.out))).mono ?_
   rintro e W2 ⟨rfl, b2⟩
   have H2 := hhh (H1.out.trans (Own.Turn.of_below H1.out.has b2))
   clear b2
   go_wp2
   go_ret
   exact ⟨rfl, Bot.out H2.out⟩
end Go.Proofs.YtnnkkgglfajmhaaGreat.sessionBudget
