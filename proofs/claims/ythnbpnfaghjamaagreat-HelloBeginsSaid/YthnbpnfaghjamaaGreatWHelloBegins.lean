/- HelloBegins: the walk: each beginning of a negotiation lacks bytes; other first bytes are none, however few. -/
import Derived.Test.YthnbpnfaghjamaaGreatM34
import Derived.Test.YthnbpnfaghjamaaGreatM35
import Derived.Laws.BitsAllLaws
import Derived.Laws.BytesArg
import Derived.Lib.ConvBytes
namespace Go.Proofs.YthnbpnfaghjamaaGreat.helloBegins
open Go.RowKit Pip

theorem bad0_whole (s : Setup) (y : UInt8) (h : y ≠ 84) : helloGet ((helloBytes s).set 0 y) = (Setup.zero, 2) := first_other _ y h _ rfl
theorem bad0_short (s : Setup) (y : UInt8) (h : y ≠ 84) : helloGet (((helloBytes s).set 0 y).take 1) = (Setup.zero, 2) := first_other _ y h _ rfl
theorem bad1_whole (s : Setup) (y : UInt8) (h : y ≠ 82) : helloGet ((helloBytes s).set 1 y) = (Setup.zero, 2) := second_other _ y h _ rfl
theorem bad1_short (s : Setup) (y : UInt8) (h : y ≠ 82) : helloGet (((helloBytes s).set 1 y).take 2) = (Setup.zero, 2) := second_other _ y h _ rfl

theorem xor_key : ∀ n : Fin 256, n.val ≠ 0 → (84 ^^^ n.val) < 256 ∧ (84 ^^^ n.val) ≠ 84 ∧ (82 ^^^ n.val) < 256 ∧ (82 ^^^ n.val) ≠ 82 := by decide +kernel

theorem xor84 (x : UInt8) (h : x ≠ 0) : ∃ y : UInt8, bits .xor .u8 84 (x.toNat : Int) = (y.toNat : Int) ∧ y ≠ 84 := by
  have hk := xor_key ⟨x.toNat, x.toNat_lt⟩ (fun e => h (UInt8.toNat_inj.1 e))
  have hz : (UInt8.ofNat (84 ^^^ x.toNat)).toNat = 84 ^^^ x.toNat := by rw [UInt8.toNat_ofNat']; exact Nat.mod_eq_of_lt hk.1
  exact ⟨_, by rw [hz]; exact u8_xor_nat 84 x.toNat (by decide) x.toNat_lt, fun e => hk.2.1 (by rw [← hz, e]; rfl)⟩

theorem xor82 (x : UInt8) (h : x ≠ 0) : ∃ y : UInt8, bits .xor .u8 82 (x.toNat : Int) = (y.toNat : Int) ∧ y ≠ 82 := by
  have hk := xor_key ⟨x.toNat, x.toNat_lt⟩ (fun e => h (UInt8.toNat_inj.1 e))
  have hz : (UInt8.ofNat (82 ^^^ x.toNat)).toNat = 82 ^^^ x.toNat := by rw [UInt8.toNat_ofNat']; exact Nat.mod_eq_of_lt hk.2.2.1
  exact ⟨_, by rw [hz]; exact u8_xor_nat 82 x.toNat (by decide) x.toNat_lt, fun e => hk.2.2.2 (by rw [← hz, e]; rfl)⟩

/-- A string's bytes in a row of their own. -/
theorem to_bytes (w : World) (s : ByteArray) : ∃ (W : World) (cap : Nat), (convert 9 47 (.string s)).run Tryz.prog w = .ok (.slice (some ⟨w.heap.size, 0, none⟩) s.size cap) W ∧ s.size ≤ cap ∧
    (∀ j, j < s.size → W.cell? ⟨w.heap.size, j, none⟩ = some (.int .u8 (s.data.toList.getD j 0).toNat)) ∧ (∀ j, j < s.size → W.frozen? ⟨w.heap.size, j, none⟩ = false) ∧ Below w.heap.size w W ∧ W.heap.size = w.heap.size + 1 := by
  refine ⟨_, _, Lib.run_convert_string_bytes w 9 47 5 s Tryz.underlying9 Tryz.underlying47 Tryz.underlying5, grownCap_ge w s.size 0 5, fun j hj => Lib.bytesWorld_cell w _ s j hj, fun j hj => ?_, ?_, Lib.bytesWorld_size w _ s⟩
  · have hz : s.size ≤ (Lib.bytesCells w 5 s).size := by
      unfold Lib.bytesCells
      rw [Array.size_append, Array.size_map]
      exact Nat.le_add_right _ _
    unfold World.frozen?
    rw [Lib.bytesWorld_at_new]
    simp only [Bool.and_eq_false_iff, decide_eq_false_iff_not]
    left; omega
  · exact ⟨rfl, rfl, rfl, by rw [Lib.bytesWorld_size]; omega, fun k hk => Lib.bytesWorld_at_old w _ s k hk⟩

theorem of_bytes (W : World) (k cap : Nat) (l : List UInt8) (n : Nat) (hn : l.length = n) (hc : ∀ j, j < n → W.cell? ⟨k, j, none⟩ = some (.int .u8 ((l.getD j 0).toNat : Int))) :
    (convert 47 9 (.slice (some ⟨k, 0, none⟩) n cap)).run Tryz.prog W = .ok (.string ⟨l.toArray⟩) W := by
  have h := run_convert_bytes_arg (P := Tryz.prog) (w := W) 47 5 Tryz.underlying47 Tryz.underlying5 k 0 n cap (l.map fun b => (b.toNat : Int)) (by simpa using hn) (fun i hi => by
    rw [Nat.zero_add, hc i hi, List.getD_eq_getElem?_getD, List.getD_eq_getElem?_getD, List.getElem?_map, List.getElem?_eq_getElem (by omega)]; rfl) 9 Tryz.underlying9
  rw [h]
  unfold strOfNums
  rw [List.map_map]
  have e : (fun n : Int => UInt8.ofNat n.toNat) ∘ (fun b : UInt8 => (b.toNat : Int)) = id := by
    funext b
    simp
  rw [e, List.map_id]

set_option maxRecDepth 100000 in
set_option maxHeartbeats 4000000 in
theorem walk (a0 : Setup) (a1 a2 : Int) (_w0 : a0.Fine) (_w1 : (Lit.int .i64 a1).wf = true) (w2 : (Lit.int .u8 a2).wf = true) (w : World) : Calls Tryz.prog 10 #[a0.val, .int .i64 a1, .int .u8 a2] w fun e w' => e = .returned (.bool true) ∧ Below w.heap.size w w' := by
  have HA := Lib.hid (fun u => alive_any u)
  have BT := Lib.hid (fun (u v : World) (b : Below w.heap.size w u) (b2 : Below u.heap.size u v) => (b.trans (b2.mono b.size) : Below w.heap.size w v))
  have B0 := Lib.hid (fun o u (b : Below w.heap.size w u) => b.alloc b.size o)
  have B1 := Lib.hid (Below.refl w.heap.size w)
  have H0 := Lib.hid (fun u => hput_all a0 u)
  by_cases hr : right a0 = false
  · rw [hr] at H0
    obtain ⟨X, hX⟩ : ∃ X, X = putBytes a0 := ⟨_, rfl⟩
    rw [← hX] at H0
    obtain ⟨f, t, d, g, l⟩ := a0
    unfold Setup.val at H0 ⊢
    simp only at H0 ⊢
    clear hX hr
    go_enter Tryz.func10, Tryz.ntmps10
    go_wp2_with (fail)
    refine (H0.out _).mono ?_
    rintro e w1 ⟨rfl, b1⟩
    have HB1 := Lib.hid (BT.out _ _ (B0.out _ _ B1.out) b1)
    clear b1
    go_wp2_with (fail)
    refine (HA.out _).mono ?_
    rintro e w3 ⟨rfl, b3⟩
    go_wp2
    go_ret
    exact ⟨rfl, BT.out _ _ HB1.out b3⟩
  have hr' : right a0 = true := by simpa using hr
  rw [hr', putBytes_right hr'] at H0
  obtain ⟨S, hS⟩ : ∃ X : ByteArray, X = ⟨(helloBytes a0).toArray⟩ := ⟨_, rfl⟩
  have zS : S.size = 8 := by subst hS; rfl
  have dS : S.data.toList = helloBytes a0 := by rw [hS]
  rw [← hS] at H0
  by_cases h2 : a2 = 0
  · subst h2
    obtain ⟨f, t, d, g, l⟩ := a0
    unfold Setup.val at H0 ⊢
    simp only at H0 ⊢
    clear hr hr' hS dS
    go_enter Tryz.func10, Tryz.ntmps10
    go_wp2_with (fail)
    refine (H0.out _).mono ?_
    rintro e w1 ⟨rfl, b1⟩
    have HB1 := Lib.hid (BT.out _ _ (B0.out _ _ B1.out) b1)
    clear b1
    go_wp2_with (fail)
    refine (HA.out _).mono ?_
    rintro e w3 ⟨rfl, b3⟩
    go_wp2
    go_ret
    exact ⟨rfl, BT.out _ _ HB1.out b3⟩
  have hwf : 0 ≤ a2 ∧ a2 ≤ 255 := by
    have h' : (decide ((0 : Int) ≤ a2) && decide (a2 ≤ (255 : Int))) = true := w2
    simpa using h'
  obtain ⟨x, rfl⟩ : ∃ x : UInt8, a2 = (x.toNat : Int) := ⟨UInt8.ofNat a2.toNat, by rw [UInt8.toNat_ofNat']; omega⟩
  have hx0 : x ≠ 0 := fun h => h2 (by rw [h]; rfl)
  have xb : ((x.toNat : Int) == 0) = false := by rw [beq_eq_false_iff_ne]; exact h2
  have HG := Lib.hid (fun (n : Nat) (hn : n < 8) u => by
    have h := get_any (S.extract 0 n) u
    rw [extract_take, dS, get_short a0 n hn] at h
    exact h)
  unfold Setup.zero Setup.val at HG
  simp only at HG
  obtain ⟨f, t, d, g, l⟩ := a0
  have hm : a1.tmod 2 = -1 ∨ a1.tmod 2 = 0 ∨ a1.tmod 2 = 1 := by
    have := Int.tmod_lt_of_pos a1 (show (0 : Int) < 2 by decide)
    have h2 := Int.lt_tmod_of_pos a1 (show (0 : Int) < 2 by decide)
    omega
  have Dl := Lib.hid dS
  unfold Setup.val at H0 ⊢
  simp only at H0 ⊢
  clear hr hr' hS dS w2 hwf h2
  go_enter Tryz.func10, Tryz.ntmps10
  go_wp2_with (fail)
  refine (H0.out _).mono ?_
  rintro e w1 ⟨rfl, b1⟩
  have C1 := Lib.hid (BT.out _ _ (B0.out _ _ B1.out) b1)
  clear b1
  go_wp2_with (fail)
  refine (HA.out _).mono ?_
  rintro e w3 ⟨rfl, b3⟩
  have C2 := Lib.hid (BT.out _ _ C1.out b3)
  clear b3
  go_wp2_with (fail)
  go_loopw [9] (fun i wr => ∃ j : Nat, i = .int .i64 j ∧ j ≤ 8 ∧ Below w.heap.size w wr) (fun i _ => 8 - (intOf i).toNat)
  case atStart => exact ⟨0, rfl, Nat.zero_le _, C2.out⟩
  case round =>
    obtain ⟨j, rfl, hj, hb⟩ := hrel
    have HBr := Lib.hid hb
    clear hb C1 C2
    by_cases hlt : j < 8
    · have q1 : (j : Int) < 8 := by omega
      have q2 : (j : Int) ≤ (S.size : Int) := by omega
      have HGj := Lib.hid (HG.out j hlt)
      go_wp2_with (fail)
      refine (HGj.out _).mono ?_
      rintro e w4 ⟨rfl, b4⟩
      have C4 := Lib.hid (B0.out (.cells #[.int .i64 0, .int .i64 0, .int .i64 0, .int .i64 0, .int .i64 0] 23) _ (BT.out _ _ HBr.out b4))
      clear b4
      go_wp2_with (fail)
      go_roundw
      case rel => exact ⟨j + 1, by go_num, by omega, C4.out⟩
      case measure => simp [intOf]; omega
    · have q1 : (8 : Int) ≤ (j : Int) := by omega
      obtain rfl : j = 8 := by omega
      obtain ⟨W2, cap, hcv, hcap, hcell, hfree, hB2, hsz⟩ := to_bytes wr S
      obtain ⟨y0, hy0, hn0⟩ := xor84 x hx0
      obtain ⟨y1, hy1, hn1⟩ := xor82 x hx0
      rw [zS] at hcv hcap hcell hfree
      rw [Dl.out] at hcell
      have hc0 : W2.cell? ⟨wr.heap.size, 0, none⟩ = some (.int .u8 84) := hcell 0 (by decide)
      have hc1 : W2.cell? ⟨wr.heap.size, 1, none⟩ = some (.int .u8 82) := hcell 1 (by decide)
      have hf0 := hfree 0 (by decide)
      have hf1 := hfree 1 (by decide)
      have hC := Lib.hid (fun (n : Nat) (hn : n < 8) (y : UInt8) (V : World) (b : Below (W2.setCell ⟨wr.heap.size, n, none⟩ (.int .u8 (y.toNat : Int))).heap.size (W2.setCell ⟨wr.heap.size, n, none⟩ (.int .u8 (y.toNat : Int))) V) => (show ∀ j, j < 8 → V.cell? ⟨wr.heap.size, j, none⟩ = some (.int .u8 ((((helloBytes ⟨f, t, d, g, l⟩).set n y).getD j 0).toNat : Int)) by
        intro j hj
        rw [b.cell (by rw [Own.setCell_size]; show wr.heap.size < W2.heap.size; omega)]
        by_cases hjn : j = n
        · subst hjn
          rw [World.cell?_setCell_same (h := hcell j hj), List.getD_eq_getElem?_getD, List.getElem?_set_self (show j < 8 from hj)]; rfl
        · rw [World.cell?_setCell_other (h := (by intro h; injection h with _ h _; exact hjn h.symm : (⟨wr.heap.size, n, none⟩ : Addr) ≠ ⟨wr.heap.size, j, none⟩)), hcell j hj, List.getD_eq_getElem?_getD, List.getD_eq_getElem?_getD, List.getElem?_set_ne (fun h => hjn h.symm)]))
      have hB3 := Lib.hid (fun (n : Nat) (y : UInt8) => (HBr.out.trans ((hB2.setCell (p := ⟨wr.heap.size, n, none⟩) (Nat.le_refl _) (.int .u8 (y.toNat : Int))).mono HBr.out.size) : Below w.heap.size w (W2.setCell ⟨wr.heap.size, n, none⟩ (.int .u8 (y.toNat : Int)))))
      have hcap2 : (2 : Int) ≤ (cap : Int) := by omega
      have hcap1 : (1 : Int) ≤ (cap : Int) := by omega
      clear hcell hfree hB2 hsz hcap Dl
      rcases hm with hm | hm | hm
      · have C3 := Lib.hid (hB3.out 1 y1)
        have hs1 := of_bytes _ wr.heap.size cap ((helloBytes ⟨f, t, d, g, l⟩).set 1 y1) 8 rfl (hC.out 1 (by decide) y1 _ (Below.refl _ _))
        have HG1 := Lib.hid (fun u => get_any ⟨((helloBytes ⟨f, t, d, g, l⟩).set 1 y1).toArray⟩ u)
        have HG2 := Lib.hid (fun u => get_any ⟨(((helloBytes ⟨f, t, d, g, l⟩).set 1 y1).take 2).toArray⟩ u)
        simp only [bad1_whole _ _ hn1, bad1_short _ _ hn1] at HG1 HG2
        unfold Setup.zero Setup.val at HG1 HG2
        simp only at HG1 HG2
        have H2 := Lib.hid (fun (V : World) (b : Below (W2.setCell ⟨wr.heap.size, 1, none⟩ (.int .u8 (y1.toNat : Int))).heap.size (W2.setCell ⟨wr.heap.size, 1, none⟩ (.int .u8 (y1.toNat : Int))) V) => of_bytes V wr.heap.size cap (((helloBytes ⟨f, t, d, g, l⟩).set 1 y1).take 2) 2 rfl (fun j hj => by
          rw [hC.out 1 (by decide) y1 V b j (by omega), List.getD_eq_getElem?_getD, List.getD_eq_getElem?_getD, List.getElem?_take, if_pos hj]))
        generalize (⟨((helloBytes ⟨f, t, d, g, l⟩).set 1 y1).toArray⟩ : ByteArray) = P1 at hs1 HG1
        generalize (⟨(((helloBytes ⟨f, t, d, g, l⟩).set 1 y1).take 2).toArray⟩ : ByteArray) = P2 at H2 HG2
        clear hC hB3
        go_wp2_with (fail)
        refine (HG1.out _).mono ?_
        rintro e w5 ⟨rfl, b5⟩
        have C5 := Lib.hid (B0.out (.cells #[.int .i64 0, .int .i64 0, .int .i64 0, .int .i64 0, .int .i64 0] 23) _ (BT.out _ _ C3.out b5))
        have hs2 := fun o => H2.out (w5.alloc o) (b5.alloc b5.size o)
        clear b5
        go_wp2_with (fail)
        refine (HG2.out _).mono ?_
        rintro e w6 ⟨rfl, b6⟩
        have C6 := Lib.hid (BT.out _ _ C5.out b6)
        clear b6
        go_wp2
        go_ret
        exact ⟨rfl, B0.out _ _ C6.out⟩
      · have C3 := Lib.hid (hB3.out 0 y0)
        have hs1 := of_bytes _ wr.heap.size cap ((helloBytes ⟨f, t, d, g, l⟩).set 0 y0) 8 rfl (hC.out 0 (by decide) y0 _ (Below.refl _ _))
        have HG1 := Lib.hid (fun u => get_any ⟨((helloBytes ⟨f, t, d, g, l⟩).set 0 y0).toArray⟩ u)
        have HG2 := Lib.hid (fun u => get_any ⟨(((helloBytes ⟨f, t, d, g, l⟩).set 0 y0).take 1).toArray⟩ u)
        simp only [bad0_whole _ _ hn0, bad0_short _ _ hn0] at HG1 HG2
        unfold Setup.zero Setup.val at HG1 HG2
        simp only at HG1 HG2
        have H2 := Lib.hid (fun (V : World) (b : Below (W2.setCell ⟨wr.heap.size, 0, none⟩ (.int .u8 (y0.toNat : Int))).heap.size (W2.setCell ⟨wr.heap.size, 0, none⟩ (.int .u8 (y0.toNat : Int))) V) => of_bytes V wr.heap.size cap (((helloBytes ⟨f, t, d, g, l⟩).set 0 y0).take 1) 1 rfl (fun j hj => by
          rw [hC.out 0 (by decide) y0 V b j (by omega), List.getD_eq_getElem?_getD, List.getD_eq_getElem?_getD, List.getElem?_take, if_pos hj]))
        generalize (⟨((helloBytes ⟨f, t, d, g, l⟩).set 0 y0).toArray⟩ : ByteArray) = P1 at hs1 HG1
        generalize (⟨(((helloBytes ⟨f, t, d, g, l⟩).set 0 y0).take 1).toArray⟩ : ByteArray) = P2 at H2 HG2
        clear hC hB3
        go_wp2_with (fail)
        refine (HG1.out _).mono ?_
        rintro e w5 ⟨rfl, b5⟩
        have C5 := Lib.hid (B0.out (.cells #[.int .i64 0, .int .i64 0, .int .i64 0, .int .i64 0, .int .i64 0] 23) _ (BT.out _ _ C3.out b5))
        have hs2 := fun o => H2.out (w5.alloc o) (b5.alloc b5.size o)
        clear b5
        go_wp2_with (fail)
        refine (HG2.out _).mono ?_
        rintro e w6 ⟨rfl, b6⟩
        have C6 := Lib.hid (BT.out _ _ C5.out b6)
        clear b6
        go_wp2
        go_ret
        exact ⟨rfl, B0.out _ _ C6.out⟩
      · have C3 := Lib.hid (hB3.out 1 y1)
        have hs1 := of_bytes _ wr.heap.size cap ((helloBytes ⟨f, t, d, g, l⟩).set 1 y1) 8 rfl (hC.out 1 (by decide) y1 _ (Below.refl _ _))
        have HG1 := Lib.hid (fun u => get_any ⟨((helloBytes ⟨f, t, d, g, l⟩).set 1 y1).toArray⟩ u)
        have HG2 := Lib.hid (fun u => get_any ⟨(((helloBytes ⟨f, t, d, g, l⟩).set 1 y1).take 2).toArray⟩ u)
        simp only [bad1_whole _ _ hn1, bad1_short _ _ hn1] at HG1 HG2
        unfold Setup.zero Setup.val at HG1 HG2
        simp only at HG1 HG2
        have H2 := Lib.hid (fun (V : World) (b : Below (W2.setCell ⟨wr.heap.size, 1, none⟩ (.int .u8 (y1.toNat : Int))).heap.size (W2.setCell ⟨wr.heap.size, 1, none⟩ (.int .u8 (y1.toNat : Int))) V) => of_bytes V wr.heap.size cap (((helloBytes ⟨f, t, d, g, l⟩).set 1 y1).take 2) 2 rfl (fun j hj => by
          rw [hC.out 1 (by decide) y1 V b j (by omega), List.getD_eq_getElem?_getD, List.getD_eq_getElem?_getD, List.getElem?_take, if_pos hj]))
        generalize (⟨((helloBytes ⟨f, t, d, g, l⟩).set 1 y1).toArray⟩ : ByteArray) = P1 at hs1 HG1
        generalize (⟨(((helloBytes ⟨f, t, d, g, l⟩).set 1 y1).take 2).toArray⟩ : ByteArray) = P2 at H2 HG2
        clear hC hB3
        go_wp2_with (fail)
        refine (HG1.out _).mono ?_
        rintro e w5 ⟨rfl, b5⟩
        have C5 := Lib.hid (B0.out (.cells #[.int .i64 0, .int .i64 0, .int .i64 0, .int .i64 0, .int .i64 0] 23) _ (BT.out _ _ C3.out b5))
        have hs2 := fun o => H2.out (w5.alloc o) (b5.alloc b5.size o)
        clear b5
        go_wp2_with (fail)
        refine (HG2.out _).mono ?_
        rintro e w6 ⟨rfl, b6⟩
        have C6 := Lib.hid (BT.out _ _ C5.out b6)
        clear b6
        go_wp2
        go_ret
        exact ⟨rfl, B0.out _ _ C6.out⟩
end Go.Proofs.YthnbpnfaghjamaaGreat.helloBegins
