/- Texts of the walk, joined. -/
import Derived.Test.YthnbpnfaghjamaaGreatZXtra
import Derived.Test.YthnbpnfaghjamaaGreatK31
/- pipe.Batch at longer bytes. (Out of XPpT by program: the bounds alone differ.) -/
namespace Go.Proofs.YthnbpnfaghjamaaGreat
open Go.RowKit
open Json (Part Wr)
namespace Pip
section
variable {k M B : Nat} {ok : Part → Prop} {text : Part → List UInt8} {Tb : World → Prop}
set_option maxRecDepth 100000 in
set_option maxHeartbeats 8000000 in
theorem batch_long (H : Wrote k M ok text B Tb) (hM : M * 6000 ≤ 100000000) {fk : Nat} (s : Setup) (hr : right s = true) (hk : (Writer.new s.to).kind = k) (b : ByteArray) (RS : 0 < b.size → Reads fk) (hfk : (Pp.new s).input.kind = fk) (hb : b.size ≤ 2450) (told : (Pp.new s).Told ok text b.data.toList) (w : World) (hBw : B ≤ w.heap.size) (hT : Tb w) :
  Calls Tryz.prog 21 #[s.val, .string b] w fun e w' => e = .returned (.tuple #[.string ⟨(batch text s b.data.toList).1.toArray⟩, .int .i64 ((batch text s b.data.toList).2 : Int)]) ∧ Below w.heap.size w w' := by
 have HN := Lib.hid (fun u => new_any s hr u)
 have hfit := Pp.Fits.new s hr
 have hmay := Pp.new_may s
 have hkind : (Pp.new s).output.kind = k := hk
 have hbat : batch text s b.data.toList = if ((Pp.new s).run text b.data.toList).2.2 ≠ 0 then ((Pp.new s).run text b.data.toList).2 else (((Pp.new s).run text b.data.toList).2.1 ++ (((Pp.new s).run text b.data.toList).1.fin text).2.1, (((Pp.new s).run text b.data.toList).1.fin text).2.2) := by
  unfold batch
  rw [if_neg (by simp [hr])]
 have hl0 : (Pp.new s).heldLen = 0 := by
  obtain ⟨m, h1, h2⟩ := hfit.output
  omega
 generalize Pp.new s = p at HN hfit hmay hkind hbat told hl0 hfk
 obtain ⟨bl, hbl⟩ : ∃ bl, bl = b.data.toList := ⟨_, rfl⟩
 rw [← hbl] at hbat told ⊢
 have hlen : bl.length = b.size := by rw [hbl]; rfl
 have hget : ∀ (j : Nat) (h : j < b.size), b[j] = bl.getD j 0 := fun j h => by
  rw [hbl, List.getD_eq_getElem?_getD, List.getElem?_eq_getElem (by rw [← hbl, hlen]; exact h)]; rfl
 generalize batch text s bl = R at hbat ⊢
 have HBat := Lib.hid hbat
 have HFits := Lib.hid (fun j => hfit.all text (bl.take j))
 have HKind := Lib.hid (fun j => (Pp.all_kind text (bl.take j) p).trans hkind)
 have HInp := Lib.hid (fun j => (Pp.all_input text (bl.take j) p).trans hfk)
 have HRS := Lib.hid RS
 have HMay := Lib.hid (fun j hj hz => Pp.all_may text p hmay bl j hj hz)
 have HStop := Lib.hid (fun j hj hz h => Pp.run_stop text p bl j hj hz h)
 have HEnd := Lib.hid (fun hz => Pp.run_end text p bl hz)
 have HTold := Lib.hid told
 have HH := Lib.hid H
 have HT := Lib.hid hT
 have HGet := Lib.hid hget
 have HLens := Lib.hid (fun j => H.wok.all_len (bl.take j) hfit hkind (fun i hi => by
  rw [List.length_take] at hi
  have e1 : (bl.take j).take i = bl.take i := by rw [List.take_take]; congr 1; omega
  have e2 : (bl.take j).getD i 0 = bl.getD i 0 := by rw [List.getD_eq_getElem?_getD, List.getD_eq_getElem?_getD, List.getElem?_take, if_pos (by omega)]
  rw [e1, e2]
  exact told.step i (by omega)))
 have HHl := Lib.hid hl0
 have HLen := Lib.hid hlen
 obtain ⟨N, hN⟩ : ∃ N, N = b.size := ⟨_, rfl⟩
 have HNb := Lib.hid hN
 have hNs : N ≤ 2450 := by omega
 have hbI : (b.size : Int) = (N : Int) := by omega
 obtain ⟨f, t, d, g, l⟩ := s
 unfold Setup.val at HN ⊢
 simp only at HN ⊢
 have HNone := Lib.hid (fun o => Own.Turn.litter (Own.Turn.refl (Own.Has.nil w)) o)
 clear hr hk hfit hmay hkind hbat hl0 hlen hget hb told H hT hN hbl hfk RS
 go_enter Tryz.func21, Tryz.ntmps21
 go_wp2_with (fail)
 refine (HN.out _).mono ?_
 rintro e w1 ⟨pb, h0, rfl, i0, t0⟩
 have I0 := Lib.hid i0
 have T0 := Lib.hid (((HNone.out _).trans t0).allocRow w1.heap.size rfl 95 [.pointer none, .slice none 0 0])
 clear i0 t0
 go_wp2_with (fail)
 go_loopw [19] (fun i wr => ∃ (j : Nat) (pp sv : Value) (hb hj : Own.Heap), i = .int .i64 j ∧ j ≤ N ∧ Hid (∀ k, k < j → ((p.all text (bl.take k)).1.step text (bl.getD k 0)).2.2 = 0) ∧ (pp = .pointer none ∨ pp = .pointer (some ⟨w1.heap.size, 0, none⟩)) ∧
   Own.Buf 5 (p.all text (bl.take j)).2 sv hb ∧ (p.all text (bl.take j)).1.Is pb hj ∧ Own.Turn [] (Own.row w1.heap.size 95 [pp, sv] :: (hb ++ hj)) w wr) (fun i _ => N - (intOf i).toNat)
 case atStart => exact ⟨0, _, _, [], h0, rfl, Nat.zero_le _, Lib.hid fun k hk => absurd hk (Nat.not_lt_zero _), .inl rfl, .none rfl, I0.out, T0.out⟩
 case round =>
  obtain ⟨j, pp, sv, hb, hj, rfl, hjN, hz, hpp, hbuf, hij, ht⟩ := hrel
  have HBuf := Lib.hid hbuf
  have HIj := Lib.hid hij
  have T := Lib.hid ht
  have HPP := Lib.hid hpp
  clear hbuf hij ht hpp T0 I0 HN
  by_cases hlt : j < N
  ·have hjs : j < b.size := by have := HNb.out; omega
   have hjI : (j : Int) < (N : Int) := by omega
   have hjl : j < bl.length := by rw [HLen.out]; exact hjs
   have hgx := HGet.out j hjs
   have hBl := T.out.least (B := B) (fun x hx => by cases hx) hBw
   have hTb := HH.out.wok.of _ _ HT.out (T.out.below (B := B) (fun x hx => by cases hx) hBw)
   have hst := step_any HH.out (HRS.out (by omega)) HIj.out (T.out.has.right (a := [_])).right (HFits.out j) (by rw [List.length_take]; omega) (HKind.out j) (HInp.out j) b[j] (fun h => by rw [hgx]; exact HTold.out.step j hjl h) (fun x hx => hBl x (by
    simp only [Own.blocks, List.map_cons, List.map_append, List.mem_cons, List.mem_append] at hx ⊢
    exact .inr (.inr hx))) (Nat.le_trans hBw T.out.keeps.size) hTb
   have hsn : p.all text (bl.take (j + 1)) = (((p.all text (bl.take j)).1.step text b[j]).1, (p.all text (bl.take j)).2 ++ ((p.all text (bl.take j)).1.step text b[j]).2.1) := by
    rw [List.take_succ_eq_append_getElem hjl, Pp.all_snoc, hgx]
    have e : bl.getD j 0 = bl[j] := by rw [List.getD_eq_getElem?_getD, List.getElem?_eq_getElem hjl]; rfl
    rw [e]
   have hstop := HStop.out j hjl hz.out
   have hln := HLens.out (j + 1)
   have hz2 : ((p.all text (bl.take j)).1.step text b[j]).2.2 = 0 → ∀ k, k < j + 1 → ((p.all text (bl.take k)).1.step text (bl.getD k 0)).2.2 = 0 := fun h k hk => by
    by_cases hkj : k < j
    ·exact hz.out k hkj
    ·obtain rfl : k = j := by omega
     rw [← hgx]; exact h
   rw [← hgx] at hstop
   have HSt := Lib.hid hst
   have Hsn := Lib.hid hsn
   have Hstop := Lib.hid hstop
   have Hz2 := Lib.hid hz2
   have Hln := Lib.hid (show (p.all text (bl.take (j + 1))).2.length ≤ M * (18 * 2450) from Nat.le_trans (Nat.le_trans (Nat.le_add_right _ _) hln) (Nat.mul_le_mul_left _ (by rw [HHl.out, List.length_take]; omega)))
   clear hst hsn hstop hz2 hln hBl hTb hgx
   generalize (p.all text (bl.take j)).1.step text b[j] = O at HSt Hsn Hstop Hz2
   obtain ⟨P2, s2, e2⟩ := O
   simp only at HSt Hsn Hstop Hz2
   have Hln2 := Lib.hid (show ((p.all text (bl.take j)).2 ++ s2).length ≤ M * (18 * 2450) by have := Hln.out; rw [Hsn.out] at this; exact this)
   go_wp2_with (fail)
   refine HSt.out.mono ?_
   rintro e w2 ⟨h2, rfl, i2, t2⟩
   have I2 := Lib.hid i2
   have T2 := Lib.hid (show Own.Turn [] (Own.row w1.heap.size 95 [pp, sv] :: (hb ++ h2)) w w2 from T.out.trans (t2.behind (r := Own.row w1.heap.size 95 [pp, sv] :: hb) T.out.has))
   have HWs := Lib.hid (Bld.ws_own (b := w1.heap.size) (p := pp) ⟨s2.toArray⟩ HBuf.out (T2.out.has.left (a := Own.row w1.heap.size 95 [pp, sv] :: hb)) HPP.out (by
    have h1 := Hln2.out
    have h3 := hM
    rw [List.length_append] at h1
    have h4 : (⟨s2.toArray⟩ : ByteArray).size = s2.length := bytes_size s2
    omega))
   clear i2 t2
   go_wp2_with (fail)
   refine HWs.out.mono ?_
   rintro e w3 ⟨rfl, sv3, hb3, B3, t3⟩
   have HB3 := Lib.hid B3
   have T3 := Lib.hid (show Own.Turn [] (Own.row w1.heap.size 95 [.pointer (some ⟨w1.heap.size, 0, none⟩), sv3] :: (hb3 ++ h2)) w w3 from T2.out.trans (t3.frame (r := h2) T2.out.has))
   clear B3 t3
   by_cases h0 : e2 = 0
   ·subst h0
    go_wp2_with (fail)
    go_roundw
    case rel => exact ⟨j + 1, _, sv3, hb3, h2, by go_num, by omega, Lib.hid (Hz2.out (by first | rfl | trivial)), .inr rfl, by rw [Hsn.out]; exact HB3.out, by rw [Hsn.out]; exact I2.out, T3.out⟩
    case measure => simp [intOf]; omega
   ·have h0' : ((e2 : Int) != 0) = true := by rw [bne_iff_ne]; omega
    have HS := Lib.hid (Hstop.out h0)
    have HR : R = ((p.all text (bl.take (j + 1))).2, e2) := by
     rw [HBat.out]
     rw [if_pos (by rw [HS.out]; exact h0), HS.out]
    rw [Hsn.out] at HR
    have HRr := Lib.hid HR
    have HStr := Lib.hid (Bld.string_own (b := w1.heap.size) HB3.out (T3.out.has.left (a := Own.row w1.heap.size 95 [.pointer (some ⟨w1.heap.size, 0, none⟩), sv3] :: hb3)))
    clear h0 HR
    go_wp2_with (fail)
    refine HStr.out.mono ?_
    rintro e w4 ⟨rfl, hb4, B4, t4⟩
    have T4 := Lib.hid (T3.out.trans (t4.frame (r := h2) T3.out.has))
    clear B4 t4
    go_wp2
    go_ret2
    rw [HRr.out]
    exact ⟨rfl, T4.out.below (fun x hx => by cases hx) (Nat.le_refl _)⟩
  ·have hge : (N : Int) ≤ (j : Int) := by omega
   obtain rfl : j = N := by omega
   have hta : bl.take j = bl := by rw [HNb.out, ← HLen.out]; exact List.take_length
   have hE := HEnd.out (by rw [HLen.out, ← HNb.out]; exact hz.out)
   have hFj := HFits.out j
   have hKj := HKind.out j
   have hLj := HLens.out j
   rw [hta] at hFj hKj hLj HBuf HIj
   rw [HLen.out, ← HNb.out] at hFj hLj
   have hBl := T.out.least (B := B) (fun x hx => by cases hx) hBw
   have hTb := HH.out.wok.of _ _ HT.out (T.out.below (B := B) (fun x hx => by cases hx) hBw)
   have hst := end_any HH.out HIj.out (T.out.has.right (a := [_])).right hFj (by omega) hKj HTold.out.fin (fun x hx => hBl x (by
    simp only [Own.blocks, List.map_cons, List.map_append, List.mem_cons, List.mem_append] at hx ⊢
    exact .inr (.inr hx))) (Nat.le_trans hBw T.out.keeps.size) hTb
   have hfl := HH.out.wok.fin_len hFj hKj HTold.out.fin
   have HR : R = ((p.all text bl).2 ++ ((p.all text bl).1.fin text).2.1, ((p.all text bl).1.fin text).2.2) := by
    rw [HBat.out, hE]
    rfl
   have HRr := Lib.hid HR
   have HSt := Lib.hid hst
   have Hln2 := Lib.hid (show (p.all text bl).2.length + ((p.all text bl).1.fin text).2.1.length ≤ M * (18 * 2600) by
    have e1 : M * (p.heldLen + 18 * j) + M * 18 ≤ M * (18 * 2600) := by
     rw [← Nat.mul_add]; exact Nat.mul_le_mul_left _ (by rw [HHl.out]; omega)
    rw [Nat.mul_add] at hfl
    omega)
   clear hst HR hE hFj hKj hLj hfl hBl hTb hta
   generalize (p.all text bl).1.fin text = O at HSt HRr Hln2
   obtain ⟨P2, s2, e2⟩ := O
   simp only at HSt HRr Hln2
   go_wp2_with (fail)
   refine HSt.out.mono ?_
   rintro e w2 ⟨h2, rfl, i2, t2⟩
   have T2 := Lib.hid (show Own.Turn [] (Own.row w1.heap.size 95 [pp, sv] :: (hb ++ h2)) w w2 from T.out.trans (t2.behind (r := Own.row w1.heap.size 95 [pp, sv] :: hb) T.out.has))
   have HWs := Lib.hid (Bld.ws_own (b := w1.heap.size) (p := pp) ⟨s2.toArray⟩ HBuf.out (T2.out.has.left (a := Own.row w1.heap.size 95 [pp, sv] :: hb)) HPP.out (by
    have h1 := Hln2.out
    have h3 := hM
    have h4 : (⟨s2.toArray⟩ : ByteArray).size = s2.length := bytes_size s2
    omega))
   clear i2 t2
   go_wp2_with (fail)
   refine HWs.out.mono ?_
   rintro e w3 ⟨rfl, sv3, hb3, B3, t3⟩
   have T3 := Lib.hid (show Own.Turn [] (Own.row w1.heap.size 95 [.pointer (some ⟨w1.heap.size, 0, none⟩), sv3] :: (hb3 ++ h2)) w w3 from T2.out.trans (t3.frame (r := h2) T2.out.has))
   have HStr := Lib.hid (Bld.string_own (b := w1.heap.size) B3 (T3.out.has.left (a := Own.row w1.heap.size 95 [.pointer (some ⟨w1.heap.size, 0, none⟩), sv3] :: hb3)))
   clear B3 t3
   go_wp2_with (fail)
   refine HStr.out.mono ?_
   rintro e w4 ⟨rfl, hb4, B4, t4⟩
   have T4 := Lib.hid (T3.out.trans (t4.frame (r := h2) T3.out.has))
   clear B4 t4
   go_wp2
   go_ret2
   rw [HRr.out]
   exact ⟨rfl, T4.out.below (fun x hx => by cases hx) (Nat.le_refl _)⟩
end
end Pip
end Go.Proofs.YthnbpnfaghjamaaGreat
