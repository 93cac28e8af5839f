/- PipeHolds: the walk: what is held is never more than a text, what is held back, and the containers that are open. -/
import Derived.Test.YthnbpnfaghjamaaGreatM44
namespace Go.Proofs.YthnbpnfaghjamaaGreat.pipeHolds
open Go.RowKit Pip
open Esc (Tabs TabsAt)
open Json (Part)
set_option maxRecDepth 100000 in
set_option maxHeartbeats 8000000 in
theorem walk (T : Tabs) (a0 : Setup) (a1 : ByteArray) (_z1 : a1.size ≤ 140737488355327) (w : World) (hT : TabsAt T w) :
  Calls Tryz.prog 16 #[a0.val, .string a1] w fun e w' => e = .returned (.bool true) ∧ Below w.heap.size w w' := by
 have HA := Lib.hid (fun u => alive18_any u)
 have BT := Lib.hid (fun (u v : World) (b : Below w.heap.size w u) (b2 : Below u.heap.size u v) => (b.trans (b2.mono b.size) : Below w.heap.size w v))
 have B0 := Lib.hid (fun o u (b : Below w.heap.size w u) => b.alloc b.size o)
 have B1 := Lib.hid (Below.refl w.heap.size w)
 have HR := Lib.hid (fun u => right_any a0 u)
 clear _z1
 by_cases hlong : 300 < a1.size
 ·have k1I : (300 : Int) < (a1.size : Int) := by omega
  obtain ⟨f, t, d, g, l⟩ := a0
  unfold Setup.val at HR ⊢
  simp only at HR ⊢
  clear HR hT hlong
  go_enter Tryz.func16, Tryz.ntmps16
  go_wp2_with (fail)
  refine (HA.out _).mono ?_
  rintro e w1 ⟨rfl, b1⟩
  go_wp2
  go_ret
  exact ⟨rfl, BT.out _ _ (B0.out _ _ B1.out) b1⟩
 have k1I : (a1.size : Int) ≤ 300 := by omega
 have TA := Lib.hid ((Own.Turn.refl (Own.Has.nil w)).allocRow w.heap.size rfl 23 [.int .i64 a0.from_, .int .i64 a0.to, .int .i64 a0.depth, .int .i64 a0.stage, .int .i64 a0.limit])
 by_cases hr : right a0 = false
 ·rw [hr] at HR
  have HNo := Lib.hid (fun u => new_none a0 hr u)
  obtain ⟨f, t, d, g, l⟩ := a0
  unfold Setup.val at HR HNo ⊢
  simp only at HR HNo TA ⊢
  clear hr hT hlong
  go_enter Tryz.func16, Tryz.ntmps16
  go_wp2_with (fail)
  refine (HA.out _).mono ?_
  rintro e w1 ⟨rfl, b1⟩
  have T1 := Lib.hid (TA.out.trans (Own.Turn.of_below TA.out.has b1))
  clear b1
  have c0 := T1.out.has.cell w.heap.size _ _ (List.mem_cons_self ..) 0 _ rfl
  have c1 := T1.out.has.cell w.heap.size _ _ (List.mem_cons_self ..) 1 _ rfl
  have c2 := T1.out.has.cell w.heap.size _ _ (List.mem_cons_self ..) 2 _ rfl
  have c3 := T1.out.has.cell w.heap.size _ _ (List.mem_cons_self ..) 3 _ rfl
  have c4 := T1.out.has.cell w.heap.size _ _ (List.mem_cons_self ..) 4 _ rfl
  go_wp2_with (fail)
  refine (HNo.out _).mono ?_
  rintro e w2 ⟨rfl, b2⟩
  have T2 := Lib.hid (T1.out.trans (Own.Turn.of_below T1.out.has b2))
  clear b2 c0 c1 c2 c3 c4
  have c0 := T2.out.has.cell w.heap.size _ _ (List.mem_cons_self ..) 0 _ rfl
  have c1 := T2.out.has.cell w.heap.size _ _ (List.mem_cons_self ..) 1 _ rfl
  have c2 := T2.out.has.cell w.heap.size _ _ (List.mem_cons_self ..) 2 _ rfl
  have c3 := T2.out.has.cell w.heap.size _ _ (List.mem_cons_self ..) 3 _ rfl
  have c4 := T2.out.has.cell w.heap.size _ _ (List.mem_cons_self ..) 4 _ rfl
  go_wp2_with (fail)
  refine (HR.out _).mono ?_
  rintro e w3 ⟨rfl, b3⟩
  have T3 := Lib.hid (T2.out.trans (Own.Turn.of_below T2.out.has b3))
  go_wp2
  go_ret
  exact ⟨rfl, T3.out.below (fun x hx => by cases hx) (Nat.le_refl _)⟩
 have hr' : right a0 = true := by simpa using hr
 obtain ⟨N, hN⟩ : ∃ N, N = a1.size := ⟨_, rfl⟩
 have hN4 : N ≤ 300 := by omega
 obtain ⟨al, hal⟩ : ∃ l, l = a1.data.toList := ⟨_, rfl⟩
 have hlen : al.length = N := by rw [hal, hN]; rfl
 have hget : ∀ (j : Nat) (h : j < a1.size), a1[j] = al.getD j 0 := fun j h => by
  rw [hal, List.getD_eq_getElem?_getD, List.getElem?_eq_getElem (by rw [← hal, hlen, hN]; exact h)]; rfl
 have HN := Lib.hid hN
 have HLen := Lib.hid hlen
 have HGet := Lib.hid hget
 have HNew := Lib.hid (fun u => new_any a0 hr' u)
 have HFit := Lib.hid (fun j => (Pp.Fits.new a0 hr').all (textT T) (al.take j))
 have HV := Lib.hid (fun j => Pp.all_v (textT T) (al.take j) (show (Pp.new a0).input.V from Reader.V.new _ _))
 have HHeld := Lib.hid (fun j => Pp.held_le (textT T) a0 hr' (al.take j))
 have hbd := (right_iff a0).1 hr'
 have HDep := Lib.hid (fun j => ((Pp.Under.all (textT T) (al.take j) (Pp.new_under a0)).2.trans (Pp.new_depth a0) : ((Pp.new a0).all (textT T) (al.take j)).1.input.depth = a0.depth.toNat))
 have HT := Lib.hid hT
 have hbI : (a1.size : Int) = (N : Int) := by omega
 generalize Pp.new a0 = p at HNew HFit HV HHeld HDep
 obtain ⟨f, t, d, g, l⟩ := a0
 unfold Setup.val at HR HNew ⊢
 simp only at HR HNew TA HHeld HDep hbd ⊢
 obtain ⟨dn, rfl⟩ : ∃ n : Nat, d = (n : Int) := ⟨d.toNat, by omega⟩
 obtain ⟨gn, rfl⟩ : ∃ n : Nat, g = (n : Int) := ⟨g.toNat, by omega⟩
 have hdn : dn ≤ 16 := by omega
 have hgn : gn ≤ 2000 := by omega
 have hw1 : IntKind.i64.wrap (200 + (gn : Int)) = 200 + (gn : Int) := by rw [IntKind.wrap_i64]; omega
 have hw2 : IntKind.i64.wrap (200 + (gn : Int) + (dn : Int)) = 200 + (gn : Int) + (dn : Int) := by rw [IntKind.wrap_i64]; omega
 simp only [Int.toNat_natCast] at HHeld HDep
 clear hr hr' hN hlen hget hal hT hlong HR hbd
 go_enter Tryz.func16, Tryz.ntmps16
 go_wp2_with (fail)
 refine (HA.out _).mono ?_
 rintro e w1 ⟨rfl, b1⟩
 have T2 := Lib.hid (TA.out.trans (Own.Turn.of_below TA.out.has b1))
 clear b1
 have c0 := T2.out.has.cell w.heap.size _ _ (List.mem_cons_self ..) 0 _ rfl
 have c1 := T2.out.has.cell w.heap.size _ _ (List.mem_cons_self ..) 1 _ rfl
 have c2 := T2.out.has.cell w.heap.size _ _ (List.mem_cons_self ..) 2 _ rfl
 have c3 := T2.out.has.cell w.heap.size _ _ (List.mem_cons_self ..) 3 _ rfl
 have c4 := T2.out.has.cell w.heap.size _ _ (List.mem_cons_self ..) 4 _ rfl
 go_wp2_with (fail)
 refine (HNew.out _).mono ?_
 rintro e w3 ⟨pb, h0, rfl, i0, t0⟩
 have I0 := Lib.hid i0
 have T3 := Lib.hid (show Own.Turn [] (Own.row w.heap.size 23 [.int .i64 f, .int .i64 t, .int .i64 (dn : Int), .int .i64 (gn : Int), .int .i64 l] :: h0) w w3 from T2.out.trans (t0.behind (r := [Own.row w.heap.size 23 [.int .i64 f, .int .i64 t, .int .i64 (dn : Int), .int .i64 (gn : Int), .int .i64 l]]) T2.out.has))
 clear i0 t0 T2 c0 c1 c2 c3 c4
 go_wp2_with (fail)
 go_loopw [6] (fun s6 wr => ∃ (j : Nat) (hj : Own.Heap), s6 = .int .i64 j ∧ j ≤ N ∧ Hid ((p.all (textT T) (al.take j)).1.Is pb hj) ∧
   Hid (Own.Turn [] (Own.row w.heap.size 23 [.int .i64 f, .int .i64 t, .int .i64 (dn : Int), .int .i64 (gn : Int), .int .i64 l] :: hj) w wr)) (fun i _ => N - (intOf i).toNat)
 case atStart => exact ⟨0, h0, rfl, Nat.zero_le _, I0, T3⟩
 case round =>
  obtain ⟨j, hj, rfl, hjN, HI, TJ⟩ := hrel
  clear T3 I0 HNew
  by_cases hlt : j < N
  ·have hBl := TJ.out.least (B := Esc.tabsEnd) (fun x hx => by cases hx) HT.out.size
   have hTb := HT.out.of (TJ.out.below (B := Esc.tabsEnd) (fun x hx => by cases hx) HT.out.size)
   have hB2 : ∀ x ∈ Own.blocks hj, Esc.tabsEnd ≤ x := fun x hx => hBl x (by
    simp only [Own.blocks, List.map_cons, List.mem_cons] at hx ⊢
    exact .inr hx)
   have hfj := HFit.out j
   have hln : 0 + 19 * (al.take j).length ≤ 6000 := by rw [List.length_take]; omega
   have hjs : j < a1.size := by have := HN.out; omega
   have hjI : (j : Int) < (N : Int) := by omega
   have hjl : j < al.length := by rw [HLen.out]; exact hlt
   have hgx := HGet.out j hjs
   have hst := step_tabs T HI.out (TJ.out.has.right (a := [_])) hfj (by omega) (HV.out j) a1[j] hB2 hTb
   have hsn : (p.all (textT T) (al.take (j + 1))).1 = ((p.all (textT T) (al.take j)).1.step (textT T) a1[j]).1 := by
    rw [List.take_succ_eq_append_getElem hjl, Pp.all_snoc, hgx]
    have e : al.getD j 0 = al[j] := by rw [List.getD_eq_getElem?_getD, List.getElem?_eq_getElem hjl]; rfl
    rw [e]
   have hf1 := HFit.out (j + 1)
   have hd1 := HDep.out (j + 1)
   have hh1 := HHeld.out (j + 1)
   rw [hsn] at hf1 hd1 hh1
   have HSt := Lib.hid hst
   have Hsn := Lib.hid hsn
   have Hf1 := Lib.hid hf1
   clear hst hsn hBl hTb hgx hB2 hfj hln hf1
   generalize (p.all (textT T) (al.take j)).1.step (textT T) a1[j] = Z at HSt Hsn Hf1 hd1 hh1
   obtain ⟨P2, s2, e2⟩ := Z
   simp only at Hsn Hf1 hd1 hh1
   unfold PpDoes at HSt
   simp only at HSt
   obtain ⟨R, hR⟩ : ∃ R : ByteArray, R = ⟨s2.toArray⟩ := ⟨_, rfl⟩
   rw [← hR] at HSt
   obtain ⟨hle, hz⟩ := hh1
   have HHl := Lib.hid (fun (b : Nat) (h : Own.Heap) (u : World) (i : P2.Is b h) (hu : Own.Has u h) => held_any i hu Hf1.out (by rw [hd1]; exact hdn))
   obtain ⟨H, hH⟩ : ∃ H, H = P2.held := ⟨_, rfl⟩
   obtain ⟨M, hM⟩ : ∃ M, M = P2.may := ⟨_, rfl⟩
   have HOv := Lib.hid (fun (b : Nat) (h : Own.Heap) (u : World) (i : P2.Is b h) (hu : Own.Has u h) => over_any i hu)
   rw [← hH] at hle hz HHl
   rw [← hM] at hz HOv
   have i1 : ¬ (H : Int) < 0 := by omega
   have i2 : ¬ 200 + (gn : Int) + (dn : Int) < (H : Int) := by omega
   clear hR hd1 hH hM hle Hf1
   go_wp2_with (fail)
   refine HSt.out.mono ?_
   rintro e w5 ⟨h2, rfl, i2', t2⟩
   have I2 := Lib.hid i2'
   have T5 := Lib.hid (show Own.Turn [] (Own.row w.heap.size 23 [.int .i64 f, .int .i64 t, .int .i64 (dn : Int), .int .i64 (gn : Int), .int .i64 l] :: h2) w w5 from TJ.out.trans (t2.behind (r := [Own.row w.heap.size 23 [.int .i64 f, .int .i64 t, .int .i64 (dn : Int), .int .i64 (gn : Int), .int .i64 l]]) TJ.out.has))
   clear i2' t2
   have c2 := T5.out.has.cell w.heap.size _ _ (List.mem_cons_self ..) 2 _ rfl
   have c3 := T5.out.has.cell w.heap.size _ _ (List.mem_cons_self ..) 3 _ rfl
   have HQ := Lib.hid (fun n => HHl.out pb h2 (w5.drewN n) I2.out ((T5.out.has.right (a := [_])).drewN n))
   have HO := Lib.hid (fun n => (HOv.out pb h2 (w5.drewN n) I2.out ((T5.out.has.right (a := [_])).drewN n)).mono fun e u hu => (⟨hu.1, hu.2.symm⟩ : e = .returned (.bool (decide (M ≠ 0))) ∧ u = w5.drewN n))
   clear HHl HOv
   by_cases hM0 : M = 0
   ·rw [show decide (M ≠ 0) = false by simp [hM0]] at HO
    clear hM0 hz
    go_wp2_with (fail)
    go_quiet (first
     | (go_at_call 34; exact Calls.quiet_of (HQ.out _))
     | (go_at_call 25; exact Calls.quiet_of_same (HO.out _)))
    go_wp2
    go_roundw
    case rel => exact ⟨j + 1, h2, by go_num, by omega, Lib.hid (by rw [Hsn.out]; exact I2.out), Lib.hid (T5.out.drewN _)⟩
    case measure => simp [intOf]; omega
   ·rw [show decide (M ≠ 0) = true by simp [hM0]] at HO
    have hH0 : ((H : Int) != 0) = false := by rw [hz hM0]; rfl
    have hH1 : (H : Int) = 0 := by rw [hz hM0]; rfl
    clear hM0 hz
    go_wp2_with (fail)
    go_quiet (first
     | (go_at_call 34; exact Calls.quiet_of (HQ.out _))
     | (go_at_call 25; exact Calls.quiet_of_same (HO.out _)))
    go_wp2
    go_roundw
    case rel => exact ⟨j + 1, h2, by go_num, by omega, Lib.hid (by rw [Hsn.out]; exact I2.out), Lib.hid (T5.out.drewN _)⟩
    case measure => simp [intOf]; omega
  ·have hge : (N : Int) ≤ (j : Int) := by omega
   go_wp2
   go_ret
   exact ⟨rfl, TJ.out.below (fun x hx => by cases hx) (Nat.le_refl _)⟩
end Go.Proofs.YthnbpnfaghjamaaGreat.pipeHolds
