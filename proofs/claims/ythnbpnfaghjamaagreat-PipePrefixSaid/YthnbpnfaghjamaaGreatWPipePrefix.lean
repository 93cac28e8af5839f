/- PipePrefix: the walk: what is written of a beginning is the beginning of what is written of the whole. -/
import Derived.Test.YthnbpnfaghjamaaGreatM44
namespace Go.Proofs.YthnbpnfaghjamaaGreat.pipePrefix
open Go.RowKit Pip
open Esc (Tabs TabsAt)
theorem begins {S X : ByteArray} (h : S.data.toList <+: X.data.toList) : S.size ≤ X.size ∧ X.extract 0 S.size = S := by
 obtain ⟨r, hr⟩ := h
 have hl : S.data.toList.length = S.size := Array.length_toList
 have hx : X.data.toList.length = X.size := Array.length_toList
 refine ⟨by rw [← hl, ← hx, ← hr, List.length_append]; omega, ?_⟩
 apply ByteArray.ext
 apply Array.toList_inj.1
 rw [ByteArray.data_extract, Array.toList_extract, List.extract_eq_take_drop, List.drop_zero, Nat.sub_zero, ← hr, ← hl, List.take_left]
theorem sum_wraps (a b c : Int) (h1 : 0 ≤ a ∧ a ≤ 140737488355327) (h2 : 0 ≤ b ∧ b ≤ 140737488355327) (h3 : 0 ≤ c ∧ c ≤ 140737488355327) : IntKind.i64.wrap (a + b) = a + b ∧ IntKind.i64.wrap (a + b + c) = a + b + c := by
 rw [IntKind.wrap_i64, IntKind.wrap_i64]; omega
set_option maxRecDepth 100000 in
set_option maxHeartbeats 8000000 in
theorem walk (T : Tabs) (a0 : Setup) (a1 a2 a3 : ByteArray) (z1 : a1.size ≤ 140737488355327) (z2 : a2.size ≤ 140737488355327) (z3 : a3.size ≤ 140737488355327) (w : World) (hT : TabsAt T w) :
  Calls Tryz.prog 3 #[a0.val, .string a1, .string a2, .string a3] w fun e w' => e = .returned (.bool true) ∧ Below w.heap.size w w' := by
 have HA := Lib.hid (fun u => alive18_any u)
 have BT := Lib.hid (fun (u v : World) (b : Below w.heap.size w u) (b2 : Below u.heap.size u v) => (b.trans (b2.mono b.size) : Below w.heap.size w v))
 have B0 := Lib.hid (fun o u (b : Below w.heap.size w u) => b.alloc b.size o)
 have B1 := Lib.hid (Below.refl w.heap.size w)
 have HR := Lib.hid (fun u => right_any a0 u)
 obtain ⟨hw1, hw2⟩ := sum_wraps (a1.size : Int) (a2.size : Int) (a3.size : Int) ⟨by omega, by omega⟩ ⟨by omega, by omega⟩ ⟨by omega, by omega⟩
 clear z1 z2 z3
 by_cases hlong : (400 : Int) < (a1.size : Int) + (a2.size : Int) + (a3.size : Int)
 ·obtain ⟨f, t, d, g, l⟩ := a0
  unfold Setup.val at HR ⊢
  simp only at HR ⊢
  clear HR hT
  go_enter Tryz.func3, Tryz.ntmps3
  go_wp2_with (fail)
  refine (HA.out _).mono ?_
  rintro e w1 ⟨rfl, b1⟩
  go_wp2
  go_ret
  exact ⟨rfl, BT.out _ _ (B0.out _ _ B1.out) b1⟩
 by_cases hr : right a0 = false
 ·rw [hr] at HR
  obtain ⟨f, t, d, g, l⟩ := a0
  unfold Setup.val at HR ⊢
  simp only at HR ⊢
  clear hr hT
  go_enter Tryz.func3, Tryz.ntmps3
  go_wp2_with (fail)
  refine (HR.out _).mono ?_
  rintro e w1 ⟨rfl, b1⟩
  have HB1 := Lib.hid (BT.out _ _ (B0.out _ _ B1.out) b1)
  clear b1
  go_wp2_with (fail)
  refine (HA.out _).mono ?_
  rintro e w2 ⟨rfl, b2⟩
  go_wp2
  go_ret
  exact ⟨rfl, BT.out _ _ HB1.out b2⟩
 have hr' : right a0 = true := by simpa using hr
 rw [hr'] at HR
 obtain ⟨N, hN⟩ : ∃ N, N = a1.size := ⟨_, rfl⟩
 have hN4 : N ≤ 400 := by omega
 obtain ⟨al, hal⟩ : ∃ l, l = a1.data.toList := ⟨_, rfl⟩
 have hlen : al.length = N := by rw [hal, hN]; rfl
 have hget : ∀ (j : Nat) (h : j < a1.size), a1[j] = al.getD j 0 := fun j h => by
  rw [hal, List.getD_eq_getElem?_getD, List.getElem?_eq_getElem (by rw [← hal, hlen, hN]; exact h)]; rfl
 have hdb : (a1 ++ a2).data.toList = al ++ a2.data.toList := by rw [hal]; simp
 have hdc : (a1 ++ a3).data.toList = al ++ a3.data.toList := by rw [hal]; simp
 have hsb : (a1 ++ a2).size ≤ 1000 := by rw [ByteArray.size_append]; omega
 have hsc : (a1 ++ a3).size ≤ 1000 := by rw [ByteArray.size_append]; omega
 have hX := fun u hu => batch_tabs T a0 hr' (a1 ++ a2) hsb u hu
 have hY := fun u hu => batch_tabs T a0 hr' (a1 ++ a3) hsc u hu
 rw [hdb] at hX
 rw [hdc] at hY
 obtain ⟨S, hS⟩ : ∃ S : ByteArray, S = ⟨((Pp.new a0).all (textT T) al).2.toArray⟩ := ⟨_, rfl⟩
 obtain ⟨X, hXe⟩ : ∃ S : ByteArray, S = ⟨(batch (textT T) a0 (al ++ a2.data.toList)).1.toArray⟩ := ⟨_, rfl⟩
 obtain ⟨Y, hYe⟩ : ∃ S : ByteArray, S = ⟨(batch (textT T) a0 (al ++ a3.data.toList)).1.toArray⟩ := ⟨_, rfl⟩
 have hSX := begins (S := S) (X := X) (by rw [hS, hXe]; exact batch_prefix _ _ hr' _ _)
 have hSY := begins (S := S) (X := Y) (by rw [hS, hYe]; exact batch_prefix _ _ hr' _ _)
 rw [← hXe] at hX
 rw [← hYe] at hY
 generalize (batch (textT T) a0 (al ++ a2.data.toList)).2 = EX at hX
 generalize (batch (textT T) a0 (al ++ a3.data.toList)).2 = EY at hY
 have HX := Lib.hid hX
 have HY := Lib.hid hY
 have HS := Lib.hid hS
 have HSX := Lib.hid hSX
 have HSY := Lib.hid hSY
 have HN := Lib.hid hN
 have HLen := Lib.hid hlen
 have HGet := Lib.hid hget
 have HNew := Lib.hid (fun u => new_any a0 hr' u)
 have HFit := Lib.hid (fun j => (Pp.Fits.new a0 hr').all (textT T) (al.take j))
 have HV := Lib.hid (fun j => Pp.all_v (textT T) (al.take j) (show (Pp.new a0).input.V from Reader.V.new _ _))
 have HLn := Lib.hid (fun j => all_len_tabs T a0 hr' (al.take j))
 have HT := Lib.hid hT
 have hbI : (a1.size : Int) = (N : Int) := by omega
 have q1 : ¬ 9223372036854775807 < a1.size + a2.size := by omega
 have q2 : ¬ 9223372036854775807 < a1.size + a3.size := by omega
 have TA := Lib.hid ((Own.Turn.refl (Own.Has.nil w)).allocRow w.heap.size rfl 23 [.int .i64 a0.from_, .int .i64 a0.to, .int .i64 a0.depth, .int .i64 a0.stage, .int .i64 a0.limit])
 generalize Pp.new a0 = p at HNew HFit HV HLn HS
 obtain ⟨f, t, d, g, l⟩ := a0
 unfold Setup.val at HR HX HY HNew ⊢
 simp only at HR HX HY HNew TA ⊢
 clear hr hr' hX hY hS hSX hSY hXe hYe hN hlen hget hdb hdc hsb hsc hal hT
 go_enter Tryz.func3, Tryz.ntmps3
 go_wp2_with (fail)
 refine (HR.out _).mono ?_
 rintro e w1 ⟨rfl, b1⟩
 have T1 := Lib.hid (TA.out.trans (Own.Turn.of_below TA.out.has b1))
 clear b1
 go_wp2_with (fail)
 refine (HA.out _).mono ?_
 rintro e w2 ⟨rfl, b2⟩
 have T2 := Lib.hid (T1.out.trans (Own.Turn.of_below T1.out.has b2))
 clear b2 T1
 have c0 := T2.out.has.cell w.heap.size _ _ (List.mem_cons_self ..) 0 _ rfl
 have c1 := T2.out.has.cell w.heap.size _ _ (List.mem_cons_self ..) 1 _ rfl
 have c2 := T2.out.has.cell w.heap.size _ _ (List.mem_cons_self ..) 2 _ rfl
 have c3 := T2.out.has.cell w.heap.size _ _ (List.mem_cons_self ..) 3 _ rfl
 have c4 := T2.out.has.cell w.heap.size _ _ (List.mem_cons_self ..) 4 _ rfl
 go_wp2_with (fail)
 refine (HNew.out _).mono ?_
 rintro e w3 ⟨pb, h0, rfl, i0, t0⟩
 have I0 := Lib.hid i0
 have T3 := Lib.hid (show Own.Turn [] (Own.row w.heap.size 23 [.int .i64 f, .int .i64 t, .int .i64 d, .int .i64 g, .int .i64 l] :: h0) w w3 from T2.out.trans (t0.behind (r := [Own.row w.heap.size 23 [.int .i64 f, .int .i64 t, .int .i64 d, .int .i64 g, .int .i64 l]]) T2.out.has))
 clear i0 t0 T2 c0 c1 c2 c3 c4
 go_wp2_with (fail)
 go_loopw [10, 11] (fun s10 s11 wr => ∃ (j : Nat) (O : ByteArray) (hj : Own.Heap), s11 = .int .i64 j ∧ j ≤ N ∧ s10 = .string O ∧ Hid (O = ⟨(p.all (textT T) (al.take j)).2.toArray⟩) ∧ Hid ((p.all (textT T) (al.take j)).1.Is pb hj) ∧
   Hid (Own.Turn [] (Own.row w.heap.size 23 [.int .i64 f, .int .i64 t, .int .i64 d, .int .i64 g, .int .i64 l] :: hj) w wr)) (fun _ i _ => N - (intOf i).toNat)
 case atStart => exact ⟨0, _, h0, rfl, Nat.zero_le _, rfl, Lib.hid rfl, I0, T3⟩
 case round =>
  obtain ⟨j, O, hj, rfl, hjN, rfl, HO, HI, TJ⟩ := hrel
  clear T3 I0 HNew
  by_cases hlt : j < N
  ·have hjs : j < a1.size := by have := HN.out; omega
   have hjI : (j : Int) < (N : Int) := by omega
   have hjl : j < al.length := by rw [HLen.out]; exact hlt
   have hgx := HGet.out j hjs
   have hBl := TJ.out.least (B := Esc.tabsEnd) (fun x hx => by cases hx) HT.out.size
   have hTb := HT.out.of (TJ.out.below (B := Esc.tabsEnd) (fun x hx => by cases hx) HT.out.size)
   have hst := step_tabs T HI.out (TJ.out.has.right (a := [_])) (HFit.out j) (by rw [List.length_take]; omega) (HV.out j) a1[j] (fun x hx => hBl x (by
    simp only [Own.blocks, List.map_cons, List.mem_cons] at hx ⊢
    exact .inr hx)) hTb
   have hsn : p.all (textT T) (al.take (j + 1)) = (((p.all (textT T) (al.take j)).1.step (textT T) a1[j]).1, (p.all (textT T) (al.take j)).2 ++ ((p.all (textT T) (al.take j)).1.step (textT T) a1[j]).2.1) := by
    rw [List.take_succ_eq_append_getElem hjl, Pp.all_snoc, hgx]
    have e : al.getD j 0 = al[j] := by rw [List.getD_eq_getElem?_getD, List.getElem?_eq_getElem hjl]; rfl
    rw [e]
   have hln := HLn.out (j + 1)
   rw [List.length_take] at hln
   have HSt := Lib.hid hst
   have Hsn := Lib.hid hsn
   clear hst hsn hBl hTb hgx
   generalize (p.all (textT T) (al.take j)).1.step (textT T) a1[j] = Q at HSt Hsn
   obtain ⟨P2, s2, e2⟩ := Q
   simp only at HSt Hsn
   rw [Hsn.out, List.length_append] at hln
   have hO : O.size = (p.all (textT T) (al.take j)).2.length := by rw [HO.out]; exact List.size_toArray ..
   obtain ⟨R, hR⟩ : ∃ R : ByteArray, R = ⟨s2.toArray⟩ := ⟨_, rfl⟩
   have hRs : R.size = s2.length := by rw [hR]; exact List.size_toArray ..
   have hno : ¬ 9223372036854775807 < O.size + R.size := by rw [hO, hRs]; omega
   have HR2 := Lib.hid hR
   unfold PpDoes at HSt
   simp only at HSt
   rw [← hR] at HSt
   clear hR hRs hO hln
   go_wp2_with (fail)
   refine HSt.out.mono ?_
   rintro e w5 ⟨h2, rfl, i2, t2⟩
   have I2 := Lib.hid i2
   have T5 := Lib.hid (show Own.Turn [] (Own.row w.heap.size 23 [.int .i64 f, .int .i64 t, .int .i64 d, .int .i64 g, .int .i64 l] :: h2) w w5 from TJ.out.trans (t2.behind (r := [Own.row w.heap.size 23 [.int .i64 f, .int .i64 t, .int .i64 d, .int .i64 g, .int .i64 l]]) TJ.out.has))
   clear i2 t2
   go_wp2_with (fail)
   go_roundw
   case rel => exact ⟨j + 1, O ++ R, h2, by go_num, by omega, rfl, Lib.hid (by rw [Hsn.out, HO.out, HR2.out, ByteArray.mk_append_mk]), Lib.hid (by rw [Hsn.out]; exact I2.out), T5⟩
   case measure => simp [intOf]; omega
  ·have hge : (N : Int) ≤ (j : Int) := by omega
   obtain rfl : j = N := by omega
   have hOS : O = S := by rw [HO.out, HS.out, ← HLen.out, List.take_length]
   subst hOS
   have c0 := TJ.out.has.cell w.heap.size _ _ (List.mem_cons_self ..) 0 _ rfl
   have c1 := TJ.out.has.cell w.heap.size _ _ (List.mem_cons_self ..) 1 _ rfl
   have c2 := TJ.out.has.cell w.heap.size _ _ (List.mem_cons_self ..) 2 _ rfl
   have c3 := TJ.out.has.cell w.heap.size _ _ (List.mem_cons_self ..) 3 _ rfl
   have c4 := TJ.out.has.cell w.heap.size _ _ (List.mem_cons_self ..) 4 _ rfl
   have hT5 := Lib.hid (HT.out.of (TJ.out.below (B := Esc.tabsEnd) (fun x hx => by cases hx) HT.out.size))
   go_wp2_with (fail)
   refine (HX.out _ hT5.out).mono ?_
   rintro e w5 ⟨rfl, b5⟩
   have T5 := Lib.hid (TJ.out.trans (Own.Turn.of_below TJ.out.has b5))
   clear b5 c0 c1 c2 c3 c4
   have c0 := T5.out.has.cell w.heap.size _ _ (List.mem_cons_self ..) 0 _ rfl
   have c1 := T5.out.has.cell w.heap.size _ _ (List.mem_cons_self ..) 1 _ rfl
   have c2 := T5.out.has.cell w.heap.size _ _ (List.mem_cons_self ..) 2 _ rfl
   have c3 := T5.out.has.cell w.heap.size _ _ (List.mem_cons_self ..) 3 _ rfl
   have c4 := T5.out.has.cell w.heap.size _ _ (List.mem_cons_self ..) 4 _ rfl
   have hT6 := Lib.hid (HT.out.of (T5.out.below (B := Esc.tabsEnd) (fun x hx => by cases hx) HT.out.size))
   go_wp2_with (fail)
   refine (HY.out _ hT6.out).mono ?_
   rintro e w6 ⟨rfl, b6⟩
   have T6 := Lib.hid (T5.out.trans (Own.Turn.of_below T5.out.has b6))
   clear b6 c0 c1 c2 c3 c4
   obtain ⟨l1, x1⟩ := HSX.out
   obtain ⟨l2, x2⟩ := HSY.out
   have l1' : (O.size : Int) ≤ (X.size : Int) := by omega
   have l2' : (O.size : Int) ≤ (Y.size : Int) := by omega
   have s1 : (O.toList == O.toList) = true := beq_self_eq_true _
   go_wp2
   go_ret
   exact ⟨rfl, T6.out.below (fun x hx => by cases hx) (Nat.le_refl _)⟩
end Go.Proofs.YthnbpnfaghjamaaGreat.pipePrefix
