/- PipeOver: the walk: behind an error all is that error; behind an end nothing more is taken. -/
import Derived.Test.YthnbpnfaghjamaaGreatM44
namespace Go.Proofs.YthnbpnfaghjamaaGreat.pipeOver
open Go.RowKit Pip
open Esc (Tabs TabsAt)
open Json (Part)
theorem fin_not (text : Part → List UInt8) (p : Pp) (h : (p.fin text).2.2 ≠ 0) : (p.fin text).1.may = (p.fin text).2.2 := by rw [Pp.fin_may, if_pos h]
theorem fin_yes (text : Part → List UInt8) (p : Pp) (h : (p.fin text).2.2 = 0) : (p.fin text).1.may = 14 := by rw [Pp.fin_may, if_neg (by simp [h])]
set_option maxRecDepth 100000 in
set_option maxHeartbeats 8000000 in
theorem walk (T : Tabs) (a0 : Setup) (a1 a2 : ByteArray) (_z1 : a1.size ≤ 140737488355327) (_z2 : a2.size ≤ 140737488355327) (w : World) (hT : TabsAt T w) :
  Calls Tryz.prog 9 #[a0.val, .string a1, .string a2] w fun e w' => e = .returned (.bool true) ∧ Below w.heap.size w w' := by
 have HA := Lib.hid (fun u => alive18_any u)
 have BT := Lib.hid (fun (u v : World) (b : Below w.heap.size w u) (b2 : Below u.heap.size u v) => (b.trans (b2.mono b.size) : Below w.heap.size w v))
 have B0 := Lib.hid (fun o u (b : Below w.heap.size w u) => b.alloc b.size o)
 have B1 := Lib.hid (Below.refl w.heap.size w)
 have HR := Lib.hid (fun u => right_any a0 u)
 clear _z1 _z2
 by_cases hlong : 200 < a1.size ∨ 60 < a2.size
 ·have hk : 200 < a1.size ∨ (a1.size ≤ 200 ∧ 60 < a2.size) := by omega
  obtain ⟨f, t, d, g, l⟩ := a0
  unfold Setup.val at HR ⊢
  simp only at HR ⊢
  clear HR hT hlong
  rcases hk with k1 | ⟨k1, k2⟩
  ·have k1I : (200 : Int) < (a1.size : Int) := by omega
   clear k1
   go_enter Tryz.func9, Tryz.ntmps9
   go_wp2_with (fail)
   refine (HA.out _).mono ?_
   rintro e w1 ⟨rfl, b1⟩
   go_wp2
   go_ret
   exact ⟨rfl, BT.out _ _ (B0.out _ _ B1.out) b1⟩
  ·have k1I : (a1.size : Int) ≤ 200 := by omega
   have k2I : (60 : Int) < (a2.size : Int) := by omega
   clear k1 k2
   go_enter Tryz.func9, Tryz.ntmps9
   go_wp2_with (fail)
   refine (HA.out _).mono ?_
   rintro e w1 ⟨rfl, b1⟩
   go_wp2
   go_ret
   exact ⟨rfl, BT.out _ _ (B0.out _ _ B1.out) b1⟩
 have k1I : (a1.size : Int) ≤ 200 := by omega
 have k2I : (a2.size : Int) ≤ 60 := by omega
 have TA := Lib.hid ((Own.Turn.refl (Own.Has.nil w)).allocRow w.heap.size rfl 23 [.int .i64 a0.from_, .int .i64 a0.to, .int .i64 a0.depth, .int .i64 a0.stage, .int .i64 a0.limit])
 by_cases hr : right a0 = false
 ·rw [hr] at HR
  have HNo := Lib.hid (fun u => new_none a0 hr u)
  obtain ⟨f, t, d, g, l⟩ := a0
  unfold Setup.val at HR HNo ⊢
  simp only at HR HNo TA ⊢
  clear hr hT hlong
  go_enter Tryz.func9, Tryz.ntmps9
  go_wp2_with (fail)
  refine (HA.out _).mono ?_
  rintro e w1 ⟨rfl, b1⟩
  have T1 := Lib.hid (TA.out.trans (Own.Turn.of_below TA.out.has b1))
  clear b1
  have c0 := T1.out.has.cell w.heap.size _ _ (List.mem_cons_self ..) 0 _ rfl
  have c1 := T1.out.has.cell w.heap.size _ _ (List.mem_cons_self ..) 1 _ rfl
  have c2 := T1.out.has.cell w.heap.size _ _ (List.mem_cons_self ..) 2 _ rfl
  have c3 := T1.out.has.cell w.heap.size _ _ (List.mem_cons_self ..) 3 _ rfl
  have c4 := T1.out.has.cell w.heap.size _ _ (List.mem_cons_self ..) 4 _ rfl
  go_wp2_with (fail)
  refine (HNo.out _).mono ?_
  rintro e w2 ⟨rfl, b2⟩
  have T2 := Lib.hid (T1.out.trans (Own.Turn.of_below T1.out.has b2))
  clear b2 c0 c1 c2 c3 c4
  have c0 := T2.out.has.cell w.heap.size _ _ (List.mem_cons_self ..) 0 _ rfl
  have c1 := T2.out.has.cell w.heap.size _ _ (List.mem_cons_self ..) 1 _ rfl
  have c2 := T2.out.has.cell w.heap.size _ _ (List.mem_cons_self ..) 2 _ rfl
  have c3 := T2.out.has.cell w.heap.size _ _ (List.mem_cons_self ..) 3 _ rfl
  have c4 := T2.out.has.cell w.heap.size _ _ (List.mem_cons_self ..) 4 _ rfl
  go_wp2_with (fail)
  refine (HR.out _).mono ?_
  rintro e w3 ⟨rfl, b3⟩
  have T3 := Lib.hid (T2.out.trans (Own.Turn.of_below T2.out.has b3))
  go_wp2
  go_ret
  exact ⟨rfl, T3.out.below (fun x hx => by cases hx) (Nat.le_refl _)⟩
 have hr' : right a0 = true := by simpa using hr
 obtain ⟨N, hN⟩ : ∃ N, N = a1.size := ⟨_, rfl⟩
 obtain ⟨K, hK⟩ : ∃ K, K = a2.size := ⟨_, rfl⟩
 have hN4 : N ≤ 200 := by omega
 have hK4 : K ≤ 60 := by omega
 obtain ⟨al, hal⟩ : ∃ l, l = a1.data.toList := ⟨_, rfl⟩
 have hlen : al.length = N := by rw [hal, hN]; rfl
 have hget : ∀ (j : Nat) (h : j < a1.size), a1[j] = al.getD j 0 := fun j h => by
  rw [hal, List.getD_eq_getElem?_getD, List.getElem?_eq_getElem (by rw [← hal, hlen, hN]; exact h)]; rfl
 have HN := Lib.hid hN
 have HK := Lib.hid hK
 have HLen := Lib.hid hlen
 have HGet := Lib.hid hget
 have HNew := Lib.hid (fun u => new_any a0 hr' u)
 have HFit := Lib.hid (fun j => (Pp.Fits.new a0 hr').all (textT T) (al.take j))
 have HV := Lib.hid (fun j => Pp.all_v (textT T) (al.take j) (show (Pp.new a0).input.V from Reader.V.new _ _))
 have HM0 := Lib.hid (Pp.new_may a0)
 have HT := Lib.hid hT
 have hbI : (a1.size : Int) = (N : Int) := by omega
 have hbK : (a2.size : Int) = (K : Int) := by omega
 generalize Pp.new a0 = p at HNew HFit HV HM0
 obtain ⟨f, t, d, g, l⟩ := a0
 unfold Setup.val at HR HNew ⊢
 simp only at HR HNew TA ⊢
 clear hr hr' hN hK hlen hget hal hT hlong HR
 go_enter Tryz.func9, Tryz.ntmps9
 go_wp2_with (fail)
 refine (HA.out _).mono ?_
 rintro e w1 ⟨rfl, b1⟩
 have T2 := Lib.hid (TA.out.trans (Own.Turn.of_below TA.out.has b1))
 clear b1
 have c0 := T2.out.has.cell w.heap.size _ _ (List.mem_cons_self ..) 0 _ rfl
 have c1 := T2.out.has.cell w.heap.size _ _ (List.mem_cons_self ..) 1 _ rfl
 have c2 := T2.out.has.cell w.heap.size _ _ (List.mem_cons_self ..) 2 _ rfl
 have c3 := T2.out.has.cell w.heap.size _ _ (List.mem_cons_self ..) 3 _ rfl
 have c4 := T2.out.has.cell w.heap.size _ _ (List.mem_cons_self ..) 4 _ rfl
 go_wp2_with (fail)
 refine (HNew.out _).mono ?_
 rintro e w3 ⟨pb, h0, rfl, i0, t0⟩
 have I0 := Lib.hid i0
 have T3 := Lib.hid (show Own.Turn [] (Own.row w.heap.size 23 [.int .i64 f, .int .i64 t, .int .i64 d, .int .i64 g, .int .i64 l] :: h0) w w3 from T2.out.trans (t0.behind (r := [Own.row w.heap.size 23 [.int .i64 f, .int .i64 t, .int .i64 d, .int .i64 g, .int .i64 l]]) T2.out.has))
 clear i0 t0 T2 c0 c1 c2 c3 c4
 go_wp2_with (fail)
 go_loopw [8, 9] (fun s8 s9 wr => ∃ (j m : Nat) (hj : Own.Heap), s9 = .int .i64 j ∧ j ≤ N ∧ s8 = .int .i64 m ∧ Hid (m = (p.all (textT T) (al.take j)).1.may) ∧ Hid ((p.all (textT T) (al.take j)).1.Is pb hj) ∧
   Hid (Own.Turn [] (Own.row w.heap.size 23 [.int .i64 f, .int .i64 t, .int .i64 d, .int .i64 g, .int .i64 l] :: hj) w wr)) (fun _ i _ => N - (intOf i).toNat)
 case atStart => exact ⟨0, 0, h0, rfl, Nat.zero_le _, rfl, Lib.hid HM0.out.symm, I0, T3⟩
 case round =>
  obtain ⟨j, m, hj, rfl, hjN, rfl, HM, HI, TJ⟩ := hrel
  clear T3 I0 HNew
  have hBl := TJ.out.least (B := Esc.tabsEnd) (fun x hx => by cases hx) HT.out.size
  have hTb := HT.out.of (TJ.out.below (B := Esc.tabsEnd) (fun x hx => by cases hx) HT.out.size)
  have hB2 : ∀ x ∈ Own.blocks hj, Esc.tabsEnd ≤ x := fun x hx => hBl x (by
   simp only [Own.blocks, List.map_cons, List.mem_cons] at hx ⊢
   exact .inr hx)
  have hfj := HFit.out j
  have hln : 0 + 19 * (al.take j).length ≤ 4000 := by rw [List.length_take]; omega
  by_cases hm : m = 0
  ·subst hm
   by_cases hlt : j < N
   ·have hjs : j < a1.size := by have := HN.out; omega
    have hjI : (j : Int) < (N : Int) := by omega
    have hjl : j < al.length := by rw [HLen.out]; exact hlt
    have hgx := HGet.out j hjs
    have hst := step_tabs T HI.out (TJ.out.has.right (a := [_])) hfj (by omega) (HV.out j) a1[j] hB2 hTb
    have hsm := Pp.step_may (textT T) (p.all (textT T) (al.take j)).1 a1[j]
    have hsn : (p.all (textT T) (al.take (j + 1))).1 = ((p.all (textT T) (al.take j)).1.step (textT T) a1[j]).1 := by
     rw [List.take_succ_eq_append_getElem hjl, Pp.all_snoc, hgx]
     have e : al.getD j 0 = al[j] := by rw [List.getD_eq_getElem?_getD, List.getElem?_eq_getElem hjl]; rfl
     rw [e]
    have HSt := Lib.hid hst
    have Hsn := Lib.hid hsn
    have Hsm := Lib.hid hsm
    clear hst hsn hsm hBl hTb hgx hB2 hfj hln
    generalize (p.all (textT T) (al.take j)).1.step (textT T) a1[j] = Z at HSt Hsn Hsm
    obtain ⟨P2, s2, e2⟩ := Z
    simp only at Hsn Hsm
    unfold PpDoes at HSt
    simp only at HSt
    obtain ⟨R, hR⟩ : ∃ R : ByteArray, R = ⟨s2.toArray⟩ := ⟨_, rfl⟩
    rw [← hR] at HSt
    clear hR
    go_wp2_with (fail)
    refine HSt.out.mono ?_
    rintro e w5 ⟨h2, rfl, i2, t2⟩
    have I2 := Lib.hid i2
    have T5 := Lib.hid (show Own.Turn [] (Own.row w.heap.size 23 [.int .i64 f, .int .i64 t, .int .i64 d, .int .i64 g, .int .i64 l] :: h2) w w5 from TJ.out.trans (t2.behind (r := [Own.row w.heap.size 23 [.int .i64 f, .int .i64 t, .int .i64 d, .int .i64 g, .int .i64 l]]) TJ.out.has))
    clear i2 t2
    go_wp2_with (fail)
    go_roundw
    case rel => exact ⟨j + 1, e2, h2, by go_num, by omega, rfl, Lib.hid (by rw [Hsn.out, Hsm.out]), Lib.hid (by rw [Hsn.out]; exact I2.out), T5⟩
    case measure => simp [intOf]; omega
   ·have hge : (N : Int) ≤ (j : Int) := by omega
    have hst := end_tabs T HI.out (TJ.out.has.right (a := [_])) hfj (by omega) (HV.out j) hB2 hTb
    have hff := hfj.fin (textT T)
    have hfn := fin_not (textT T) (p.all (textT T) (al.take j)).1
    have hfy := fin_yes (textT T) (p.all (textT T) (al.take j)).1
    have HSt := Lib.hid hst
    have Hff := Lib.hid hff
    have Hfn := Lib.hid hfn
    have Hfy := Lib.hid hfy
    have Hln := Lib.hid hln
    clear hst hff hfn hfy hBl hTb hB2 hfj hln
    generalize (p.all (textT T) (al.take j)).1.fin (textT T) = Z at HSt Hff Hfn Hfy
    obtain ⟨Q, s2, e2⟩ := Z
    simp only at Hff Hfn Hfy
    unfold PpDoes at HSt
    simp only at HSt
    obtain ⟨R, hR⟩ : ∃ R : ByteArray, R = ⟨s2.toArray⟩ := ⟨_, rfl⟩
    rw [← hR] at HSt
    clear hR
    go_wp2_with (fail)
    refine HSt.out.mono ?_
    rintro e w5 ⟨h2, rfl, i2, t2⟩
    have IQ := Lib.hid i2
    have TQ := Lib.hid (show Own.Turn [] (Own.row w.heap.size 23 [.int .i64 f, .int .i64 t, .int .i64 d, .int .i64 g, .int .i64 l] :: h2) w w5 from TJ.out.trans (t2.behind (r := [Own.row w.heap.size 23 [.int .i64 f, .int .i64 t, .int .i64 d, .int .i64 g, .int .i64 l]]) TJ.out.has))
    have FQ := Lib.hid (Hff.out.mono (show 0 + 19 * (al.take j).length + 19 ≤ 5000 by have := Hln.out; omega))
    clear i2 t2 Hff Hln HI TJ
    by_cases h2z : e2 = 0
    ·subst h2z
     have MQ := Lib.hid (show (Q.may : Int) = 14 ∧ Q.may ≠ 0 by rw [Hfy.out rfl]; exact ⟨rfl, by decide⟩)
     clear Hfn Hfy
     go_wp2_with (fail)
     go_loopw [10] (fun s10 wr => ∃ (i : Nat) (hj : Own.Heap), s10 = .int .i64 i ∧ i ≤ K ∧ Hid (Q.Is pb hj) ∧ Hid (Own.Turn [] (Own.row w.heap.size 23 [.int .i64 f, .int .i64 t, .int .i64 d, .int .i64 g, .int .i64 l] :: hj) w wr)) (fun i _ => K - (intOf i).toNat)
     case atStart => exact ⟨0, _, rfl, Nat.zero_le _, IQ, TQ⟩
     case round =>
      obtain ⟨i, hj, rfl, hiK, HI, TJ⟩ := hrel
      have hBl := TJ.out.least (B := Esc.tabsEnd) (fun x hx => by cases hx) HT.out.size
      have hTb := HT.out.of (TJ.out.below (B := Esc.tabsEnd) (fun x hx => by cases hx) HT.out.size)
      have hB2 : ∀ x ∈ Own.blocks hj, Esc.tabsEnd ≤ x := fun x hx => hBl x (by
       simp only [Own.blocks, List.map_cons, List.mem_cons] at hx ⊢
       exact .inr hx)
      clear IQ TQ
      by_cases hlt2 : i < K
      ·have his : i < a2.size := by have := HK.out; omega
       have hiI : (i : Int) < (K : Int) := by omega
       have hst := step_late T HI.out (TJ.out.has.right (a := [_])) FQ.out (by omega) MQ.out.2 a2[i] hB2 hTb
       rw [MQ.out.1] at hst
       have HSt := Lib.hid hst
       clear hst hTb hBl hB2
       go_wp2_with (fail)
       refine HSt.out.mono ?_
       rintro e w5 ⟨h5, rfl, i5, t5⟩
       have I5 := Lib.hid i5
       have T5 := Lib.hid (show Own.Turn [] (Own.row w.heap.size 23 [.int .i64 f, .int .i64 t, .int .i64 d, .int .i64 g, .int .i64 l] :: h5) w w5 from TJ.out.trans (t5.behind (r := [Own.row w.heap.size 23 [.int .i64 f, .int .i64 t, .int .i64 d, .int .i64 g, .int .i64 l]]) TJ.out.has))
       clear i5 t5
       go_wp2_with (fail)
       go_roundw
       case rel => exact ⟨i + 1, h5, by go_num, by omega, I5, T5⟩
       case measure => simp [intOf]; omega
      ·have hgeI : (K : Int) ≤ (i : Int) := by omega
       have hst := end_late T HI.out (TJ.out.has.right (a := [_])) FQ.out (by omega) MQ.out.2 hB2 hTb
       rw [MQ.out.1] at hst
       have HSt := Lib.hid hst
       have hmay := MQ.out.2
       clear hst hTb hBl hB2
       go_wp2_with (fail)
       refine HSt.out.mono ?_
       rintro e w5 ⟨h5, rfl, i5, t5⟩
       have T5 := Lib.hid (show Own.Turn [] (Own.row w.heap.size 23 [.int .i64 f, .int .i64 t, .int .i64 d, .int .i64 g, .int .i64 l] :: h5) w w5 from TJ.out.trans (t5.behind (r := [Own.row w.heap.size 23 [.int .i64 f, .int .i64 t, .int .i64 d, .int .i64 g, .int .i64 l]]) TJ.out.has))
       have hov := over_any i5 (T5.out.has.right (a := [_]))
       rw [show decide (Q.may ≠ 0) = true from decide_eq_true hmay] at hov
       have HOv := Lib.hid hov
       clear i5 t5 hov hmay
       go_wp2_with (fail)
       refine HOv.out.mono ?_
       rintro e w6 ⟨rfl, rfl⟩
       go_wp2
       go_ret
       exact ⟨rfl, T5.out.below (fun x hx => by cases hx) (Nat.le_refl _)⟩
    ·have MQ := Lib.hid (show (Q.may : Int) = (e2 : Int) ∧ Q.may ≠ 0 by rw [Hfn.out h2z]; exact ⟨rfl, h2z⟩)
     have hb2 : ((e2 : Int) == 0) = false := by rw [beq_eq_false_iff_ne]; omega
     have hb3 : ¬ (e2 : Int) = 0 := by omega
     clear Hfn Hfy h2z
     go_wp2_with (fail)
     go_loopw [10] (fun s10 wr => ∃ (i : Nat) (hj : Own.Heap), s10 = .int .i64 i ∧ i ≤ K ∧ Hid (Q.Is pb hj) ∧ Hid (Own.Turn [] (Own.row w.heap.size 23 [.int .i64 f, .int .i64 t, .int .i64 d, .int .i64 g, .int .i64 l] :: hj) w wr)) (fun i _ => K - (intOf i).toNat)
     case atStart => exact ⟨0, _, rfl, Nat.zero_le _, IQ, TQ⟩
     case round =>
      obtain ⟨i, hj, rfl, hiK, HI, TJ⟩ := hrel
      have hBl := TJ.out.least (B := Esc.tabsEnd) (fun x hx => by cases hx) HT.out.size
      have hTb := HT.out.of (TJ.out.below (B := Esc.tabsEnd) (fun x hx => by cases hx) HT.out.size)
      have hB2 : ∀ x ∈ Own.blocks hj, Esc.tabsEnd ≤ x := fun x hx => hBl x (by
       simp only [Own.blocks, List.map_cons, List.mem_cons] at hx ⊢
       exact .inr hx)
      clear IQ TQ
      by_cases hlt2 : i < K
      ·have his : i < a2.size := by have := HK.out; omega
       have hiI : (i : Int) < (K : Int) := by omega
       have hst := step_late T HI.out (TJ.out.has.right (a := [_])) FQ.out (by omega) MQ.out.2 a2[i] hB2 hTb
       rw [MQ.out.1] at hst
       have HSt := Lib.hid hst
       clear hst hTb hBl hB2
       go_wp2_with (fail)
       refine HSt.out.mono ?_
       rintro e w5 ⟨h5, rfl, i5, t5⟩
       have I5 := Lib.hid i5
       have T5 := Lib.hid (show Own.Turn [] (Own.row w.heap.size 23 [.int .i64 f, .int .i64 t, .int .i64 d, .int .i64 g, .int .i64 l] :: h5) w w5 from TJ.out.trans (t5.behind (r := [Own.row w.heap.size 23 [.int .i64 f, .int .i64 t, .int .i64 d, .int .i64 g, .int .i64 l]]) TJ.out.has))
       clear i5 t5
       go_wp2_with (fail)
       go_roundw
       case rel => exact ⟨i + 1, h5, by go_num, by omega, I5, T5⟩
       case measure => simp [intOf]; omega
      ·have hgeI : (K : Int) ≤ (i : Int) := by omega
       have hst := end_late T HI.out (TJ.out.has.right (a := [_])) FQ.out (by omega) MQ.out.2 hB2 hTb
       rw [MQ.out.1] at hst
       have HSt := Lib.hid hst
       have hmay := MQ.out.2
       clear hst hTb hBl hB2
       go_wp2_with (fail)
       refine HSt.out.mono ?_
       rintro e w5 ⟨h5, rfl, i5, t5⟩
       have T5 := Lib.hid (show Own.Turn [] (Own.row w.heap.size 23 [.int .i64 f, .int .i64 t, .int .i64 d, .int .i64 g, .int .i64 l] :: h5) w w5 from TJ.out.trans (t5.behind (r := [Own.row w.heap.size 23 [.int .i64 f, .int .i64 t, .int .i64 d, .int .i64 g, .int .i64 l]]) TJ.out.has))
       have hov := over_any i5 (T5.out.has.right (a := [_]))
       rw [show decide (Q.may ≠ 0) = true from decide_eq_true hmay] at hov
       have HOv := Lib.hid hov
       clear i5 t5 hov hmay
       go_wp2_with (fail)
       refine HOv.out.mono ?_
       rintro e w6 ⟨rfl, rfl⟩
       go_wp2
       go_ret
       exact ⟨rfl, T5.out.below (fun x hx => by cases hx) (Nat.le_refl _)⟩
  ·have hmI : ¬ (m : Int) = 0 := by omega
   have hmB : ((m : Int) == 0) = false := by rw [beq_eq_false_iff_ne]; omega
   have FQ := Lib.hid (hfj.mono (show 0 + 19 * (al.take j).length ≤ 5000 by omega))
   have MQ := Lib.hid (show ((p.all (textT T) (al.take j)).1.may : Int) = (m : Int) ∧ (p.all (textT T) (al.take j)).1.may ≠ 0 by rw [← HM.out]; exact ⟨rfl, hm⟩)
   have IQ := HI
   have TQ := TJ
   clear hBl hTb hB2 hfj hln hm HM HI TJ
   generalize (p.all (textT T) (al.take j)).1 = Q at FQ MQ IQ
   by_cases hlt : j < N
   ·have hjI : (j : Int) < (N : Int) := by omega
    go_wp2_with (fail)
    go_loopw [10] (fun s10 wr => ∃ (i : Nat) (hj : Own.Heap), s10 = .int .i64 i ∧ i ≤ K ∧ Hid (Q.Is pb hj) ∧ Hid (Own.Turn [] (Own.row w.heap.size 23 [.int .i64 f, .int .i64 t, .int .i64 d, .int .i64 g, .int .i64 l] :: hj) w wr)) (fun i _ => K - (intOf i).toNat)
    case atStart => exact ⟨0, _, rfl, Nat.zero_le _, IQ, TQ⟩
    case round =>
     obtain ⟨i, hj, rfl, hiK, HI, TJ⟩ := hrel
     have hBl := TJ.out.least (B := Esc.tabsEnd) (fun x hx => by cases hx) HT.out.size
     have hTb := HT.out.of (TJ.out.below (B := Esc.tabsEnd) (fun x hx => by cases hx) HT.out.size)
     have hB2 : ∀ x ∈ Own.blocks hj, Esc.tabsEnd ≤ x := fun x hx => hBl x (by
      simp only [Own.blocks, List.map_cons, List.mem_cons] at hx ⊢
      exact .inr hx)
     clear IQ TQ
     by_cases hlt2 : i < K
     ·have his : i < a2.size := by have := HK.out; omega
      have hiI : (i : Int) < (K : Int) := by omega
      have hst := step_late T HI.out (TJ.out.has.right (a := [_])) FQ.out (by omega) MQ.out.2 a2[i] hB2 hTb
      rw [MQ.out.1] at hst
      have HSt := Lib.hid hst
      clear hst hTb hBl hB2
      go_wp2_with (fail)
      refine HSt.out.mono ?_
      rintro e w5 ⟨h5, rfl, i5, t5⟩
      have I5 := Lib.hid i5
      have T5 := Lib.hid (show Own.Turn [] (Own.row w.heap.size 23 [.int .i64 f, .int .i64 t, .int .i64 d, .int .i64 g, .int .i64 l] :: h5) w w5 from TJ.out.trans (t5.behind (r := [Own.row w.heap.size 23 [.int .i64 f, .int .i64 t, .int .i64 d, .int .i64 g, .int .i64 l]]) TJ.out.has))
      clear i5 t5
      go_wp2_with (fail)
      go_roundw
      case rel => exact ⟨i + 1, h5, by go_num, by omega, I5, T5⟩
      case measure => simp [intOf]; omega
     ·have hgeI : (K : Int) ≤ (i : Int) := by omega
      have hst := end_late T HI.out (TJ.out.has.right (a := [_])) FQ.out (by omega) MQ.out.2 hB2 hTb
      rw [MQ.out.1] at hst
      have HSt := Lib.hid hst
      have hmay := MQ.out.2
      clear hst hTb hBl hB2
      go_wp2_with (fail)
      refine HSt.out.mono ?_
      rintro e w5 ⟨h5, rfl, i5, t5⟩
      have T5 := Lib.hid (show Own.Turn [] (Own.row w.heap.size 23 [.int .i64 f, .int .i64 t, .int .i64 d, .int .i64 g, .int .i64 l] :: h5) w w5 from TJ.out.trans (t5.behind (r := [Own.row w.heap.size 23 [.int .i64 f, .int .i64 t, .int .i64 d, .int .i64 g, .int .i64 l]]) TJ.out.has))
      have hov := over_any i5 (T5.out.has.right (a := [_]))
      rw [show decide (Q.may ≠ 0) = true from decide_eq_true hmay] at hov
      have HOv := Lib.hid hov
      clear i5 t5 hov hmay
      go_wp2_with (fail)
      refine HOv.out.mono ?_
      rintro e w6 ⟨rfl, rfl⟩
      go_wp2
      go_ret
      exact ⟨rfl, T5.out.below (fun x hx => by cases hx) (Nat.le_refl _)⟩
   ·have hjI : (N : Int) ≤ (j : Int) := by omega
    go_wp2_with (fail)
    go_loopw [10] (fun s10 wr => ∃ (i : Nat) (hj : Own.Heap), s10 = .int .i64 i ∧ i ≤ K ∧ Hid (Q.Is pb hj) ∧ Hid (Own.Turn [] (Own.row w.heap.size 23 [.int .i64 f, .int .i64 t, .int .i64 d, .int .i64 g, .int .i64 l] :: hj) w wr)) (fun i _ => K - (intOf i).toNat)
    case atStart => exact ⟨0, _, rfl, Nat.zero_le _, IQ, TQ⟩
    case round =>
     obtain ⟨i, hj, rfl, hiK, HI, TJ⟩ := hrel
     have hBl := TJ.out.least (B := Esc.tabsEnd) (fun x hx => by cases hx) HT.out.size
     have hTb := HT.out.of (TJ.out.below (B := Esc.tabsEnd) (fun x hx => by cases hx) HT.out.size)
     have hB2 : ∀ x ∈ Own.blocks hj, Esc.tabsEnd ≤ x := fun x hx => hBl x (by
      simp only [Own.blocks, List.map_cons, List.mem_cons] at hx ⊢
      exact .inr hx)
     clear IQ TQ
     by_cases hlt2 : i < K
     ·have his : i < a2.size := by have := HK.out; omega
      have hiI : (i : Int) < (K : Int) := by omega
      have hst := step_late T HI.out (TJ.out.has.right (a := [_])) FQ.out (by omega) MQ.out.2 a2[i] hB2 hTb
      rw [MQ.out.1] at hst
      have HSt := Lib.hid hst
      clear hst hTb hBl hB2
      go_wp2_with (fail)
      refine HSt.out.mono ?_
      rintro e w5 ⟨h5, rfl, i5, t5⟩
      have I5 := Lib.hid i5
      have T5 := Lib.hid (show Own.Turn [] (Own.row w.heap.size 23 [.int .i64 f, .int .i64 t, .int .i64 d, .int .i64 g, .int .i64 l] :: h5) w w5 from TJ.out.trans (t5.behind (r := [Own.row w.heap.size 23 [.int .i64 f, .int .i64 t, .int .i64 d, .int .i64 g, .int .i64 l]]) TJ.out.has))
      clear i5 t5
      go_wp2_with (fail)
      go_roundw
      case rel => exact ⟨i + 1, h5, by go_num, by omega, I5, T5⟩
      case measure => simp [intOf]; omega
     ·have hgeI : (K : Int) ≤ (i : Int) := by omega
      have hst := end_late T HI.out (TJ.out.has.right (a := [_])) FQ.out (by omega) MQ.out.2 hB2 hTb
      rw [MQ.out.1] at hst
      have HSt := Lib.hid hst
      have hmay := MQ.out.2
      clear hst hTb hBl hB2
      go_wp2_with (fail)
      refine HSt.out.mono ?_
      rintro e w5 ⟨h5, rfl, i5, t5⟩
      have T5 := Lib.hid (show Own.Turn [] (Own.row w.heap.size 23 [.int .i64 f, .int .i64 t, .int .i64 d, .int .i64 g, .int .i64 l] :: h5) w w5 from TJ.out.trans (t5.behind (r := [Own.row w.heap.size 23 [.int .i64 f, .int .i64 t, .int .i64 d, .int .i64 g, .int .i64 l]]) TJ.out.has))
      have hov := over_any i5 (T5.out.has.right (a := [_]))
      rw [show decide (Q.may ≠ 0) = true from decide_eq_true hmay] at hov
      have HOv := Lib.hid hov
      clear i5 t5 hov hmay
      go_wp2_with (fail)
      refine HOv.out.mono ?_
      rintro e w6 ⟨rfl, rfl⟩
      go_wp2
      go_ret
      exact ⟨rfl, T5.out.below (fun x hx => by cases hx) (Nat.le_refl _)⟩
end Go.Proofs.YthnbpnfaghjamaaGreat.pipeOver
