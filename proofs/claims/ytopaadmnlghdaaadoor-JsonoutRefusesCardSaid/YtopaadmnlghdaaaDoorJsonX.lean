/- The writer of JSON: a part that opens, or is plain. -/
import Derived.Test.YtopaadmnlghdaaaDoorJsonW
namespace Go.Proofs.YtopaadmnlghdaaaDoor
open Go.RowKit
namespace Json

theorem Wr.Fits.bumped {W : Wr} {n : Nat} (h : W.Fits n) : (Wr.mk W.bumped false).Fits (n + 1) := by
  unfold Wr.bumped
  cases hl : W.opened.getLast? with
  | none => exact ⟨Nat.zero_le _, fun c hc => by cases hc⟩
  | some c =>
    have hm : c ∈ W.opened := List.mem_of_getLast? hl
    have := h.deep
    have := h.parts c hm
    refine ⟨by simp; omega, fun x hx => ?_⟩
    simp only [List.mem_append, List.mem_singleton] at hx
    rcases hx with hx | rfl
    · have := h.parts x ((List.dropLast_sublist _).subset hx); omega
    · show c.parts + 1 ≤ _; omega

set_option maxRecDepth 100000 in
set_option maxHeartbeats 4000000 in
theorem step_open {W : Wr} {wb n B : Nat} {h : Own.Heap} {w : World} (hi : W.Is wb h) (hw : Own.Has w h) (hf : W.Fits n) (hn : n ≤ 100000) (hd : W.done = false)
    (hU : Under B) (hB : ∀ x ∈ Own.blocks h, B ≤ x) (T : Tabs w) (p : Part) (hm : p.may = true) (hc : p.isClose = false) (hp : p.small) :
    Calls Tryd.prog 11 #[.pointer (some ⟨wb, 0, none⟩), p.val] w fun e w' => e = .returned (.tuple #[.string ⟨(W.step text p).1.toArray⟩, .int .i64 ((W.step text p).2.1 : Int)]) ∧
      ∃ h', (W.step text p).2.2.Is wb h' ∧ Own.Turn h h' w w' := by
  have a5 := asClose p
  have a3 := asWord p
  have a6 := asBegin p
  have HT := Lib.hid (fun u (t : Tabs u) => text_any p hp u t)
  obtain ⟨V, hV⟩ : ∃ V, V = p.val := ⟨_, rfl⟩
  obtain ⟨a, b, m, s, c, hpl⟩ := plain_out p V hV w
  rw [← hV] at a3 a5 a6 HT ⊢
  have HV := Lib.hid hV
  clear hV
  rw [hm] at hpl
  have HC := Lib.hid hpl
  clear hpl
  have h5 : p.inClose = .agg #[] := rfl
  rw [hc, h5] at a5
  have hW := Lib.hid hw
  have hI := Lib.hid hi
  have hbad := Lib.hid (Wr.step_bad text W p hm hc hd)
  have hF := Lib.hid hf.bumped
  have hf' := Lib.hid hf
  have hdl := Lib.hid hd
  have HB := Lib.hid hB
  have HT0 := Lib.hid T
  have HU := Lib.hid hU
  have Hp := Lib.hid hp
  have Hm := Lib.hid hm
  have Hc := Lib.hid hc
  obtain ⟨ad, cc, hl, rfl, hs⟩ := hi.head
  rw [hd] at hW hI ⊢
  obtain ⟨N, hN⟩ : ∃ N, N = W.opened.length := ⟨_, rfl⟩
  have hS := Lib.hid hs
  rw [← hN] at hW hI hS HB ⊢
  have HN := Lib.hid hN
  have hNb : N ≤ 100000 := by have := hf.deep; omega
  clear hs hw hi hf hU hB T hp hm hc hd h5 hN
  go_enter Tryd.func11, Tryd.ntmps11
  go_wp2_with (fail)
  refine HC.out.mono ?_
  rintro e W1 ⟨rfl, b1⟩
  have t1 := Own.Turn.of_below hW.out b1
  have c1 := fun o => (t1.litter o).has.cell wb _ _ (List.mem_cons_self ..) 1 _ rfl
  have c0 := fun o o' => ((t1.litter o).litter o').has.cell wb _ _ (List.mem_cons_self ..) 0 _ rfl
  go_upto_if 51 with (fail)
  go_cut [10, 11] (fun s10 _ wx => W.bad p = false ∧ ∃ h2, s10 = .string ⟨W.ahead.toArray⟩ ∧ (Wr.mk W.bumped false).Is wb h2 ∧ Own.Turn (Own.row wb 27 [.slice ad N cc, .bool false] :: hl) h2 w wx)
  case first =>
    rcases List.eq_nil_or_concat W.opened with h0 | ⟨L, c, h0⟩
    · have hN0 := HN.out
      rw [h0] at hN0
      obtain rfl : N = 0 := hN0
      have hbu := Lib.hid (show W.bumped = W.opened by unfold Wr.bumped; rw [h0]; rfl)
      have hah := Lib.hid (show W.ahead = [] by unfold Wr.ahead; rw [h0]; rfl)
      have hbd0 := Lib.hid (show W.bad p = false by unfold Wr.bad; rw [h0]; rfl)
      clear h0
      go_wp2_with (fail)
      go_meet
      case rel =>
        refine ⟨hbd0.out, _, by rw [hah.out], ?_, (t1.litter _).litter _⟩
        rw [hbu.out, show Wr.mk W.opened false = W by rw [← hdl.out]]; exact hI.out
    · rw [List.concat_eq_append] at h0
      have hN0 := HN.out
      rw [h0, List.length_append, List.length_singleton] at hN0
      obtain ⟨K, hK⟩ : ∃ K, K = L.length := ⟨_, rfl⟩
      rw [← hK] at hN0
      subst hN0
      have hK1 : K < 100000 := by have := hf'.out.deep; rw [h0] at this; simp at this; omega
      have hk1 : c.parts ≤ 100000 := by have := hf'.out.parts c (by rw [h0]; simp); omega
      obtain ⟨b2, m2, spare, e1, rfl, hsl, hm2⟩ := hS.out.at_ (by omega)
      injection e1 with e2 _ e3
      subst e2 e3
      have hbx : boxes W.opened = boxes L ++ [.bool c.pairs, .int .i64 (c.parts : Int)] := by rw [h0, boxes_append]; simp [boxes]
      have hgl : W.opened.getLast? = some c := by rw [h0]; simp
      have hah := Lib.hid (show W.ahead = c.ahead by unfold Wr.ahead; rw [hgl])
      have hbu := Lib.hid (show W.bumped = L ++ [⟨c.pairs, c.parts + 1⟩] by unfold Wr.bumped; rw [hgl, h0]; simp)
      have hbd := Lib.hid (show W.bad p = (c.pairs && !c.between && !p.isWord) by unfold Wr.bad; rw [hgl])
      obtain ⟨y, k⟩ := c
      simp only at hk1
      have hbt := Lib.hid (show (Box.mk y k).between = (y && decide (k % 2 = 1)) from rfl)
      have hgo := Lib.hid (show (Box.mk y k).ahead = if (Box.mk y k).between then [58] else if 0 < k then [44] else [] from rfl)
      have HBt := Lib.hid (fun u => between_any y k u)
      have FX := Lib.hid (fun (u : World) (t : Own.Turn (Own.row wb 27 [.slice (some ⟨b2, 0, none⟩) (K + 1) (K + 1 + m2), .bool false] :: [Own.row b2 70 (boxes W.opened ++ spare)])
          (Own.row wb 27 [.slice (some ⟨b2, 0, none⟩) (K + 1) (K + 1 + m2), .bool false] :: [Own.row b2 70 (boxes W.opened ++ spare)]) w u) => by
        have e0 := t.has.cell b2 _ _ (List.mem_cons_of_mem _ (List.mem_cons_self ..)) (K * 2) (.bool y) (by rw [hbx, List.append_assoc, hK, ← boxes_length, List.getElem?_append_right (by omega)]; simp)
        have e1 := t.has.cell b2 _ _ (List.mem_cons_of_mem _ (List.mem_cons_self ..)) (K * 2 + 1) (.int .i64 (k : Int)) (by rw [hbx, List.append_assoc, hK, ← boxes_length, List.getElem?_append_right (by omega)]; simp)
        have f1 := t.has.free b2 _ _ (List.mem_cons_of_mem _ (List.mem_cons_self ..)) (K * 2 + 1)
        exact And.intro e0 (And.intro e1 f1))
      have FY := Lib.hid (fun (u : World) (t : Own.Turn (Own.row wb 27 [.slice (some ⟨b2, 0, none⟩) (K + 1) (K + 1 + m2), .bool false] :: [Own.row b2 70 (boxes W.opened ++ spare)])
          (Own.row wb 27 [.slice (some ⟨b2, 0, none⟩) (K + 1) (K + 1 + m2), .bool false] :: [Own.row b2 70 (boxes W.opened ++ spare)]) w u) => by
        have t' := t.setAt [_] (K * 2 + 1) (.int .i64 ((k : Int) + 1)) (by rw [hbx, hK]; simp [boxes_length])
        have hset : (boxes W.opened ++ spare).set (K * 2 + 1) (.int .i64 ((k : Int) + 1)) = boxes (L ++ [⟨y, k + 1⟩]) ++ spare := by
          rw [hbx, List.append_assoc, hK, ← boxes_length, List.set_append_right _ _ (by omega), boxes_append]
          simp [boxes]
        rw [hset] at t'
        exact t')
      have HI2 := Lib.hid (show (Wr.mk (L ++ [⟨y, k + 1⟩]) false).Is wb (Own.row wb 27 [.slice (some ⟨b2, 0, none⟩) (K + 1) (K + 1 + m2), .bool false] :: [Own.row b2 70 (boxes (L ++ [⟨y, k + 1⟩]) ++ spare)]) by
        have := Wr.Is.of (wb := wb) (b := b2) (m := m2) (L ++ [⟨y, k + 1⟩]) spare false hsl (by simp; omega)
        rw [show (L ++ [(⟨y, k + 1⟩ : Box)]).length = K + 1 by simp [hK]] at this
        exact this)
      have d0 := fun o o' => (FX.out _ ((t1.litter o).litter o')).1
      have d1 := fun o o' => (FX.out _ ((t1.litter o).litter o')).2.1
      have T2 := Lib.hid (fun o o' => (t1.litter o).litter o')
      have HI0 := Lib.hid hI.out
      clear hbx hgl h0 hK hsl hm2 hS t1
      have hk1' : (((K + 1 : Nat) : Int)) - 1 = (K : Int) := by omega
      generalize (Box.mk y k).between = bt at hbd hbt hgo HBt
      have fin : ∀ (tmps : Array Value) (u : World), Own.Turn (Own.row wb 27 [.slice (some ⟨b2, 0, none⟩) (K + 1) (K + 1 + m2), .bool false] :: [Own.row b2 70 (boxes W.opened ++ spare)])
          (Own.row wb 27 [.slice (some ⟨b2, 0, none⟩) (K + 1) (K + 1 + m2), .bool false] :: [Own.row b2 70 (boxes W.opened ++ spare)]) w u →
          ∃ h2, (Wr.mk W.bumped false).Is wb h2 ∧ Own.Turn (Own.row wb 27 [.slice (some ⟨b2, 0, none⟩) (K + 1) (K + 1 + m2), .bool false] :: [Own.row b2 70 (boxes W.opened ++ spare)]) h2 w (u.setCell ⟨b2, K * 2 + 1, none⟩ (.int .i64 ((k : Int) + 1))) := by
        intro _ u t
        rw [hbu.out]
        exact ⟨_, HI2.out, FY.out _ t⟩
      have Fin := Lib.hid fin
      clear fin FY HI2
      have hkw : IntKind.i64.wrap ((k : Int) + 1) = (k : Int) + 1 := by rw [IntKind.wrap_i64]; omega
      cases y
      · have hbf : bt = false := by have := hbt.out; simpa using this
        subst hbf
        have hgb := Lib.hid (show W.bad p = false by rw [hbd.out]; rfl)
        have hg1 := Lib.hid (fun h : 0 < k => (show W.ahead = [44] by rw [hah.out, hgo.out]; simp [h]))
        have hg0 := Lib.hid (fun h : k = 0 => (show W.ahead = [] by rw [hah.out, hgo.out]; simp [h]))
        clear hbt hbd
        go_wp2_with (fail)
        refine (HBt.out _).mono ?_
        rintro e W2 ⟨rfl, b3⟩
        have t3 := (T2.out _ _).trans (Own.Turn.of_below (T2.out _ _).has b3)
        obtain ⟨x0, x1, x2⟩ := FX.out _ t3
        clear d0 d1 c0 c1
        rcases Nat.eq_zero_or_pos k with hk0 | hk0
        · have hgx := Lib.hid (hg0.out hk0)
          obtain rfl : k = 0 := hk0
          clear hg0 hg1
          go_wp2_with (fail)
          go_meet
          case rel =>
            obtain ⟨h2, i2, t4⟩ := Fin.out #[] _ t3
            exact ⟨hgb.out, h2, by rw [hgx.out], i2, t4⟩
        · have hgx := Lib.hid (hg1.out hk0)
          have hk0' : (0 : Int) < (k : Int) := by omega
          clear hg0 hg1
          go_wp2_with (fail)
          go_meet
          case rel =>
            obtain ⟨h2, i2, t4⟩ := Fin.out #[] _ t3
            exact ⟨hgb.out, h2, by rw [hgx.out], i2, t4⟩
      · go_wp2_with (fail)
        refine (HBt.out _).mono ?_
        rintro e W2 ⟨rfl, b3⟩
        have t3 := (T2.out _ _).trans (Own.Turn.of_below (T2.out _ _).has b3)
        obtain ⟨x0, x1, x2⟩ := FX.out _ t3
        clear d0 d1 c0 c1
        cases bt
        · have hg1 := Lib.hid (fun h : 0 < k => (show W.ahead = [44] by rw [hah.out, hgo.out]; simp [h]))
          have hg0 := Lib.hid (fun h : k = 0 => (show W.ahead = [] by rw [hah.out, hgo.out]; simp [h]))
          cases hiw : p.isWord
          · have hbb := hbad.out (by rw [hbd.out, hiw]; rfl)
            have Hbb := Lib.hid hbb
            clear hbb hiw
            go_wp2_with (fail)
            go_ret2
            rw [Hbb.out]
            exact ⟨rfl, _, HI0.out, t3⟩
          · have hgb := Lib.hid (show W.bad p = false by rw [hbd.out, hiw]; rfl)
            clear hiw hbd
            go_wp2_with (fail)
            refine (HBt.out _).mono ?_
            rintro e W3 ⟨rfl, b4⟩
            have t4 := t3.trans (Own.Turn.of_below t3.has b4)
            obtain ⟨x0, x1, x2⟩ := FX.out _ t4
            rcases Nat.eq_zero_or_pos k with hk0 | hk0
            · have hgx := Lib.hid (hg0.out hk0)
              obtain rfl : k = 0 := hk0
              clear hg0 hg1
              go_wp2_with (fail)
              go_meet
              case rel =>
                obtain ⟨h2, i2, t4⟩ := Fin.out #[] _ t4
                exact ⟨hgb.out, h2, by rw [hgx.out], i2, t4⟩
            · have hgx := Lib.hid (hg1.out hk0)
              have hk0' : (0 : Int) < (k : Int) := by omega
              clear hg0 hg1
              go_wp2_with (fail)
              go_meet
              case rel =>
                obtain ⟨h2, i2, t4⟩ := Fin.out #[] _ t4
                exact ⟨hgb.out, h2, by rw [hgx.out], i2, t4⟩
        · have hgx := Lib.hid (show W.ahead = [58] by rw [hah.out, hgo.out]; rfl)
          have hgb := Lib.hid (show W.bad p = false by rw [hbd.out]; rfl)
          clear hbd
          go_wp2_with (fail)
          refine (HBt.out _).mono ?_
          rintro e W3 ⟨rfl, b4⟩
          have t4 := t3.trans (Own.Turn.of_below t3.has b4)
          obtain ⟨x0, x1, x2⟩ := FX.out _ t4
          go_wp2_with (fail)
          go_meet
          case rel =>
            obtain ⟨h2, i2, t4⟩ := Fin.out #[] _ t4
            exact ⟨hgb.out, h2, by rw [hgx.out], i2, t4⟩
  case rest =>
    obtain ⟨hbad0, h2, rfl, i2, t2⟩ := hcut
    have HBad := Lib.hid hbad0
    clear hbad0
    have hal : W.ahead.length ≤ 1 := by
      unfold Wr.ahead
      split
      · simp
      · exact ahead_len _
    generalize hA : (⟨W.ahead.toArray⟩ : ByteArray) = A
    have hAs : A.size ≤ 1 := by rw [← hA]; exact hal
    have HA := Lib.hid hA
    clear hA hal
    have hcat : ∀ l : List UInt8, A ++ ⟨l.toArray⟩ = ⟨(W.ahead ++ l).toArray⟩ := fun l => by
      rw [← HA.out]
      apply ByteArray.ext
      simp
    have Hcat := Lib.hid hcat
    clear hcat c0 c1
    obtain ⟨ad2, cc2, hl2, rfl, s2⟩ := i2.head
    have hN2 : W.bumped.length ≤ 100001 := by have := hF.out.deep; simp only at this; omega
    have HFx := Lib.hid (fun o => (t2.litter o))
    cases hg : p.isBegin
    · have hbd : W.bad p = false := HBad.out
      have hst := Lib.hid (Wr.step_plain text W p Hm.out Hc.out hg hdl.out hbd)
      have hib : p.inBegin = .agg #[.bool false, .int .i64 0] := by cases p <;> first | rfl | cases hg
      rw [hg, hib] at a6
      have Hsm := text_len p Hp.out
      generalize hS5 : (⟨(text p).toArray⟩ : ByteArray) = S5 at HT
      have hS5s : S5.size ≤ 6010 := by rw [← hS5]; exact Hsm
      have hfin := Lib.hid (Hcat.out (text p))
      rw [hS5] at hfin
      obtain ⟨N2, hN2e⟩ : ∃ N2, N2 = W.bumped.length := ⟨_, rfl⟩
      have hlen := Lib.hid (show ((N2 : Int) == 0) = decide (W.opened.length = 0) by rw [hN2e, Wr.bumped_length, Bool.eq_iff_iff]; simp)
      have i3 := Lib.hid (fun d => (⟨_, _, rfl, s2⟩ : (Wr.mk W.bumped d).Is wb (Own.row wb 27 [.slice ad2 W.bumped.length cc2, .bool d] :: hl2)))
      rw [← hN2e] at i3 s2 HFx hN2
      have S2 := Lib.hid s2
      have t3 := Lib.hid (fun o => (HFx.out o).set 1 (.bool ((N2 : Int) == 0)) (by simp))
      have HTx := Lib.hid (fun o => HT.out _ (HT0.out.of ((t3.out o).below HB.out (Nat.le_trans (HB.out wb (List.mem_cons_self ..)) (Nat.le_of_lt hW.out.row_lt))) HU.out))
      clear hN2e s2 hbd hib hg Hsm hS5 i2 t2
      have c0 := fun o => (HFx.out o).has.cell wb _ _ (List.mem_cons_self ..) 0 _ rfl
      have c1 := fun o => (HFx.out o).has.cell wb _ _ (List.mem_cons_self ..) 1 _ rfl
      have f1 := fun o => (HFx.out o).has.free wb _ _ (List.mem_cons_self ..) 1
      go_wp2_with (fail)
      refine (HTx.out _).mono ?_
      rintro e W5 ⟨rfl, b5⟩
      go_wp2
      go_ret2
      rw [hst.out]
      have t5 := (t3.out _).trans (Own.Turn.of_below (t3.out _).has b5)
      rw [hlen.out] at t5
      refine ⟨?_, _, i3.out _, t5⟩
      rw [← hfin.out]
      rfl
    · cases p with
      | begins m2 c2 =>
        have hbd : W.bad (.begins m2 c2) = false := HBad.out
        have hst := Lib.hid (Wr.step_begin text W m2 c2 Hm.out hdl.out hbd)
        rw [show (Part.begins m2 c2).isBegin = true from rfl, show (Part.begins m2 c2).inBegin = .agg #[.bool m2, .int .i64 c2] from rfl] at a6
        have hcats := Lib.hid (And.intro (Hcat.out [123]) (Hcat.out [91]))
        obtain ⟨i0, hi, hz0, hz1, hz2⟩ := info_parts (P := Tryd.prog) (e := 70) (z := .agg #[.bool false, .int .i64 0]) (size := 2) (bytes := 16) (by kernel_rfl)
        have Hi := Lib.hid (And.intro hi (And.intro hz0 (And.intro hz1 hz2)))
        have HN2 := Lib.hid hN2
        obtain ⟨N2, hN2e⟩ : ∃ N2, N2 = W.bumped.length := ⟨_, rfl⟩
        rw [← hN2e] at s2 HFx hN2
        have S2 := Lib.hid s2
        have HN2e := Lib.hid hN2e
        clear hbd hg s2 i2 hi hz0 hz1 hz2 hN2e
        have c0 := fun o => (HFx.out o).has.cell wb _ _ (List.mem_cons_self ..) 0 _ rfl
        have f0 := fun o => (HFx.out o).has.free wb _ _ (List.mem_cons_self ..) 0
        have hA0 := Own.Turn.drew (Own.Turn.allocAt (Own.Turn.alloc t2 (.cells #[.bool m2, .int .i64 c2] 56)) (wc.heap.size + 1) (size_alloc wc _) (.cells #[.bool m2, .int .i64 0] 70))
        rw [← HN2e.out] at hA0
        have hA1 : Own.Turn (Own.row wb 27 [.slice ad N cc, .bool false] :: hl) (Own.row (wc.heap.size + 1) 70 [.bool m2, .int .i64 0] :: Own.row wc.heap.size 56 [.bool m2, .int .i64 c2] :: Own.row wb 27 [.slice ad2 N2 cc2, .bool false] :: hl2) w
            (((wc.alloc (.cells #[.bool m2, .int .i64 c2] 56)).alloc (.cells #[.bool m2, .int .i64 0] 70)).drew) := hA0
        have hA2 : Own.Turn (Own.row wb 27 [.slice ad N cc, .bool false] :: hl) (Own.row (wc.heap.size + 1) 70 [.bool m2, .int .i64 0] :: (hl2 ++ [Own.row wb 27 [.slice ad2 N2 cc2, .bool false], Own.row wc.heap.size 56 [.bool m2, .int .i64 c2]])) w
            (((wc.alloc (.cells #[.bool m2, .int .i64 c2] 56)).alloc (.cells #[.bool m2, .int .i64 0] 70)).drew) := hA1.perm (.refl _) (Own.perm_of_count _ _ fun x => by simp only [List.count_append, List.count_cons, List.count_nil]; omega)
        have HW := Lib.hid hA2
        clear hA0 hA1 hA2
        have hbz := Lib.hid (boxes_append W.bumped [⟨m2, 0⟩])
        have c0' := fun o o' => ((HFx.out o).litter o').has.cell wb _ _ (List.mem_cons_self ..) 0 _ rfl
        have hltw := t2.has.row_lt
        have hne : ¬ wb = wc.heap.size := by omega
        have hne' : ¬ wc.heap.size = wb := by omega
        clear HFx t2 hltw
        cases m2
        all_goals
          go_wp2_with (fail)
          go_region_law (refine Own.step_append_onek rfl _ _ 25 rfl 70 i0 (.agg #[.bool false, .int .i64 0]) 2 16 Tryd.underlying25 Hi.out.1 Hi.out.2.1 Hi.out.2.2.1 Hi.out.2.2.2 rfl (.slice ad2 N2 cc2) N2 (boxes W.bumped) hl2 [Own.row wb 27 [.slice ad2 N2 cc2, .bool false], Own.row wc.heap.size 56 [.bool _, .int .i64 c2]] rfl S2.out (wc.heap.size + 1) _ HW.out.has rfl rfl ?hy ?c1 ?c2 ?_; (case hy => (intro u hu; simp only [List.mem_cons, List.not_mem_nil, or_false] at hu; rcases hu with rfl | rfl <;> rfl)); (case c1 => (simp only [maxLen]; omega)); (case c2 => omega); intro ad' c' h' w1 hs' ht'; have d0 := ht'.has.cell wb _ _ (List.mem_cons_of_mem _ (List.mem_append_right _ (List.mem_cons_self ..))) 0 _ rfl; have f0' := ht'.has.free wb _ _ (List.mem_cons_of_mem _ (List.mem_append_right _ (List.mem_cons_self ..))) 0; have d15 := ht'.has.cell wc.heap.size _ _ (List.mem_cons_of_mem _ (List.mem_append_right _ (List.mem_cons_of_mem _ (List.mem_cons_self ..)))) 0 _ rfl)
        all_goals
          have tB := Lib.hid ((((HW.out).trans ht').forget (b := [_])).perm (.refl _) List.perm_append_comm)
          go_wp2
          go_ret2
          rw [hst.out]
          have tC := (tB.out).set 0 (.slice ad' (N2 + 1) c') (by simp)
          have tD := (tC.perm (.refl _) (List.Perm.cons _ (List.perm_append_comm (l₁ := [_]) (l₂ := h')))).drop (b := _ :: h') (c := [_])
          refine ⟨?_, _, ⟨.slice ad' (N2 + 1) c', h', rfl, ?_⟩, tD⟩
          · first
              | exact congrArg (fun x => Ending.returned (.tuple #[.string x, .int .i64 0])) hcats.out.1
              | exact congrArg (fun x => Ending.returned (.tuple #[.string x, .int .i64 0])) hcats.out.2
          · simp only [List.length_append, List.length_singleton, ← HN2e.out]
            rw [hbz.out]
            exact hs'
      | _ => cases hg

end Json
end Go.Proofs.YtopaadmnlghdaaaDoor
