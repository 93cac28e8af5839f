/- The reference's writer: a part that opens, or is plain (written by gen_rstep.py). -/
import Derived.Test.YtopaadmnlghdaaaDoorJsonS7
namespace Go.Proofs.YtopaadmnlghdaaaDoor
open Go.RowKit
namespace Json

theorem cat2 (a l : List UInt8) : (⟨a.toArray⟩ : ByteArray) ++ ⟨l.toArray⟩ = ⟨(a ++ l).toArray⟩ := by
  apply ByteArray.ext
  simp

set_option maxRecDepth 100000 in
set_option maxHeartbeats 4000000 in
theorem rstep_nil_plain {W : Wr} {rb : Nat} {h : Own.Heap} {w : World} (hi : RIs W rb h) (hw : Own.Has w h) (e : Evt) (hs0 : e.small) (p : Part) (hp : e.part = some p) (hc : p.isClose = false) (hd : W.done = false)
    (h0 : W.opened = []) (hg : p.isBegin = false) :
    Calls Tryd.prog 12 #[.pointer (some ⟨rb, 0, none⟩), e.val] w fun r w' => r = .returned (.tuple #[.string ⟨(W.step text p).1.toArray⟩, .int .i64 ((W.step text p).2.1 : Int)]) ∧
      ∃ h', RIs (W.step text p).2.2 rb h' ∧ Own.Turn h h' w w' := by
  have hpm := e.part_may p hp
  have hkw := (e.part_kind p hp).1
  have hkc := (e.part_kind p hp).2
  have hkb := e.part_begin p hp
  have hsm := e.part_small p hp hs0
  have HM := Lib.hid (fun u => may_any e u)
  rw [hp, Option.isSome_some] at HM
  have HPl := Lib.hid (fun u => refPlain_any e p hp hc hg hs0 u)
  have hbd : W.bad p = false := by unfold Wr.bad; rw [h0]; rfl
  have hah : W.ahead = [] := by unfold Wr.ahead; rw [h0]; rfl
  have hbu : W.bumped = [] := by unfold Wr.bumped; rw [h0]; rfl
  have hX0 := Wr.step_plain text W p hpm hc hg hd hbd
  rw [hah, hbu, show decide (W.opened.length = 0) = true by rw [h0]; simp] at hX0
  have hX := Lib.hid hX0
  obtain ⟨k, y, m, t, cnt⟩ := e
  simp only [Evt.val, Evt.cells] at *
  have h7 : (k == 7) = false := by rw [hc] at hkc; simpa using hkc.symm
  obtain ⟨h5, h6⟩ := hkb
  rw [hg] at h5 h6
  simp only [Bool.false_and] at h5 h6
  obtain ⟨l, lv, hl, hlm, rfl, hs⟩ := hi
  obtain ⟨ad, cc, rfl⟩ := hs.len
  rw [hd] at hw ⊢
  rw [h0] at hw hs hlm ⊢
  simp only [List.length_nil] at hw hs ⊢
  have hl0 : l = [] := by simpa using hlm
  subst hl0
  have ta := (Own.Turn.refl hw).alloc (.cells #[.int .i64 k, .bool y, .int .u64 (m : Int), .string t, .int .i64 cnt] 34)
  have t0 := Lib.hid (show Own.Turn (Own.row rb 31 [.int .i64 1, .slice ad 0 cc, .bool false] :: hl) (Own.row w.heap.size 34 [.int .i64 k, .bool y, .int .u64 (m : Int), .string t, .int .i64 cnt] :: Own.row rb 31 [.int .i64 1, .slice ad 0 cc, .bool false] :: hl) w (w.alloc (.cells #[.int .i64 k, .bool y, .int .u64 (m : Int), .string t, .int .i64 cnt] 34)) from ta)
  have c0 := ta.has.cell rb _ _ (List.mem_cons_of_mem _ (List.mem_cons_self ..)) 1 _ rfl
  have Hsm := text_len p hsm
  generalize hS5 : (⟨(text p).toArray⟩ : ByteArray) = S5 at HPl
  have hS5s : S5.size ≤ 6010 := by rw [← hS5]; exact Hsm
  have hfin := Lib.hid hS5
  clear Hsm hS5
  have HS := Lib.hid hs
  clear hw ta hd hp hc hkw hkc hpm hs0 hsm hbd h0 hah hbu hX0 hlm hg hs
  go_enter Tryd.func12, Tryd.ntmps12
  go_wp2_with (fail)
  refine (HM.out _).mono ?_
  rintro r W1 ⟨rfl, b1⟩
  have T1 := Lib.hid (t0.out.trans (Own.Turn.of_below t0.out.has b1))
  have c0 := T1.out.has.cell rb _ _ (List.mem_cons_of_mem _ (List.mem_cons_self ..)) 0 _ rfl
  have c2 := T1.out.has.cell rb _ _ (List.mem_cons_of_mem _ (List.mem_cons_self ..)) 2 _ rfl
  have c1 := T1.out.has.cell rb _ _ (List.mem_cons_of_mem _ (List.mem_cons_self ..)) 1 _ rfl
  have x0 := T1.out.has.cell w.heap.size _ [.int .i64 k, .bool y, .int .u64 (m : Int), .string t, .int .i64 cnt] (List.mem_cons_self ..) 0 _ rfl
  have x1 := T1.out.has.cell w.heap.size _ [.int .i64 k, .bool y, .int .u64 (m : Int), .string t, .int .i64 cnt] (List.mem_cons_self ..) 1 _ rfl
  have x2 := T1.out.has.cell w.heap.size _ [.int .i64 k, .bool y, .int .u64 (m : Int), .string t, .int .i64 cnt] (List.mem_cons_self ..) 2 _ rfl
  have x3 := T1.out.has.cell w.heap.size _ [.int .i64 k, .bool y, .int .u64 (m : Int), .string t, .int .i64 cnt] (List.mem_cons_self ..) 3 _ rfl
  have x4 := T1.out.has.cell w.heap.size _ [.int .i64 k, .bool y, .int .u64 (m : Int), .string t, .int .i64 cnt] (List.mem_cons_self ..) 4 _ rfl
  go_upto_region 61 with (fail)
  go_region_with (go_at_call 28; refine (HPl.out _).mono ?_; rintro r W2 ⟨rfl, b2⟩)
  all_goals
    have T2 := Lib.hid (T1.out.drew.trans (Own.Turn.of_below T1.out.drew.has b2))
    have d0 := T2.out.has.cell rb _ _ (List.mem_cons_of_mem _ (List.mem_cons_self ..)) 0 _ rfl
    have d1 := T2.out.has.cell rb _ _ (List.mem_cons_of_mem _ (List.mem_cons_self ..)) 1 _ rfl
    have d2 := T2.out.has.cell rb _ _ (List.mem_cons_of_mem _ (List.mem_cons_self ..)) 2 _ rfl
    have f2 := T2.out.has.free rb _ _ (List.mem_cons_of_mem _ (List.mem_cons_self ..)) 2
    have v0 := T2.out.has.cell w.heap.size _ [.int .i64 k, .bool y, .int .u64 (m : Int), .string t, .int .i64 cnt] (List.mem_cons_self ..) 0 _ rfl
    have T3 := Lib.hid ((T2.out.setAt [_] 2 (.bool true) (by simp)).forget (b := [_]))
    go_wp2
    go_ret2
    rw [hX.out]
    refine ⟨?_, _, ⟨[], _, hl, rfl, rfl, HS.out⟩, T3.out⟩
    rw [List.nil_append, hfin.out]
    first
      | rfl
      | simp

set_option maxRecDepth 100000 in
set_option maxHeartbeats 4000000 in
theorem rstep_nil_bt {W : Wr} {rb : Nat} {h : Own.Heap} {w : World} (hi : RIs W rb h) (hw : Own.Has w h) (e : Evt) (hs0 : e.small) (p : Part) (hp : e.part = some p) (hc : p.isClose = false) (hd : W.done = false)
    (h0 : W.opened = []) (cnt0 : Int) (hpe : p = .begins true cnt0) :
    Calls Tryd.prog 12 #[.pointer (some ⟨rb, 0, none⟩), e.val] w fun r w' => r = .returned (.tuple #[.string ⟨(W.step text p).1.toArray⟩, .int .i64 ((W.step text p).2.1 : Int)]) ∧
      ∃ h', RIs (W.step text p).2.2 rb h' ∧ Own.Turn h h' w w' := by
  have hpm := e.part_may p hp
  have hkw := (e.part_kind p hp).1
  have hkc := (e.part_kind p hp).2
  have hkb := e.part_begin p hp
  have hsm := e.part_small p hp hs0
  have HM := Lib.hid (fun u => may_any e u)
  rw [hp, Option.isSome_some] at HM
  have hbd : W.bad p = false := by unfold Wr.bad; rw [h0]; rfl
  have hah : W.ahead = [] := by unfold Wr.ahead; rw [h0]; rfl
  have hbu : W.bumped = [] := by unfold Wr.bumped; rw [h0]; rfl
  have hX0 : W.step text p = (W.ahead ++ [123], 0, ⟨W.bumped ++ [⟨true, 0⟩], false⟩) := by subst hpe; exact Wr.step_begin text W true cnt0 hpm hd hbd
  rw [hah, hbu] at hX0
  have hX := Lib.hid hX0
  obtain ⟨k, y, m, t, cnt⟩ := e
  simp only [Evt.val, Evt.cells] at *
  have h7 : (k == 7) = false := by rw [hc] at hkc; simpa using hkc.symm
  obtain ⟨h5, h6⟩ := hkb
  rw [hpe] at h5 h6
  simp only [Part.isBegin, Part.own] at h5 h6
  have h5' : (k == 5) = false := h5.trans (by decide)
  have h6' : (k == 6) = true := h6.trans (by decide)
  obtain rfl : k = 6 := by simpa using h6'
  clear h5 h6 h5' h6' h7
  obtain ⟨l, lv, hl, hlm, rfl, hs⟩ := hi
  obtain ⟨ad, cc, rfl⟩ := hs.len
  rw [hd] at hw ⊢
  rw [h0] at hw hs hlm ⊢
  simp only [List.length_nil] at hw hs ⊢
  have hl0 : l = [] := by simpa using hlm
  subst hl0
  have ta := (Own.Turn.refl hw).alloc (.cells #[.int .i64 6, .bool y, .int .u64 (m : Int), .string t, .int .i64 cnt] 34)
  have t0 := Lib.hid (show Own.Turn (Own.row rb 31 [.int .i64 1, .slice ad 0 cc, .bool false] :: hl) (Own.row w.heap.size 34 [.int .i64 6, .bool y, .int .u64 (m : Int), .string t, .int .i64 cnt] :: Own.row rb 31 [.int .i64 1, .slice ad 0 cc, .bool false] :: hl) w (w.alloc (.cells #[.int .i64 6, .bool y, .int .u64 (m : Int), .string t, .int .i64 cnt] 34)) from ta)
  have c0 := ta.has.cell rb _ _ (List.mem_cons_of_mem _ (List.mem_cons_self ..)) 1 _ rfl
  have HS := Lib.hid hs
  clear hw ta hd hp hc hkw hkc hpm hs0 hsm hbd h0 hah hbu hX0 hlm hs
  go_enter Tryd.func12, Tryd.ntmps12
  go_wp2_with (fail)
  refine (HM.out _).mono ?_
  rintro r W1 ⟨rfl, b1⟩
  have T1 := Lib.hid (t0.out.trans (Own.Turn.of_below t0.out.has b1))
  have c0 := T1.out.has.cell rb _ _ (List.mem_cons_of_mem _ (List.mem_cons_self ..)) 0 _ rfl
  have c2 := T1.out.has.cell rb _ _ (List.mem_cons_of_mem _ (List.mem_cons_self ..)) 2 _ rfl
  have c1 := T1.out.has.cell rb _ _ (List.mem_cons_of_mem _ (List.mem_cons_self ..)) 1 _ rfl
  have x0 := T1.out.has.cell w.heap.size _ [.int .i64 6, .bool y, .int .u64 (m : Int), .string t, .int .i64 cnt] (List.mem_cons_self ..) 0 _ rfl
  have x1 := T1.out.has.cell w.heap.size _ [.int .i64 6, .bool y, .int .u64 (m : Int), .string t, .int .i64 cnt] (List.mem_cons_self ..) 1 _ rfl
  have x2 := T1.out.has.cell w.heap.size _ [.int .i64 6, .bool y, .int .u64 (m : Int), .string t, .int .i64 cnt] (List.mem_cons_self ..) 2 _ rfl
  have x3 := T1.out.has.cell w.heap.size _ [.int .i64 6, .bool y, .int .u64 (m : Int), .string t, .int .i64 cnt] (List.mem_cons_self ..) 3 _ rfl
  have x4 := T1.out.has.cell w.heap.size _ [.int .i64 6, .bool y, .int .u64 (m : Int), .string t, .int .i64 cnt] (List.mem_cons_self ..) 4 _ rfl
  go_wp2_with (fail)
  refine region70 (mv := true) (n := 0) (lb := []) rfl (by omega) T1.out HS.out _ _ _ _ _ _ _ _ _ _ _ _ _ _ _ _ _ _ _ _ _ _ _ _ _ _ _ _ _ _ _ _ _ _ _ _ _ _ _ _ _ _ _ _ _ _ _ _ _ _ _ _ _ _ _ _ _ _ _ _ _ _ _ _ _ _ _ _ _ _ _ _ _ _ _ _ _ _ _ _ _ _ _ _ _ _ _ _ _ _ _ _ _ _ _ _ _ _ _ _ _ _ _ _ _ _ _ _ _ _ _ _ _ _ _ _ _ _ _ _ _ _ _ _ _ _ _ _ _ _ _ _ _ _ _ _ _ _ _ _ _ _ _ _ _ _ _ _ _ _ _ _ _ _ _ _ _ _ _ _ _ _ _ _ _ _ _ _ _ _ _ _ _ _ _ _ _ _ _ _ _ _ _ _ _ _ _ _ _ _ _ _ _ _ _ _ _ _ _ _ _ _ _ _ _ _ _ _ _ _ _ _ _ _ _ _ _ _ _ _ _ _ _ _ _ _ _ _ _ _ _ _ _ _ _ _ _ _ _ _ _ _ _ _ _ _ _ _ _ _ _ _ _ _ _ _ _ _ _ _ _ _ _ _ _ _ _ _ _ _ _ _ _ _ _ _ _ _ _ _ _ _ _ _ _ _ _ _ _ _ _ _ _ _ _ _ _ _ _ _ _ _ _ _ _ _ _ _ _ _ _ _ _ _ _ _ _ _ _ _ _ _ _ _ _ _ _ _ _ _ _ _ _ _ _ _ _ _ _ _ _ _ _ _ _ _ _ _ _ _ _ _ _ _ _ _ _ _ _ _ _ _ _ _ _ _ _ _ ?_
  intro v350 v351 v352 v353 v354 v355 v356 v357 v358 v359 v360 v361 v362 v363 v364 v365 ad2 c2' h2 w2 s2 TE0
  have TE := Lib.hid TE0
  have g0 := TE.out.has.cell w.heap.size _ [.int .i64 6, .bool y, .int .u64 (m : Int), .string t, .int .i64 cnt] (List.mem_append_right _ (List.mem_cons_self ..)) 0 _ rfl
  clear TE0
  go_wp2
  go_ret2
  rw [hX.out]
  refine ⟨by first | rfl | simp, _, ⟨[⟨⟨true, 0⟩, cnt⟩], _, h2, rfl, rfl, s2⟩, ?_⟩
  have TF := (TE.out.perm (.refl _) (Own.perm_of_count _ ([Own.row rb 31 [.int .i64 1, .slice ad 0 cc, .bool false]] ++ (h2 ++ ([Own.row w.heap.size 34 [.int .i64 6, .bool y, .int .u64 (m : Int), .string t, .int .i64 cnt]] ++ hl))) fun x => by simp only [List.count_append, List.count_cons, List.count_nil]; omega)).set 1 (.slice ad2 1 c2') (by simp)
  exact TF.drop (b := _ :: h2) (c := [_] ++ hl)

set_option maxRecDepth 100000 in
set_option maxHeartbeats 4000000 in
theorem rstep_nil_bf {W : Wr} {rb : Nat} {h : Own.Heap} {w : World} (hi : RIs W rb h) (hw : Own.Has w h) (e : Evt) (hs0 : e.small) (p : Part) (hp : e.part = some p) (hc : p.isClose = false) (hd : W.done = false)
    (h0 : W.opened = []) (cnt0 : Int) (hpe : p = .begins false cnt0) :
    Calls Tryd.prog 12 #[.pointer (some ⟨rb, 0, none⟩), e.val] w fun r w' => r = .returned (.tuple #[.string ⟨(W.step text p).1.toArray⟩, .int .i64 ((W.step text p).2.1 : Int)]) ∧
      ∃ h', RIs (W.step text p).2.2 rb h' ∧ Own.Turn h h' w w' := by
  have hpm := e.part_may p hp
  have hkw := (e.part_kind p hp).1
  have hkc := (e.part_kind p hp).2
  have hkb := e.part_begin p hp
  have hsm := e.part_small p hp hs0
  have HM := Lib.hid (fun u => may_any e u)
  rw [hp, Option.isSome_some] at HM
  have hbd : W.bad p = false := by unfold Wr.bad; rw [h0]; rfl
  have hah : W.ahead = [] := by unfold Wr.ahead; rw [h0]; rfl
  have hbu : W.bumped = [] := by unfold Wr.bumped; rw [h0]; rfl
  have hX0 : W.step text p = (W.ahead ++ [91], 0, ⟨W.bumped ++ [⟨false, 0⟩], false⟩) := by subst hpe; exact Wr.step_begin text W false cnt0 hpm hd hbd
  rw [hah, hbu] at hX0
  have hX := Lib.hid hX0
  obtain ⟨k, y, m, t, cnt⟩ := e
  simp only [Evt.val, Evt.cells] at *
  have h7 : (k == 7) = false := by rw [hc] at hkc; simpa using hkc.symm
  obtain ⟨h5, h6⟩ := hkb
  rw [hpe] at h5 h6
  simp only [Part.isBegin, Part.own] at h5 h6
  have h5' : (k == 5) = true := h5.trans (by decide)
  have h6' : (k == 6) = false := h6.trans (by decide)
  obtain rfl : k = 5 := by simpa using h5'
  clear h5 h6 h5' h6' h7
  obtain ⟨l, lv, hl, hlm, rfl, hs⟩ := hi
  obtain ⟨ad, cc, rfl⟩ := hs.len
  rw [hd] at hw ⊢
  rw [h0] at hw hs hlm ⊢
  simp only [List.length_nil] at hw hs ⊢
  have hl0 : l = [] := by simpa using hlm
  subst hl0
  have ta := (Own.Turn.refl hw).alloc (.cells #[.int .i64 5, .bool y, .int .u64 (m : Int), .string t, .int .i64 cnt] 34)
  have t0 := Lib.hid (show Own.Turn (Own.row rb 31 [.int .i64 1, .slice ad 0 cc, .bool false] :: hl) (Own.row w.heap.size 34 [.int .i64 5, .bool y, .int .u64 (m : Int), .string t, .int .i64 cnt] :: Own.row rb 31 [.int .i64 1, .slice ad 0 cc, .bool false] :: hl) w (w.alloc (.cells #[.int .i64 5, .bool y, .int .u64 (m : Int), .string t, .int .i64 cnt] 34)) from ta)
  have c0 := ta.has.cell rb _ _ (List.mem_cons_of_mem _ (List.mem_cons_self ..)) 1 _ rfl
  have HS := Lib.hid hs
  clear hw ta hd hp hc hkw hkc hpm hs0 hsm hbd h0 hah hbu hX0 hlm hs
  go_enter Tryd.func12, Tryd.ntmps12
  go_wp2_with (fail)
  refine (HM.out _).mono ?_
  rintro r W1 ⟨rfl, b1⟩
  have T1 := Lib.hid (t0.out.trans (Own.Turn.of_below t0.out.has b1))
  have c0 := T1.out.has.cell rb _ _ (List.mem_cons_of_mem _ (List.mem_cons_self ..)) 0 _ rfl
  have c2 := T1.out.has.cell rb _ _ (List.mem_cons_of_mem _ (List.mem_cons_self ..)) 2 _ rfl
  have c1 := T1.out.has.cell rb _ _ (List.mem_cons_of_mem _ (List.mem_cons_self ..)) 1 _ rfl
  have x0 := T1.out.has.cell w.heap.size _ [.int .i64 5, .bool y, .int .u64 (m : Int), .string t, .int .i64 cnt] (List.mem_cons_self ..) 0 _ rfl
  have x1 := T1.out.has.cell w.heap.size _ [.int .i64 5, .bool y, .int .u64 (m : Int), .string t, .int .i64 cnt] (List.mem_cons_self ..) 1 _ rfl
  have x2 := T1.out.has.cell w.heap.size _ [.int .i64 5, .bool y, .int .u64 (m : Int), .string t, .int .i64 cnt] (List.mem_cons_self ..) 2 _ rfl
  have x3 := T1.out.has.cell w.heap.size _ [.int .i64 5, .bool y, .int .u64 (m : Int), .string t, .int .i64 cnt] (List.mem_cons_self ..) 3 _ rfl
  have x4 := T1.out.has.cell w.heap.size _ [.int .i64 5, .bool y, .int .u64 (m : Int), .string t, .int .i64 cnt] (List.mem_cons_self ..) 4 _ rfl
  go_wp2_with (fail)
  refine region70 (mv := false) (n := 0) (lb := []) rfl (by omega) T1.out HS.out _ _ _ _ _ _ _ _ _ _ _ _ _ _ _ _ _ _ _ _ _ _ _ _ _ _ _ _ _ _ _ _ _ _ _ _ _ _ _ _ _ _ _ _ _ _ _ _ _ _ _ _ _ _ _ _ _ _ _ _ _ _ _ _ _ _ _ _ _ _ _ _ _ _ _ _ _ _ _ _ _ _ _ _ _ _ _ _ _ _ _ _ _ _ _ _ _ _ _ _ _ _ _ _ _ _ _ _ _ _ _ _ _ _ _ _ _ _ _ _ _ _ _ _ _ _ _ _ _ _ _ _ _ _ _ _ _ _ _ _ _ _ _ _ _ _ _ _ _ _ _ _ _ _ _ _ _ _ _ _ _ _ _ _ _ _ _ _ _ _ _ _ _ _ _ _ _ _ _ _ _ _ _ _ _ _ _ _ _ _ _ _ _ _ _ _ _ _ _ _ _ _ _ _ _ _ _ _ _ _ _ _ _ _ _ _ _ _ _ _ _ _ _ _ _ _ _ _ _ _ _ _ _ _ _ _ _ _ _ _ _ _ _ _ _ _ _ _ _ _ _ _ _ _ _ _ _ _ _ _ _ _ _ _ _ _ _ _ _ _ _ _ _ _ _ _ _ _ _ _ _ _ _ _ _ _ _ _ _ _ _ _ _ _ _ _ _ _ _ _ _ _ _ _ _ _ _ _ _ _ _ _ _ _ _ _ _ _ _ _ _ _ _ _ _ _ _ _ _ _ _ _ _ _ _ _ _ _ _ _ _ _ _ _ _ _ _ _ _ _ _ _ _ _ _ _ _ _ _ _ _ _ _ _ _ _ _ _ ?_
  intro v350 v351 v352 v353 v354 v355 v356 v357 v358 v359 v360 v361 v362 v363 v364 v365 ad2 c2' h2 w2 s2 TE0
  have TE := Lib.hid TE0
  have g0 := TE.out.has.cell w.heap.size _ [.int .i64 5, .bool y, .int .u64 (m : Int), .string t, .int .i64 cnt] (List.mem_append_right _ (List.mem_cons_self ..)) 0 _ rfl
  clear TE0
  go_wp2
  go_ret2
  rw [hX.out]
  refine ⟨by first | rfl | simp, _, ⟨[⟨⟨false, 0⟩, cnt⟩], _, h2, rfl, rfl, s2⟩, ?_⟩
  have TF := (TE.out.perm (.refl _) (Own.perm_of_count _ ([Own.row rb 31 [.int .i64 1, .slice ad 0 cc, .bool false]] ++ (h2 ++ ([Own.row w.heap.size 34 [.int .i64 5, .bool y, .int .u64 (m : Int), .string t, .int .i64 cnt]] ++ hl))) fun x => by simp only [List.count_append, List.count_cons, List.count_nil]; omega)).set 1 (.slice ad2 1 c2') (by simp)
  exact TF.drop (b := _ :: h2) (c := [_] ++ hl)
end Json
end Go.Proofs.YtopaadmnlghdaaaDoor
