/- The reference's writer: a part that opens, or is plain (written by gen_rstep.py). -/
import Derived.Test.YtopaadmnlghdaaaDoorJsonSn
namespace Go.Proofs.YtopaadmnlghdaaaDoor
open Go.RowKit
namespace Json

set_option maxRecDepth 100000 in
set_option maxHeartbeats 4000000 in
theorem rstep_TO_bf {W : Wr} {rb n : Nat} {h : Own.Heap} {w : World} (hi : RIs W rb h) (hw : Own.Has w h) (hf : W.Fits n) (hn : n ≤ 100000) (e : Evt) (hs0 : e.small) (p : Part) (hp : e.part = some p) (hc : p.isClose = false) (hd : W.done = false)
    (L : List Box) (kk : Nat) (hr : kk % 2 = 1) (h0 : W.opened = L ++ [⟨true, kk⟩]) (cnt0 : Int) (hpe : p = .begins false cnt0) :
    Calls Tryd.prog 12 #[.pointer (some ⟨rb, 0, none⟩), e.val] w fun r w' => r = .returned (.tuple #[.string ⟨(W.step text p).1.toArray⟩, .int .i64 ((W.step text p).2.1 : Int)]) ∧
      ∃ h', RIs (W.step text p).2.2 rb h' ∧ Own.Turn h h' w w' := by
  have hpm := e.part_may p hp
  have hkw := (e.part_kind p hp).1
  have hkc := (e.part_kind p hp).2
  have hkb := e.part_begin p hp
  have hsm := e.part_small p hp hs0
  have HM := Lib.hid (fun u => may_any e u)
  rw [hp, Option.isSome_some] at HM
  have hbd : W.bad p = false := by unfold Wr.bad; rw [h0]; simp [Box.between, hr]
  have hah : W.ahead = [58] := by unfold Wr.ahead; rw [h0]; simp [Box.ahead, Box.between, hr]
  have hbu : W.bumped = L ++ [⟨true, kk + 1⟩] := by unfold Wr.bumped; rw [h0]; simp
  have hX0 : W.step text p = (W.ahead ++ [91], 0, ⟨W.bumped ++ [⟨false, 0⟩], false⟩) := by subst hpe; exact Wr.step_begin text W false cnt0 hpm hd hbd
  rw [hah, hbu] at hX0
  have hX := Lib.hid hX0
  obtain ⟨k, y, m, t, cnt⟩ := e
  simp only [Evt.val, Evt.cells] at *
  have h7 : (k == 7) = false := by rw [hc] at hkc; simpa using hkc.symm
  obtain ⟨h5, h6⟩ := hkb
  rw [hpe] at h5 h6
  simp only [Part.isBegin, Part.own] at h5 h6
  have h5' : (k == 5) = true := h5.trans (by decide)
  have h6' : (k == 6) = false := h6.trans (by decide)
  obtain rfl : k = 5 := by simpa using h5'
  clear h5 h6 h5' h6' h7
  have hI := Lib.hid hi
  obtain ⟨ls, q, b, ms, spare, hls, hll, rfl, hsl, hm⟩ := hi.last L _ h0
  rw [hd] at hw hI ⊢
  obtain ⟨N, hN⟩ : ∃ N, N = L.length := ⟨_, rfl⟩
  have hN1 : N < 100000 := by have := hf.deep; rw [h0] at this; simp at this; omega
  have hk1 : kk ≤ 100000 := by have := hf.parts _ (by rw [h0]; simp : (⟨true, kk⟩ : Box) ∈ W.opened); simpa using (Nat.le_trans this hn)
  rw [← hN] at hw hI hm hll ⊢
  have HN := Lib.hid hN
  have Hls := Lib.hid hls
  have hrl0 := rcells_length ls
  rw [hll] at hrl0
  have hrl := Lib.hid hrl0
  have ta := (Own.Turn.refl hw).alloc (.cells #[.int .i64 5, .bool y, .int .u64 (m : Int), .string t, .int .i64 cnt] 34)
  have t0 := Lib.hid (show Own.Turn (Own.row rb 31 [.int .i64 1, .slice (some ⟨b, 0, none⟩) (N + 1) (N + 1 + ms), .bool false] :: [Own.row b 75 (rcells ls ++ ([.bool true, .int .i64 q, .int .i64 ((kk : Nat) : Int)] ++ spare))]) (Own.row w.heap.size 34 [.int .i64 5, .bool y, .int .u64 (m : Int), .string t, .int .i64 cnt] :: Own.row rb 31 [.int .i64 1, .slice (some ⟨b, 0, none⟩) (N + 1) (N + 1 + ms), .bool false] :: [Own.row b 75 (rcells ls ++ ([.bool true, .int .i64 q, .int .i64 ((kk : Nat) : Int)] ++ spare))]) w (w.alloc (.cells #[.int .i64 5, .bool y, .int .u64 (m : Int), .string t, .int .i64 cnt] 34)) from ta)
  have c0 := ta.has.cell rb _ _ (List.mem_cons_of_mem _ (List.mem_cons_self ..)) 1 _ rfl
  clear hw ta hd hp hc hkw hkc hpm hs0 hsm hbd h0 hah hbu hX0 hN hls hll hrl0 hi hf
  have hkp' : (0 : Int) < (kk : Int) := by have : kk ≠ 0 := (by rintro rfl; simp at hr); omega
  have m1 := mod2 kk
  have m2 := mod2' kk
  rw [hr] at m1 m2
  clear hr
  go_enter Tryd.func12, Tryd.ntmps12
  go_wp2_with (fail)
  refine (HM.out _).mono ?_
  rintro r W1 ⟨rfl, b1⟩
  have T1 := Lib.hid (t0.out.trans (Own.Turn.of_below t0.out.has b1))
  have c0 := T1.out.has.cell rb _ _ (List.mem_cons_of_mem _ (List.mem_cons_self ..)) 0 _ rfl
  have c2 := T1.out.has.cell rb _ _ (List.mem_cons_of_mem _ (List.mem_cons_self ..)) 2 _ rfl
  have c1 := T1.out.has.cell rb _ _ (List.mem_cons_of_mem _ (List.mem_cons_self ..)) 1 _ rfl
  have x0 := T1.out.has.cell w.heap.size _ [.int .i64 5, .bool y, .int .u64 (m : Int), .string t, .int .i64 cnt] (List.mem_cons_self ..) 0 _ rfl
  have x1 := T1.out.has.cell w.heap.size _ [.int .i64 5, .bool y, .int .u64 (m : Int), .string t, .int .i64 cnt] (List.mem_cons_self ..) 1 _ rfl
  have x2 := T1.out.has.cell w.heap.size _ [.int .i64 5, .bool y, .int .u64 (m : Int), .string t, .int .i64 cnt] (List.mem_cons_self ..) 2 _ rfl
  have x3 := T1.out.has.cell w.heap.size _ [.int .i64 5, .bool y, .int .u64 (m : Int), .string t, .int .i64 cnt] (List.mem_cons_self ..) 3 _ rfl
  have x4 := T1.out.has.cell w.heap.size _ [.int .i64 5, .bool y, .int .u64 (m : Int), .string t, .int .i64 cnt] (List.mem_cons_self ..) 4 _ rfl
  have c0a := fun o => (T1.out.litter o).has.cell rb _ _ (List.mem_cons_of_mem _ (List.mem_cons_self ..)) 0 _ rfl
  have c1a := fun o => (T1.out.litter o).has.cell rb _ _ (List.mem_cons_of_mem _ (List.mem_cons_self ..)) 1 _ rfl
  have x0a := fun o => (T1.out.litter o).has.cell w.heap.size _ [.int .i64 5, .bool y, .int .u64 (m : Int), .string t, .int .i64 cnt] (List.mem_cons_self ..) 0 _ rfl
  have x1a := fun o => (T1.out.litter o).has.cell w.heap.size _ [.int .i64 5, .bool y, .int .u64 (m : Int), .string t, .int .i64 cnt] (List.mem_cons_self ..) 1 _ rfl
  have x2a := fun o => (T1.out.litter o).has.cell w.heap.size _ [.int .i64 5, .bool y, .int .u64 (m : Int), .string t, .int .i64 cnt] (List.mem_cons_self ..) 2 _ rfl
  have x3a := fun o => (T1.out.litter o).has.cell w.heap.size _ [.int .i64 5, .bool y, .int .u64 (m : Int), .string t, .int .i64 cnt] (List.mem_cons_self ..) 3 _ rfl
  have x4a := fun o => (T1.out.litter o).has.cell w.heap.size _ [.int .i64 5, .bool y, .int .u64 (m : Int), .string t, .int .i64 cnt] (List.mem_cons_self ..) 4 _ rfl
  have f1a := fun o => (T1.out.litter o).has.free rb _ _ (List.mem_cons_of_mem _ (List.mem_cons_self ..)) 1
  have e0 := T1.out.has.cell b _ _ (List.mem_cons_of_mem _ (List.mem_cons_of_mem _ (List.mem_cons_self ..))) (N * 3) (.bool true) (by rw [← hrl.out, List.getElem?_append_right (by omega)]; simp)
  have e1 := T1.out.has.cell b _ _ (List.mem_cons_of_mem _ (List.mem_cons_of_mem _ (List.mem_cons_self ..))) (N * 3 + 1) (.int .i64 q) (by rw [← hrl.out, List.getElem?_append_right (by omega)]; simp)
  have e2 := T1.out.has.cell b _ _ (List.mem_cons_of_mem _ (List.mem_cons_of_mem _ (List.mem_cons_self ..))) (N * 3 + 2) (.int .i64 ((kk : Nat) : Int)) (by rw [← hrl.out, List.getElem?_append_right (by omega)]; simp)
  obtain ⟨i0, hi0, hz0, hz1, hz2⟩ := info_parts (P := Tryd.prog) (e := 75) (z := .agg #[.bool false, .int .i64 0, .int .i64 0]) (size := 3) (bytes := 24) (by kernel_rfl)
  have Hi := Lib.hid (And.intro hi0 (And.intro hz0 (And.intro hz1 hz2)))
  have hv0 := Own.Slk.row (k := 3) (e := 75) (n := N + 1) (xs := rcells ls ++ [.bool true, .int .i64 q, .int .i64 ((kk : Nat) : Int)]) b ms spare (by rw [List.length_append, hrl.out]; simp; omega) hsl hm
  rw [List.append_assoc] at hv0
  have hv := Lib.hid hv0
  have h1c := Lib.hid (show ∀ u ∈ (rcells ls ++ [.bool true, .int .i64 q, .int .i64 ((kk : Nat) : Int)] : List Value), u.oneCell' = true by
    intro u hu
    rcases List.mem_append.1 hu with hu | hu
    · exact rcells_one ls u hu
    · simp only [List.mem_cons, List.not_mem_nil, or_false] at hu; rcases hu with rfl | rfl | rfl <;> rfl)
  have Hm := Lib.hid hm
  clear hi0 hz0 hz1 hz2 hv0 hsl hm
  have T3 := Lib.hid (T1.out.litter (.cells #[.bool true, .int .i64 q, .int .i64 ((kk : Nat) : Int)] 75))
  go_wp2_with (at_builtin; go_loud (refine Own.wpList_append_copy rfl _ 29 rfl 75 i0 (.agg #[.bool false, .int .i64 0, .int .i64 0]) 3 24 Tryd.underlying29 Hi.out.1 Hi.out.2.1 Hi.out.2.2.1 Hi.out.2.2.2 rfl (.slice (some ⟨b, 0, none⟩) (N + 1) (N + 1 + ms)) (N + 1) (rcells ls ++ [.bool true, .int .i64 q, .int .i64 ((kk : Nat) : Int)]) _ rfl hv.out (Own.Has.right (a := [_, _]) T3.out.has) h1c.out ?cb ?_))
  case cb => omega
  intro ad' c' h' W3 hs' ht'
  have T4 := T3.out.trans (ht'.behind (r := [_, _]) T3.out.has)
  obtain ⟨b', m', sp', e1', rfl, hsp', hm'⟩ := hs'.at_ (by omega)
  injection e1' with e2' _ e3'
  subst e2' e3'
  have HSP := Lib.hid (And.intro hsp' hm')
  have hnd := T4.has.once
  have hne1 : ¬ rb = b' := by intro h; simp [Own.blocks, h] at hnd
  have hne2 : ¬ b' = rb := fun h => hne1 h.symm
  have hne3 : ¬ w.heap.size = b' := by intro h; simp [Own.blocks, h] at hnd
  have hne4 : ¬ w.heap.size = rb := by intro h; simp [Own.blocks, h] at hnd
  have d1 := T4.has.cell rb _ _ (List.mem_cons_of_mem _ (List.mem_cons_self ..)) 1 _ rfl
  have g1 := T4.has.free rb _ _ (List.mem_cons_of_mem _ (List.mem_cons_self ..)) 1
  have d0 := T4.has.cell w.heap.size _ [.int .i64 5, .bool y, .int .u64 (m : Int), .string t, .int .i64 cnt] (List.mem_cons_self ..) 0 _ rfl
  have d4 := T4.has.cell w.heap.size _ [.int .i64 5, .bool y, .int .u64 (m : Int), .string t, .int .i64 cnt] (List.mem_cons_self ..) 4 _ rfl
  have d2 := T4.has.cell b' _ _ (List.mem_cons_of_mem _ (List.mem_cons_of_mem _ (List.mem_cons_self ..))) (N * 3 + 2) (.int .i64 ((kk : Nat) : Int)) (by rw [List.append_assoc, ← hrl.out, List.getElem?_append_right (by omega)]; simp)
  have g2 := T4.has.free b' _ _ (List.mem_cons_of_mem _ (List.mem_cons_of_mem _ (List.mem_cons_self ..))) (N * 3 + 2)
  have hset : ((rcells ls ++ [.bool true, .int .i64 q, .int .i64 ((kk : Nat) : Int)] : List Value) ++ sp').set (N * 3 + 2) (.int .i64 ((kk : Int) + 1)) = rcells (ls ++ [RBox.mk ⟨true, kk + 1⟩ q]) ++ sp' := by
   rw [List.append_assoc, ← hrl.out, List.set_append_right _ _ (by omega), rcells_append]
   simp [rcells]
  have T5a := ((T4.setAt [_] 1 (.slice (some ⟨b', 0, none⟩) (N + 1) (N + 1 + m')) (by simp)).setAt [_, _] (N * 3 + 2) (.int .i64 ((kk : Int) + 1)) (by first | (simp [hrl.out]; done) | (simp [hrl.out]; omega)))
  rw [hset] at T5a
  have T5 := Lib.hid (show Own.Turn (Own.row rb 31 [.int .i64 1, .slice (some ⟨b, 0, none⟩) (N + 1) (N + 1 + ms), .bool false] :: [Own.row b 75 (rcells ls ++ ([.bool true, .int .i64 q, .int .i64 ((kk : Nat) : Int)] ++ spare))]) (Own.row w.heap.size 34 [.int .i64 5, .bool y, .int .u64 (m : Int), .string t, .int .i64 cnt] :: Own.row rb 31 [.int .i64 1, .slice (some ⟨b', 0, none⟩) (N + 1) (N + 1 + m'), .bool false] :: [Own.row b' 75 (rcells (ls ++ [RBox.mk ⟨true, kk + 1⟩ q]) ++ sp')]) w _ from T5a.drop (b := [_, _, _]) (c := [_]))
  have HSk := Lib.hid (Own.Slk.row (k := 3) (e := 75) (n := N + 1) (xs := rcells (ls ++ [RBox.mk ⟨true, kk + 1⟩ q])) b' m' sp' (by rw [rcells_append, List.length_append, hrl.out]; simp [rcells]; omega) HSP.out.1 HSP.out.2)
  have HLen := Lib.hid (show (L ++ [(⟨true, kk + 1⟩ : Box)]).length = N + 1 by rw [List.length_append, ← HN.out]; rfl)
  have HMap := Lib.hid (show (ls ++ [RBox.mk ⟨true, kk + 1⟩ q]).map RBox.box = L ++ [⟨true, kk + 1⟩] by rw [List.map_append, Hls.out]; rfl)
  clear T5a hset T4 hnd hs' ht' hsp' hm'
  go_wp2_with (fail)
  refine region70 (mv := false) (n := N + 1) (lb := ls ++ [RBox.mk ⟨true, kk + 1⟩ q]) rfl (by omega) T5.out HSk.out _ _ _ _ _ _ _ _ _ _ _ _ _ _ _ _ _ _ _ _ _ _ _ _ _ _ _ _ _ _ _ _ _ _ _ _ _ _ _ _ _ _ _ _ _ _ _ _ _ _ _ _ _ _ _ _ _ _ _ _ _ _ _ _ _ _ _ _ _ _ _ _ _ _ _ _ _ _ _ _ _ _ _ _ _ _ _ _ _ _ _ _ _ _ _ _ _ _ _ _ _ _ _ _ _ _ _ _ _ _ _ _ _ _ _ _ _ _ _ _ _ _ _ _ _ _ _ _ _ _ _ _ _ _ _ _ _ _ _ _ _ _ _ _ _ _ _ _ _ _ _ _ _ _ _ _ _ _ _ _ _ _ _ _ _ _ _ _ _ _ _ _ _ _ _ _ _ _ _ _ _ _ _ _ _ _ _ _ _ _ _ _ _ _ _ _ _ _ _ _ _ _ _ _ _ _ _ _ _ _ _ _ _ _ _ _ _ _ _ _ _ _ _ _ _ _ _ _ _ _ _ _ _ _ _ _ _ _ _ _ _ _ _ _ _ _ _ _ _ _ _ _ _ _ _ _ _ _ _ _ _ _ _ _ _ _ _ _ _ _ _ _ _ _ _ _ _ _ _ _ _ _ _ _ _ _ _ _ _ _ _ _ _ _ _ _ _ _ _ _ _ _ _ _ _ _ _ _ _ _ _ _ _ _ _ _ _ _ _ _ _ _ _ _ _ _ _ _ _ _ _ _ _ _ _ _ _ _ _ _ _ _ _ _ _ _ _ _ _ _ _ _ _ _ _ _ _ _ _ _ _ _ _ _ _ _ _ _ ?_
  intro v350 v351 v352 v353 v354 v355 v356 v357 v358 v359 v360 v361 v362 v363 v364 v365 ad2 c2' h2 w2 s2 TE0
  have TE := Lib.hid TE0
  have S2 := Lib.hid s2
  have v0 := TE.out.has.cell w.heap.size _ [.int .i64 5, .bool y, .int .u64 (m : Int), .string t, .int .i64 cnt] (List.mem_append_right _ (List.mem_cons_self ..)) 0 _ rfl
  clear TE0 s2
  go_wp2
  go_ret2
  rw [hX.out]
  refine ⟨by first | rfl | simp, _, ⟨(ls ++ [RBox.mk ⟨true, kk + 1⟩ q]) ++ [RBox.mk ⟨false, 0⟩ cnt], .slice ad2 (N + 1 + 1) c2', h2, ?_, rfl, ?_⟩, ?_⟩
  · rw [List.map_append, HMap.out]; rfl
  · show Own.Slk 3 _ ((L ++ [(⟨true, kk + 1⟩ : Box)]) ++ [(⟨false, 0⟩ : Box)]).length _ _ _
    rw [List.length_append, HLen.out, rcells_append]
    exact S2.out
  · have TF := (TE.out.perm (.refl _) (Own.perm_of_count _ ([Own.row rb 31 [.int .i64 1, .slice (some ⟨b', 0, none⟩) (N + 1) (N + 1 + m'), .bool false]] ++ (h2 ++ ([Own.row w.heap.size 34 [.int .i64 5, .bool y, .int .u64 (m : Int), .string t, .int .i64 cnt]] ++ [Own.row b' 75 (rcells (ls ++ [RBox.mk ⟨true, kk + 1⟩ q]) ++ sp')]))) fun x => by simp only [List.count_append, List.count_cons, List.count_nil]; omega)).set 1 (.slice ad2 (N + 1 + 1) c2') (by simp)
    exact TF.drop (b := _ :: h2) (c := [_] ++ [_])

set_option maxRecDepth 100000 in
set_option maxHeartbeats 4000000 in
theorem rstep_T0_plain {W : Wr} {rb n : Nat} {h : Own.Heap} {w : World} (hi : RIs W rb h) (hw : Own.Has w h) (hf : W.Fits n) (hn : n ≤ 100000) (e : Evt) (hs0 : e.small) (p : Part) (hp : e.part = some p) (hc : p.isClose = false) (hd : W.done = false)
    (L : List Box) (h0 : W.opened = L ++ [⟨true, 0⟩]) (hiw : p.isWord = true) (hg : p.isBegin = false) :
    Calls Tryd.prog 12 #[.pointer (some ⟨rb, 0, none⟩), e.val] w fun r w' => r = .returned (.tuple #[.string ⟨(W.step text p).1.toArray⟩, .int .i64 ((W.step text p).2.1 : Int)]) ∧
      ∃ h', RIs (W.step text p).2.2 rb h' ∧ Own.Turn h h' w w' := by
  have hpm := e.part_may p hp
  have hkw := (e.part_kind p hp).1
  have hkc := (e.part_kind p hp).2
  have hkb := e.part_begin p hp
  have hsm := e.part_small p hp hs0
  have HM := Lib.hid (fun u => may_any e u)
  rw [hp, Option.isSome_some] at HM
  have HPl := Lib.hid (fun u => refPlain_any e p hp hc hg hs0 u)
  have hbd : W.bad p = false := by unfold Wr.bad; rw [h0]; simp [Box.between, hiw]
  have hah : W.ahead = [] := by unfold Wr.ahead; rw [h0]; simp [Box.ahead, Box.between]
  have hbu : W.bumped = L ++ [⟨true, 0 + 1⟩] := by unfold Wr.bumped; rw [h0]; simp
  have hX0 := Wr.step_plain text W p hpm hc hg hd hbd
  rw [hah, hbu, show decide (W.opened.length = 0) = false by rw [h0]; simp] at hX0
  have hX := Lib.hid hX0
  obtain ⟨k, y, m, t, cnt⟩ := e
  simp only [Evt.val, Evt.cells] at *
  have h7 : (k == 7) = false := by rw [hc] at hkc; simpa using hkc.symm
  have h3 : (k != 3) = !p.isWord := by rw [hkw]; rcases Decidable.em (k = 3) with h | h <;> simp [h]
  rw [hiw] at h3
  obtain ⟨h5, h6⟩ := hkb
  rw [hg] at h5 h6
  simp only [Bool.false_and] at h5 h6
  have hI := Lib.hid hi
  obtain ⟨ls, q, b, ms, spare, hls, hll, rfl, hsl, hm⟩ := hi.last L _ h0
  rw [hd] at hw hI ⊢
  obtain ⟨N, hN⟩ : ∃ N, N = L.length := ⟨_, rfl⟩
  have hN1 : N < 100000 := by have := hf.deep; rw [h0] at this; simp at this; omega
  rw [← hN] at hw hI hm hll ⊢
  have HN := Lib.hid hN
  have Hls := Lib.hid hls
  have hrl0 := rcells_length ls
  rw [hll] at hrl0
  have hrl := Lib.hid hrl0
  have ta := (Own.Turn.refl hw).alloc (.cells #[.int .i64 k, .bool y, .int .u64 (m : Int), .string t, .int .i64 cnt] 34)
  have t0 := Lib.hid (show Own.Turn (Own.row rb 31 [.int .i64 1, .slice (some ⟨b, 0, none⟩) (N + 1) (N + 1 + ms), .bool false] :: [Own.row b 75 (rcells ls ++ ([.bool true, .int .i64 q, .int .i64 0] ++ spare))]) (Own.row w.heap.size 34 [.int .i64 k, .bool y, .int .u64 (m : Int), .string t, .int .i64 cnt] :: Own.row rb 31 [.int .i64 1, .slice (some ⟨b, 0, none⟩) (N + 1) (N + 1 + ms), .bool false] :: [Own.row b 75 (rcells ls ++ ([.bool true, .int .i64 q, .int .i64 0] ++ spare))]) w (w.alloc (.cells #[.int .i64 k, .bool y, .int .u64 (m : Int), .string t, .int .i64 cnt] 34)) from ta)
  have c0 := ta.has.cell rb _ _ (List.mem_cons_of_mem _ (List.mem_cons_self ..)) 1 _ rfl
  have Hsm := text_len p hsm
  generalize hS5 : (⟨(text p).toArray⟩ : ByteArray) = S5 at HPl
  have hS5s : S5.size ≤ 6010 := by rw [← hS5]; exact Hsm
  have hfin := Lib.hid hS5
  clear Hsm hS5
  clear hw ta hd hp hc hkw hkc hpm hs0 hsm hbd h0 hah hbu hX0 hN hls hll hrl0 hi hf hiw hg
  go_enter Tryd.func12, Tryd.ntmps12
  go_wp2_with (fail)
  refine (HM.out _).mono ?_
  rintro r W1 ⟨rfl, b1⟩
  have T1 := Lib.hid (t0.out.trans (Own.Turn.of_below t0.out.has b1))
  have c0 := T1.out.has.cell rb _ _ (List.mem_cons_of_mem _ (List.mem_cons_self ..)) 0 _ rfl
  have c2 := T1.out.has.cell rb _ _ (List.mem_cons_of_mem _ (List.mem_cons_self ..)) 2 _ rfl
  have c1 := T1.out.has.cell rb _ _ (List.mem_cons_of_mem _ (List.mem_cons_self ..)) 1 _ rfl
  have x0 := T1.out.has.cell w.heap.size _ [.int .i64 k, .bool y, .int .u64 (m : Int), .string t, .int .i64 cnt] (List.mem_cons_self ..) 0 _ rfl
  have x1 := T1.out.has.cell w.heap.size _ [.int .i64 k, .bool y, .int .u64 (m : Int), .string t, .int .i64 cnt] (List.mem_cons_self ..) 1 _ rfl
  have x2 := T1.out.has.cell w.heap.size _ [.int .i64 k, .bool y, .int .u64 (m : Int), .string t, .int .i64 cnt] (List.mem_cons_self ..) 2 _ rfl
  have x3 := T1.out.has.cell w.heap.size _ [.int .i64 k, .bool y, .int .u64 (m : Int), .string t, .int .i64 cnt] (List.mem_cons_self ..) 3 _ rfl
  have x4 := T1.out.has.cell w.heap.size _ [.int .i64 k, .bool y, .int .u64 (m : Int), .string t, .int .i64 cnt] (List.mem_cons_self ..) 4 _ rfl
  have c0a := fun o => (T1.out.litter o).has.cell rb _ _ (List.mem_cons_of_mem _ (List.mem_cons_self ..)) 0 _ rfl
  have c1a := fun o => (T1.out.litter o).has.cell rb _ _ (List.mem_cons_of_mem _ (List.mem_cons_self ..)) 1 _ rfl
  have x0a := fun o => (T1.out.litter o).has.cell w.heap.size _ [.int .i64 k, .bool y, .int .u64 (m : Int), .string t, .int .i64 cnt] (List.mem_cons_self ..) 0 _ rfl
  have x1a := fun o => (T1.out.litter o).has.cell w.heap.size _ [.int .i64 k, .bool y, .int .u64 (m : Int), .string t, .int .i64 cnt] (List.mem_cons_self ..) 1 _ rfl
  have x2a := fun o => (T1.out.litter o).has.cell w.heap.size _ [.int .i64 k, .bool y, .int .u64 (m : Int), .string t, .int .i64 cnt] (List.mem_cons_self ..) 2 _ rfl
  have x3a := fun o => (T1.out.litter o).has.cell w.heap.size _ [.int .i64 k, .bool y, .int .u64 (m : Int), .string t, .int .i64 cnt] (List.mem_cons_self ..) 3 _ rfl
  have x4a := fun o => (T1.out.litter o).has.cell w.heap.size _ [.int .i64 k, .bool y, .int .u64 (m : Int), .string t, .int .i64 cnt] (List.mem_cons_self ..) 4 _ rfl
  have f1a := fun o => (T1.out.litter o).has.free rb _ _ (List.mem_cons_of_mem _ (List.mem_cons_self ..)) 1
  have e0 := T1.out.has.cell b _ _ (List.mem_cons_of_mem _ (List.mem_cons_of_mem _ (List.mem_cons_self ..))) (N * 3) (.bool true) (by rw [← hrl.out, List.getElem?_append_right (by omega)]; simp)
  have e1 := T1.out.has.cell b _ _ (List.mem_cons_of_mem _ (List.mem_cons_of_mem _ (List.mem_cons_self ..))) (N * 3 + 1) (.int .i64 q) (by rw [← hrl.out, List.getElem?_append_right (by omega)]; simp)
  have e2 := T1.out.has.cell b _ _ (List.mem_cons_of_mem _ (List.mem_cons_of_mem _ (List.mem_cons_self ..))) (N * 3 + 2) (.int .i64 0) (by rw [← hrl.out, List.getElem?_append_right (by omega)]; simp)
  obtain ⟨i0, hi0, hz0, hz1, hz2⟩ := info_parts (P := Tryd.prog) (e := 75) (z := .agg #[.bool false, .int .i64 0, .int .i64 0]) (size := 3) (bytes := 24) (by kernel_rfl)
  have Hi := Lib.hid (And.intro hi0 (And.intro hz0 (And.intro hz1 hz2)))
  have hv0 := Own.Slk.row (k := 3) (e := 75) (n := N + 1) (xs := rcells ls ++ [.bool true, .int .i64 q, .int .i64 0]) b ms spare (by rw [List.length_append, hrl.out]; simp; omega) hsl hm
  rw [List.append_assoc] at hv0
  have hv := Lib.hid hv0
  have h1c := Lib.hid (show ∀ u ∈ (rcells ls ++ [.bool true, .int .i64 q, .int .i64 0] : List Value), u.oneCell' = true by
    intro u hu
    rcases List.mem_append.1 hu with hu | hu
    · exact rcells_one ls u hu
    · simp only [List.mem_cons, List.not_mem_nil, or_false] at hu; rcases hu with rfl | rfl | rfl <;> rfl)
  have Hm := Lib.hid hm
  clear hi0 hz0 hz1 hz2 hv0 hsl hm
  go_upto_region 61 with (fail)
  go_region_with (go_at_call 28; refine (HPl.out _).mono ?_; rintro r W2 ⟨rfl, b2⟩)
  all_goals
    have T2a := (T1.out.litter (.cells #[.bool true, .int .i64 q, .int .i64 0] 75)).drew
    have T2 := Lib.hid (T2a.trans (Own.Turn.of_below T2a.has b2))
    have T3 := Lib.hid (T2.out.setAt [_] 2 (.bool false) (by simp))
    have a1 := T2.out.has.cell rb _ _ (List.mem_cons_of_mem _ (List.mem_cons_self ..)) 1 _ rfl
    have a2 := T2.out.has.cell rb _ _ (List.mem_cons_of_mem _ (List.mem_cons_self ..)) 2 _ rfl
    have af2 := T2.out.has.free rb _ _ (List.mem_cons_of_mem _ (List.mem_cons_self ..)) 2
    clear T2a
    go_wp2_with (at_builtin; go_loud (refine Own.wpList_append_copy rfl _ 29 rfl 75 i0 (.agg #[.bool false, .int .i64 0, .int .i64 0]) 3 24 Tryd.underlying29 Hi.out.1 Hi.out.2.1 Hi.out.2.2.1 Hi.out.2.2.2 rfl (.slice (some ⟨b, 0, none⟩) (N + 1) (N + 1 + ms)) (N + 1) (rcells ls ++ [.bool true, .int .i64 q, .int .i64 0]) _ rfl hv.out (Own.Has.right (a := [_, _]) T3.out.has) h1c.out ?cb ?_))
    case cb => omega
    intro ad' c' h' W3 hs' ht'
    have T4 := T3.out.trans (ht'.behind (r := [_, _]) T3.out.has)
    obtain ⟨b', m', sp', e1', rfl, hsp', hm'⟩ := hs'.at_ (by omega)
    injection e1' with e2' _ e3'
    subst e2' e3'
    have HSP := Lib.hid (And.intro hsp' hm')
    have hnd := T4.has.once
    have hne1 : ¬ rb = b' := by intro h; simp [Own.blocks, h] at hnd
    have hne2 : ¬ b' = rb := fun h => hne1 h.symm
    have hne3 : ¬ w.heap.size = b' := by intro h; simp [Own.blocks, h] at hnd
    have hne4 : ¬ w.heap.size = rb := by intro h; simp [Own.blocks, h] at hnd
    have d1 := T4.has.cell rb _ _ (List.mem_cons_of_mem _ (List.mem_cons_self ..)) 1 _ rfl
    have g1 := T4.has.free rb _ _ (List.mem_cons_of_mem _ (List.mem_cons_self ..)) 1
    have d0 := T4.has.cell w.heap.size _ [.int .i64 k, .bool y, .int .u64 (m : Int), .string t, .int .i64 cnt] (List.mem_cons_self ..) 0 _ rfl
    have d4 := T4.has.cell w.heap.size _ [.int .i64 k, .bool y, .int .u64 (m : Int), .string t, .int .i64 cnt] (List.mem_cons_self ..) 4 _ rfl
    have d2 := T4.has.cell b' _ _ (List.mem_cons_of_mem _ (List.mem_cons_of_mem _ (List.mem_cons_self ..))) (N * 3 + 2) (.int .i64 0) (by rw [List.append_assoc, ← hrl.out, List.getElem?_append_right (by omega)]; simp)
    have g2 := T4.has.free b' _ _ (List.mem_cons_of_mem _ (List.mem_cons_of_mem _ (List.mem_cons_self ..))) (N * 3 + 2)
    have hset : ((rcells ls ++ [.bool true, .int .i64 q, .int .i64 0] : List Value) ++ sp').set (N * 3 + 2) (.int .i64 (1 : Int)) = rcells (ls ++ [RBox.mk ⟨true, 0 + 1⟩ q]) ++ sp' := by
     rw [List.append_assoc, ← hrl.out, List.set_append_right _ _ (by omega), rcells_append]
     simp [rcells]
    have T5a := ((T4.setAt [_] 1 (.slice (some ⟨b', 0, none⟩) (N + 1) (N + 1 + m')) (by simp)).setAt [_, _] (N * 3 + 2) (.int .i64 (1 : Int)) (by first | (simp [hrl.out]; done) | (simp [hrl.out]; omega)))
    rw [hset] at T5a
    have T5 := Lib.hid (show Own.Turn (Own.row rb 31 [.int .i64 1, .slice (some ⟨b, 0, none⟩) (N + 1) (N + 1 + ms), .bool false] :: [Own.row b 75 (rcells ls ++ ([.bool true, .int .i64 q, .int .i64 0] ++ spare))]) (Own.row w.heap.size 34 [.int .i64 k, .bool y, .int .u64 (m : Int), .string t, .int .i64 cnt] :: Own.row rb 31 [.int .i64 1, .slice (some ⟨b', 0, none⟩) (N + 1) (N + 1 + m'), .bool false] :: [Own.row b' 75 (rcells (ls ++ [RBox.mk ⟨true, 0 + 1⟩ q]) ++ sp')]) w _ from T5a.drop (b := [_, _, _]) (c := [_]))
    have HSk := Lib.hid (Own.Slk.row (k := 3) (e := 75) (n := N + 1) (xs := rcells (ls ++ [RBox.mk ⟨true, 0 + 1⟩ q])) b' m' sp' (by rw [rcells_append, List.length_append, hrl.out]; simp [rcells]; omega) HSP.out.1 HSP.out.2)
    have HLen := Lib.hid (show (L ++ [(⟨true, 0 + 1⟩ : Box)]).length = N + 1 by rw [List.length_append, ← HN.out]; rfl)
    have HMap := Lib.hid (show (ls ++ [RBox.mk ⟨true, 0 + 1⟩ q]).map RBox.box = L ++ [⟨true, 0 + 1⟩] by rw [List.map_append, Hls.out]; rfl)
    clear T5a hset T4 hnd hs' ht' hsp' hm'
    go_wp2
    go_ret2
    rw [hX.out]
    refine ⟨?_, _, ⟨ls ++ [RBox.mk ⟨true, 0 + 1⟩ q], .slice (some ⟨b', 0, none⟩) (N + 1) (N + 1 + m'), [Own.row b' 75 (rcells (ls ++ [RBox.mk ⟨true, 0 + 1⟩ q]) ++ sp')], HMap.out, rfl, ?_⟩, T5.out.forget (b := [_])⟩
    · rw [← hfin.out]
      first
        | exact congrArg (fun x => Ending.returned (.tuple #[.string x, .int .i64 0])) (cat2 [] (text p))
        | rfl
        | simp
    · show Own.Slk 3 _ (L ++ [(⟨true, 0 + 1⟩ : Box)]).length _ _ _
      rw [HLen.out]
      exact HSk.out

set_option maxRecDepth 100000 in
set_option maxHeartbeats 4000000 in
theorem rstep_TP_plain {W : Wr} {rb n : Nat} {h : Own.Heap} {w : World} (hi : RIs W rb h) (hw : Own.Has w h) (hf : W.Fits n) (hn : n ≤ 100000) (e : Evt) (hs0 : e.small) (p : Part) (hp : e.part = some p) (hc : p.isClose = false) (hd : W.done = false)
    (L : List Box) (kk : Nat) (hkp : 0 < kk) (hr : kk % 2 = 0) (h0 : W.opened = L ++ [⟨true, kk⟩]) (hiw : p.isWord = true) (hg : p.isBegin = false) :
    Calls Tryd.prog 12 #[.pointer (some ⟨rb, 0, none⟩), e.val] w fun r w' => r = .returned (.tuple #[.string ⟨(W.step text p).1.toArray⟩, .int .i64 ((W.step text p).2.1 : Int)]) ∧
      ∃ h', RIs (W.step text p).2.2 rb h' ∧ Own.Turn h h' w w' := by
  have hpm := e.part_may p hp
  have hkw := (e.part_kind p hp).1
  have hkc := (e.part_kind p hp).2
  have hkb := e.part_begin p hp
  have hsm := e.part_small p hp hs0
  have HM := Lib.hid (fun u => may_any e u)
  rw [hp, Option.isSome_some] at HM
  have HPl := Lib.hid (fun u => refPlain_any e p hp hc hg hs0 u)
  have hbd : W.bad p = false := by unfold Wr.bad; rw [h0]; simp [Box.between, hr, hiw]
  have hah : W.ahead = [44] := by unfold Wr.ahead; rw [h0]; simp [Box.ahead, Box.between, hkp, hr]
  have hbu : W.bumped = L ++ [⟨true, kk + 1⟩] := by unfold Wr.bumped; rw [h0]; simp
  have hX0 := Wr.step_plain text W p hpm hc hg hd hbd
  rw [hah, hbu, show decide (W.opened.length = 0) = false by rw [h0]; simp] at hX0
  have hX := Lib.hid hX0
  obtain ⟨k, y, m, t, cnt⟩ := e
  simp only [Evt.val, Evt.cells] at *
  have h7 : (k == 7) = false := by rw [hc] at hkc; simpa using hkc.symm
  have h3 : (k != 3) = !p.isWord := by rw [hkw]; rcases Decidable.em (k = 3) with h | h <;> simp [h]
  rw [hiw] at h3
  obtain ⟨h5, h6⟩ := hkb
  rw [hg] at h5 h6
  simp only [Bool.false_and] at h5 h6
  have hI := Lib.hid hi
  obtain ⟨ls, q, b, ms, spare, hls, hll, rfl, hsl, hm⟩ := hi.last L _ h0
  rw [hd] at hw hI ⊢
  obtain ⟨N, hN⟩ : ∃ N, N = L.length := ⟨_, rfl⟩
  have hN1 : N < 100000 := by have := hf.deep; rw [h0] at this; simp at this; omega
  have hk1 : kk ≤ 100000 := by have := hf.parts _ (by rw [h0]; simp : (⟨true, kk⟩ : Box) ∈ W.opened); simpa using (Nat.le_trans this hn)
  rw [← hN] at hw hI hm hll ⊢
  have HN := Lib.hid hN
  have Hls := Lib.hid hls
  have hrl0 := rcells_length ls
  rw [hll] at hrl0
  have hrl := Lib.hid hrl0
  have ta := (Own.Turn.refl hw).alloc (.cells #[.int .i64 k, .bool y, .int .u64 (m : Int), .string t, .int .i64 cnt] 34)
  have t0 := Lib.hid (show Own.Turn (Own.row rb 31 [.int .i64 1, .slice (some ⟨b, 0, none⟩) (N + 1) (N + 1 + ms), .bool false] :: [Own.row b 75 (rcells ls ++ ([.bool true, .int .i64 q, .int .i64 ((kk : Nat) : Int)] ++ spare))]) (Own.row w.heap.size 34 [.int .i64 k, .bool y, .int .u64 (m : Int), .string t, .int .i64 cnt] :: Own.row rb 31 [.int .i64 1, .slice (some ⟨b, 0, none⟩) (N + 1) (N + 1 + ms), .bool false] :: [Own.row b 75 (rcells ls ++ ([.bool true, .int .i64 q, .int .i64 ((kk : Nat) : Int)] ++ spare))]) w (w.alloc (.cells #[.int .i64 k, .bool y, .int .u64 (m : Int), .string t, .int .i64 cnt] 34)) from ta)
  have c0 := ta.has.cell rb _ _ (List.mem_cons_of_mem _ (List.mem_cons_self ..)) 1 _ rfl
  have Hsm := text_len p hsm
  generalize hS5 : (⟨(text p).toArray⟩ : ByteArray) = S5 at HPl
  have hS5s : S5.size ≤ 6010 := by rw [← hS5]; exact Hsm
  have hfin := Lib.hid hS5
  clear Hsm hS5
  clear hw ta hd hp hc hkw hkc hpm hs0 hsm hbd h0 hah hbu hX0 hN hls hll hrl0 hi hf hiw hg
  have hkp' : (0 : Int) < (kk : Int) := by omega
  have m1 := mod2 kk
  have m2 := mod2' kk
  rw [hr] at m1 m2
  clear hr
  go_enter Tryd.func12, Tryd.ntmps12
  go_wp2_with (fail)
  refine (HM.out _).mono ?_
  rintro r W1 ⟨rfl, b1⟩
  have T1 := Lib.hid (t0.out.trans (Own.Turn.of_below t0.out.has b1))
  have c0 := T1.out.has.cell rb _ _ (List.mem_cons_of_mem _ (List.mem_cons_self ..)) 0 _ rfl
  have c2 := T1.out.has.cell rb _ _ (List.mem_cons_of_mem _ (List.mem_cons_self ..)) 2 _ rfl
  have c1 := T1.out.has.cell rb _ _ (List.mem_cons_of_mem _ (List.mem_cons_self ..)) 1 _ rfl
  have x0 := T1.out.has.cell w.heap.size _ [.int .i64 k, .bool y, .int .u64 (m : Int), .string t, .int .i64 cnt] (List.mem_cons_self ..) 0 _ rfl
  have x1 := T1.out.has.cell w.heap.size _ [.int .i64 k, .bool y, .int .u64 (m : Int), .string t, .int .i64 cnt] (List.mem_cons_self ..) 1 _ rfl
  have x2 := T1.out.has.cell w.heap.size _ [.int .i64 k, .bool y, .int .u64 (m : Int), .string t, .int .i64 cnt] (List.mem_cons_self ..) 2 _ rfl
  have x3 := T1.out.has.cell w.heap.size _ [.int .i64 k, .bool y, .int .u64 (m : Int), .string t, .int .i64 cnt] (List.mem_cons_self ..) 3 _ rfl
  have x4 := T1.out.has.cell w.heap.size _ [.int .i64 k, .bool y, .int .u64 (m : Int), .string t, .int .i64 cnt] (List.mem_cons_self ..) 4 _ rfl
  have c0a := fun o => (T1.out.litter o).has.cell rb _ _ (List.mem_cons_of_mem _ (List.mem_cons_self ..)) 0 _ rfl
  have c1a := fun o => (T1.out.litter o).has.cell rb _ _ (List.mem_cons_of_mem _ (List.mem_cons_self ..)) 1 _ rfl
  have x0a := fun o => (T1.out.litter o).has.cell w.heap.size _ [.int .i64 k, .bool y, .int .u64 (m : Int), .string t, .int .i64 cnt] (List.mem_cons_self ..) 0 _ rfl
  have x1a := fun o => (T1.out.litter o).has.cell w.heap.size _ [.int .i64 k, .bool y, .int .u64 (m : Int), .string t, .int .i64 cnt] (List.mem_cons_self ..) 1 _ rfl
  have x2a := fun o => (T1.out.litter o).has.cell w.heap.size _ [.int .i64 k, .bool y, .int .u64 (m : Int), .string t, .int .i64 cnt] (List.mem_cons_self ..) 2 _ rfl
  have x3a := fun o => (T1.out.litter o).has.cell w.heap.size _ [.int .i64 k, .bool y, .int .u64 (m : Int), .string t, .int .i64 cnt] (List.mem_cons_self ..) 3 _ rfl
  have x4a := fun o => (T1.out.litter o).has.cell w.heap.size _ [.int .i64 k, .bool y, .int .u64 (m : Int), .string t, .int .i64 cnt] (List.mem_cons_self ..) 4 _ rfl
  have f1a := fun o => (T1.out.litter o).has.free rb _ _ (List.mem_cons_of_mem _ (List.mem_cons_self ..)) 1
  have e0 := T1.out.has.cell b _ _ (List.mem_cons_of_mem _ (List.mem_cons_of_mem _ (List.mem_cons_self ..))) (N * 3) (.bool true) (by rw [← hrl.out, List.getElem?_append_right (by omega)]; simp)
  have e1 := T1.out.has.cell b _ _ (List.mem_cons_of_mem _ (List.mem_cons_of_mem _ (List.mem_cons_self ..))) (N * 3 + 1) (.int .i64 q) (by rw [← hrl.out, List.getElem?_append_right (by omega)]; simp)
  have e2 := T1.out.has.cell b _ _ (List.mem_cons_of_mem _ (List.mem_cons_of_mem _ (List.mem_cons_self ..))) (N * 3 + 2) (.int .i64 ((kk : Nat) : Int)) (by rw [← hrl.out, List.getElem?_append_right (by omega)]; simp)
  obtain ⟨i0, hi0, hz0, hz1, hz2⟩ := info_parts (P := Tryd.prog) (e := 75) (z := .agg #[.bool false, .int .i64 0, .int .i64 0]) (size := 3) (bytes := 24) (by kernel_rfl)
  have Hi := Lib.hid (And.intro hi0 (And.intro hz0 (And.intro hz1 hz2)))
  have hv0 := Own.Slk.row (k := 3) (e := 75) (n := N + 1) (xs := rcells ls ++ [.bool true, .int .i64 q, .int .i64 ((kk : Nat) : Int)]) b ms spare (by rw [List.length_append, hrl.out]; simp; omega) hsl hm
  rw [List.append_assoc] at hv0
  have hv := Lib.hid hv0
  have h1c := Lib.hid (show ∀ u ∈ (rcells ls ++ [.bool true, .int .i64 q, .int .i64 ((kk : Nat) : Int)] : List Value), u.oneCell' = true by
    intro u hu
    rcases List.mem_append.1 hu with hu | hu
    · exact rcells_one ls u hu
    · simp only [List.mem_cons, List.not_mem_nil, or_false] at hu; rcases hu with rfl | rfl | rfl <;> rfl)
  have Hm := Lib.hid hm
  clear hi0 hz0 hz1 hz2 hv0 hsl hm
  go_upto_region 61 with (fail)
  go_region_with (go_at_call 28; refine (HPl.out _).mono ?_; rintro r W2 ⟨rfl, b2⟩)
  all_goals
    have T2a := (T1.out.litter (.cells #[.bool true, .int .i64 q, .int .i64 ((kk : Nat) : Int)] 75)).drew
    have T2 := Lib.hid (T2a.trans (Own.Turn.of_below T2a.has b2))
    have T3 := Lib.hid (T2.out.setAt [_] 2 (.bool false) (by simp))
    have a1 := T2.out.has.cell rb _ _ (List.mem_cons_of_mem _ (List.mem_cons_self ..)) 1 _ rfl
    have a2 := T2.out.has.cell rb _ _ (List.mem_cons_of_mem _ (List.mem_cons_self ..)) 2 _ rfl
    have af2 := T2.out.has.free rb _ _ (List.mem_cons_of_mem _ (List.mem_cons_self ..)) 2
    clear T2a
    go_wp2_with (at_builtin; go_loud (refine Own.wpList_append_copy rfl _ 29 rfl 75 i0 (.agg #[.bool false, .int .i64 0, .int .i64 0]) 3 24 Tryd.underlying29 Hi.out.1 Hi.out.2.1 Hi.out.2.2.1 Hi.out.2.2.2 rfl (.slice (some ⟨b, 0, none⟩) (N + 1) (N + 1 + ms)) (N + 1) (rcells ls ++ [.bool true, .int .i64 q, .int .i64 ((kk : Nat) : Int)]) _ rfl hv.out (Own.Has.right (a := [_, _]) T3.out.has) h1c.out ?cb ?_))
    case cb => omega
    intro ad' c' h' W3 hs' ht'
    have T4 := T3.out.trans (ht'.behind (r := [_, _]) T3.out.has)
    obtain ⟨b', m', sp', e1', rfl, hsp', hm'⟩ := hs'.at_ (by omega)
    injection e1' with e2' _ e3'
    subst e2' e3'
    have HSP := Lib.hid (And.intro hsp' hm')
    have hnd := T4.has.once
    have hne1 : ¬ rb = b' := by intro h; simp [Own.blocks, h] at hnd
    have hne2 : ¬ b' = rb := fun h => hne1 h.symm
    have hne3 : ¬ w.heap.size = b' := by intro h; simp [Own.blocks, h] at hnd
    have hne4 : ¬ w.heap.size = rb := by intro h; simp [Own.blocks, h] at hnd
    have d1 := T4.has.cell rb _ _ (List.mem_cons_of_mem _ (List.mem_cons_self ..)) 1 _ rfl
    have g1 := T4.has.free rb _ _ (List.mem_cons_of_mem _ (List.mem_cons_self ..)) 1
    have d0 := T4.has.cell w.heap.size _ [.int .i64 k, .bool y, .int .u64 (m : Int), .string t, .int .i64 cnt] (List.mem_cons_self ..) 0 _ rfl
    have d4 := T4.has.cell w.heap.size _ [.int .i64 k, .bool y, .int .u64 (m : Int), .string t, .int .i64 cnt] (List.mem_cons_self ..) 4 _ rfl
    have d2 := T4.has.cell b' _ _ (List.mem_cons_of_mem _ (List.mem_cons_of_mem _ (List.mem_cons_self ..))) (N * 3 + 2) (.int .i64 ((kk : Nat) : Int)) (by rw [List.append_assoc, ← hrl.out, List.getElem?_append_right (by omega)]; simp)
    have g2 := T4.has.free b' _ _ (List.mem_cons_of_mem _ (List.mem_cons_of_mem _ (List.mem_cons_self ..))) (N * 3 + 2)
    have hset : ((rcells ls ++ [.bool true, .int .i64 q, .int .i64 ((kk : Nat) : Int)] : List Value) ++ sp').set (N * 3 + 2) (.int .i64 ((kk : Int) + 1)) = rcells (ls ++ [RBox.mk ⟨true, kk + 1⟩ q]) ++ sp' := by
     rw [List.append_assoc, ← hrl.out, List.set_append_right _ _ (by omega), rcells_append]
     simp [rcells]
    have T5a := ((T4.setAt [_] 1 (.slice (some ⟨b', 0, none⟩) (N + 1) (N + 1 + m')) (by simp)).setAt [_, _] (N * 3 + 2) (.int .i64 ((kk : Int) + 1)) (by first | (simp [hrl.out]; done) | (simp [hrl.out]; omega)))
    rw [hset] at T5a
    have T5 := Lib.hid (show Own.Turn (Own.row rb 31 [.int .i64 1, .slice (some ⟨b, 0, none⟩) (N + 1) (N + 1 + ms), .bool false] :: [Own.row b 75 (rcells ls ++ ([.bool true, .int .i64 q, .int .i64 ((kk : Nat) : Int)] ++ spare))]) (Own.row w.heap.size 34 [.int .i64 k, .bool y, .int .u64 (m : Int), .string t, .int .i64 cnt] :: Own.row rb 31 [.int .i64 1, .slice (some ⟨b', 0, none⟩) (N + 1) (N + 1 + m'), .bool false] :: [Own.row b' 75 (rcells (ls ++ [RBox.mk ⟨true, kk + 1⟩ q]) ++ sp')]) w _ from T5a.drop (b := [_, _, _]) (c := [_]))
    have HSk := Lib.hid (Own.Slk.row (k := 3) (e := 75) (n := N + 1) (xs := rcells (ls ++ [RBox.mk ⟨true, kk + 1⟩ q])) b' m' sp' (by rw [rcells_append, List.length_append, hrl.out]; simp [rcells]; omega) HSP.out.1 HSP.out.2)
    have HLen := Lib.hid (show (L ++ [(⟨true, kk + 1⟩ : Box)]).length = N + 1 by rw [List.length_append, ← HN.out]; rfl)
    have HMap := Lib.hid (show (ls ++ [RBox.mk ⟨true, kk + 1⟩ q]).map RBox.box = L ++ [⟨true, kk + 1⟩] by rw [List.map_append, Hls.out]; rfl)
    clear T5a hset T4 hnd hs' ht' hsp' hm'
    go_wp2
    go_ret2
    rw [hX.out]
    refine ⟨?_, _, ⟨ls ++ [RBox.mk ⟨true, kk + 1⟩ q], .slice (some ⟨b', 0, none⟩) (N + 1) (N + 1 + m'), [Own.row b' 75 (rcells (ls ++ [RBox.mk ⟨true, kk + 1⟩ q]) ++ sp')], HMap.out, rfl, ?_⟩, T5.out.forget (b := [_])⟩
    · rw [← hfin.out]
      first
        | exact congrArg (fun x => Ending.returned (.tuple #[.string x, .int .i64 0])) (cat2 [44] (text p))
        | rfl
        | simp
    · show Own.Slk 3 _ (L ++ [(⟨true, kk + 1⟩ : Box)]).length _ _ _
      rw [HLen.out]
      exact HSk.out
end Json
end Go.Proofs.YtopaadmnlghdaaaDoor
