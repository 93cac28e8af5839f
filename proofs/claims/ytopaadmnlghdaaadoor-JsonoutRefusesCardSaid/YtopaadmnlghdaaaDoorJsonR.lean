/- The reference's writer: its memory; what it refuses at once; the end of a container. -/
import Derived.Test.YtopaadmnlghdaaaDoorJsonQ
import Derived.Test.YtopaadmnlghdaaaDoorSlkC
namespace Go.Proofs.YtopaadmnlghdaaaDoor
open Go.RowKit
namespace Json

structure RBox where
  box : Box
  count : Int

def rcells (l : List RBox) : List Value := l.flatMap fun c => [.bool c.box.pairs, .int .i64 c.count, .int .i64 (c.box.parts : Int)]

theorem rcells_append (l r : List RBox) : rcells (l ++ r) = rcells l ++ rcells r := by simp [rcells]
theorem rcells_length (l : List RBox) : (rcells l).length = l.length * 3 := by
  induction l with
  | nil => rfl
  | cons c l ih => rw [rcells, List.flatMap_cons, List.length_append]; rw [rcells] at ih; rw [ih]; simp; omega
theorem rcells_one (l : List RBox) : ∀ u ∈ rcells l, u.oneCell' = true := by
  intro u hu
  simp only [rcells, List.mem_flatMap, List.mem_cons, List.not_mem_nil, or_false] at hu
  obtain ⟨c, _, rfl | rfl | rfl⟩ := hu <;> rfl

/-- The memory of the reference's writer, for JSON. -/
def RIs (W : Wr) (rb : Nat) (h : Own.Heap) : Prop :=
  ∃ (l : List RBox) (lv : Value) (hl : Own.Heap), l.map RBox.box = W.opened ∧ h = Own.row rb 31 [.int .i64 1, lv, .bool W.done] :: hl ∧ Own.Slk 3 75 W.opened.length (rcells l) lv hl

theorem RIs.zero (rb : Nat) : RIs Wr.zero rb [Own.row rb 31 [.int .i64 1, .slice none 0 0, .bool false]] := ⟨[], _, _, rfl, rfl, .bare none rfl rfl⟩

/-- What a writer makes of a part that may be none. -/
def Wr.take (W : Wr) (e : Evt) : List UInt8 × Nat × Wr := match e.part with | none => ([], 14, W) | some p => W.step text p

set_option maxRecDepth 100000 in
set_option maxHeartbeats 2000000 in
theorem rstep_end {W : Wr} {rb : Nat} {h : Own.Heap} {w : World} (hi : RIs W rb h) (hw : Own.Has w h) (e : Evt) (hp : e.part = none ∨ W.done = true) :
    Calls Tryd.prog 12 #[.pointer (some ⟨rb, 0, none⟩), e.val] w fun r w' => r = .returned (.tuple #[.string ⟨#[]⟩, .int .i64 14]) ∧ Own.Turn h h w w' := by
  have hW := Lib.hid hw
  obtain ⟨l, lv, hl, _, rfl, hs⟩ := hi
  obtain ⟨a, c, rfl⟩ := hs.len
  have HM := Lib.hid (fun u => may_any e u)
  generalize e.part = P at hp HM
  obtain ⟨k, y, m, t, cnt⟩ := e
  simp only [Evt.val, Evt.cells] at *
  have t0 := Lib.hid ((Own.Turn.refl hw).litter (.cells #[.int .i64 k, .bool y, .int .u64 (m : Int), .string t, .int .i64 cnt] 34))
  have HP := Lib.hid hp
  clear hs hw hp
  have d1 := fun o => ((Own.Turn.refl hW.out).litter o).has.cell rb _ _ (List.mem_cons_self ..) 1 _ rfl
  generalize hN : W.opened.length = N at *
  have c0 := t0.out.has.cell rb _ _ (List.mem_cons_self ..) 0 _ rfl
  go_enter Tryd.func12, Tryd.ntmps12
  go_wp2_with (fail)
  refine (HM.out _).mono ?_
  rintro r W1 ⟨rfl, b1⟩
  have t1 := t0.out.trans (Own.Turn.of_below t0.out.has b1)
  have T1 := Lib.hid t1
  have c2 := t1.has.cell rb _ _ (List.mem_cons_self ..) 2 _ rfl
  clear t1
  cases P with
  | none =>
    simp only [Option.isSome_none]
    go_wp2
    go_ret2
    exact ⟨rfl, T1.out⟩
  | some p =>
    have hd : W.done = true := by rcases HP.out with h | h; cases h; exact h
    rw [hd] at c2
    simp only [Option.isSome_some]
    go_wp2
    go_ret2
    exact ⟨rfl, T1.out⟩

/-- The last container, and where it lies. -/
theorem RIs.last {W : Wr} {rb : Nat} {h : Own.Heap} (hi : RIs W rb h) (L : List Box) (c : Box) (hl : W.opened = L ++ [c]) :
    ∃ ls q b m spare, ls.map RBox.box = L ∧ ls.length = L.length ∧ h = [Own.row rb 31 [.int .i64 1, .slice (some ⟨b, 0, none⟩) (L.length + 1) (L.length + 1 + m), .bool W.done], Own.row b 75 (rcells ls ++ ([.bool c.pairs, .int .i64 q, .int .i64 (c.parts : Int)] ++ spare))] ∧
      spare.length = m * 3 ∧ L.length + 1 + m ≤ maxLen := by
  obtain ⟨l, lv, hl', hm, rfl, hs⟩ := hi
  rw [hl] at hs hm
  rcases List.eq_nil_or_concat l with rfl | ⟨ls, x, rfl⟩
  · simp at hm
  · rw [List.concat_eq_append] at *
    simp only [List.map_append, List.map_cons, List.map_nil] at hm
    obtain ⟨h1, h2⟩ := List.append_inj' hm rfl
    simp only [List.cons.injEq, and_true] at h2
    obtain ⟨b, m, spare, rfl, rfl, h3, h4⟩ := hs.at_ (by simp)
    refine ⟨ls, x.count, b, m, spare, h1, by rw [← h1, List.length_map], ?_, h3, by simpa using h4⟩
    rw [rcells_append]
    simp [rcells, h2]

theorem RIs.of {rb b m : Nat} (l : List RBox) (spare : List Value) (done : Bool) (L : List Box) (hL : l.map RBox.box = L) (hs : spare.length = m * 3) (hm : L.length + m ≤ maxLen) :
    RIs (Wr.mk L done) rb [Own.row rb 31 [.int .i64 1, .slice (some ⟨b, 0, none⟩) L.length (L.length + m), .bool done], Own.row b 75 (rcells l ++ spare)] := by
  refine ⟨l, _, _, hL, rfl, .row b m spare ?_ hs hm⟩
  rw [rcells_length, ← hL, List.length_map]

set_option maxRecDepth 100000 in
set_option maxHeartbeats 4000000 in
theorem rstep_close {W : Wr} {rb n : Nat} {h : Own.Heap} {w : World} (hi : RIs W rb h) (hw : Own.Has w h) (hf : W.Fits n) (hn : n ≤ 100000) (e : Evt) (hp : e.part = some .close) (hd : W.done = false) :
    Calls Tryd.prog 12 #[.pointer (some ⟨rb, 0, none⟩), e.val] w fun r w' => r = .returned (.tuple #[.string ⟨(W.step text .close).1.toArray⟩, .int .i64 ((W.step text .close).2.1 : Int)]) ∧
      ∃ h', RIs (W.step text .close).2.2 rb h' ∧ Own.Turn h h' w w' := by
  have hk : e.kind = 7 := by
    have := (e.part_kind _ hp).2
    simpa [Part.isClose] using this
  have HM := Lib.hid (fun u => may_any e u)
  rw [hp, Option.isSome_some] at HM
  obtain ⟨k, y, m, t, cnt⟩ := e
  simp only at hk
  subst hk
  simp only [Evt.val, Evt.cells] at *
  clear hp
  obtain ⟨l, d⟩ := W
  simp only at hd
  subst hd
  rcases List.eq_nil_or_concat l with rfl | ⟨L, c, rfl⟩
  · have hI := Lib.hid hi
    have hW := Lib.hid hw
    obtain ⟨l, lv, hl, _, rfl, hs⟩ := hi
    obtain ⟨a, cc, rfl⟩ := hs.len
    simp only [List.length_nil] at *
    have ta := (Own.Turn.refl hw).alloc (.cells #[.int .i64 7, .bool y, .int .u64 (m : Int), .string t, .int .i64 cnt] 34)
    have t0 := Lib.hid ta
    have c0 := ta.has.cell rb _ _ (List.mem_cons_of_mem _ (List.mem_cons_self ..)) 1 _ rfl
    clear hs hw ta
    go_enter Tryd.func12, Tryd.ntmps12
    go_wp2_with (fail)
    refine (HM.out _).mono ?_
    rintro r W1 ⟨rfl, b1⟩
    have t1 := t0.out.trans (Own.Turn.of_below t0.out.has b1)
    have T1 := Lib.hid t1
    have c2 := t1.has.cell rb _ _ (List.mem_cons_of_mem _ (List.mem_cons_self ..)) 2 _ rfl
    have x0 := t1.has.cell w.heap.size _ [.int .i64 7, .bool y, .int .u64 (m : Int), .string t, .int .i64 cnt] (List.mem_cons_self ..) 0 _ rfl
    clear t1
    go_wp2
    go_ret2
    exact ⟨rfl, _, hI.out, T1.out.forget (b := [_])⟩
  · rw [List.concat_eq_append] at *
    obtain ⟨ls, q, b, ms, spare, hls, hll, rfl, hsl, hm⟩ := hi.last L c rfl
    obtain ⟨N, hN⟩ : ∃ N, N = L.length := ⟨_, rfl⟩
    have hN1 : N < 100000 := by have := hf.deep; simp at this; omega
    have hI := Lib.hid hi
    rw [← hN] at hw hI hm hll ⊢
    have ta := (Own.Turn.refl hw).alloc (.cells #[.int .i64 7, .bool y, .int .u64 (m : Int), .string t, .int .i64 cnt] 34)
    have t0 := Lib.hid ta
    have c0 := ta.has.cell rb _ _ (List.mem_cons_of_mem _ (List.mem_cons_self ..)) 1 _ rfl
    have HN := Lib.hid hN
    have Hls := Lib.hid hls
    have hrl := Lib.hid (rcells_length ls)
    rw [hll] at hrl
    clear hw hi ta hN hf hls hll
    go_enter Tryd.func12, Tryd.ntmps12
    go_wp2_with (fail)
    refine (HM.out _).mono ?_
    rintro r W1 ⟨rfl, b1⟩
    have t1 := t0.out.trans (Own.Turn.of_below t0.out.has b1)
    have T1 := Lib.hid t1
    have c2 := t1.has.cell rb _ _ (List.mem_cons_of_mem _ (List.mem_cons_self ..)) 2 _ rfl
    have c1 := t1.has.cell rb _ _ (List.mem_cons_of_mem _ (List.mem_cons_self ..)) 1 _ rfl
    have x0 := t1.has.cell w.heap.size _ [.int .i64 7, .bool y, .int .u64 (m : Int), .string t, .int .i64 cnt] (List.mem_cons_self ..) 0 _ rfl
    have e0 := t1.has.cell b _ _ (List.mem_cons_of_mem _ (List.mem_cons_of_mem _ (List.mem_cons_self ..))) (N * 3) (.bool c.pairs) (by rw [← hrl.out, List.getElem?_append_right (by omega)]; simp)
    have e1 := t1.has.cell b _ _ (List.mem_cons_of_mem _ (List.mem_cons_of_mem _ (List.mem_cons_self ..))) (N * 3 + 1) (.int .i64 q) (by rw [← hrl.out, List.getElem?_append_right (by omega)]; simp)
    have e2 := t1.has.cell b _ _ (List.mem_cons_of_mem _ (List.mem_cons_of_mem _ (List.mem_cons_self ..))) (N * 3 + 2) (.int .i64 (c.parts : Int)) (by rw [← hrl.out, List.getElem?_append_right (by omega)]; simp)
    clear t1
    obtain ⟨yy, kk⟩ := c
    have hbt := Lib.hid (show (Box.mk yy kk).between = (yy && decide (kk % 2 = 1)) from rfl)
    have m1 := mod2 kk
    have m2 := mod2' kk
    have hr2 := Nat.mod_lt kk (show 0 < 2 by omega)
    simp only at e0 e1 e2
    generalize kk % 2 = rr at m1 m2 hbt hr2
    have ht1 := fun o => (T1.out.alloc o).has.cell rb _ _ (List.mem_cons_of_mem _ (List.mem_cons_of_mem _ (List.mem_cons_self ..))) 0 _ rfl
    by_cases hbad : yy = true ∧ rr = 1
    · obtain ⟨rfl, rfl⟩ := hbad
      have hX := Lib.hid (Wr.step_close_bad text L ⟨true, kk⟩ hbt.out)
      go_wp2_with (fail)
      go_ret2
      rw [hX.out]
      exact ⟨rfl, _, hI.out, (T1.out.forget (b := [_])).litter _⟩
    · have hX := Lib.hid (Wr.step_close_good text L ⟨yy, kk⟩ (by
        rw [hbt.out]
        cases yy
        · rfl
        · have : ¬ rr = 1 := fun h => hbad ⟨rfl, h⟩
          simp [this]))
      obtain ⟨i0, hi0, hz0, hz1, hz2⟩ := info_parts (P := Tryd.prog) (e := 75) (z := .agg #[.bool false, .int .i64 0, .int .i64 0]) (size := 3) (bytes := 24) (by kernel_rfl)
      have Hi := Lib.hid (And.intro hi0 (And.intro hz0 (And.intro hz1 hz2)))
      have hv0 := Own.Slk.row (k := 3) (e := 75) (n := N) (xs := rcells ls) b (ms + 1) ([.bool yy, .int .i64 q, .int .i64 (kk : Int)] ++ spare) hrl.out (by simp; omega) (by omega)
      rw [show N + (ms + 1) = N + 1 + ms by omega] at hv0
      have hv := Lib.hid hv0
      have h1c := Lib.hid (rcells_one ls)
      have hdec := Lib.hid (show ((N : Int) + 1 == 1) = decide (L.length = 0) by rw [HN.out, Bool.eq_iff_iff]; simp only [beq_iff_eq, decide_eq_true_eq]; omega)
      have hm3 := Lib.hid hm
      have tA := Lib.hid (T1.out.alloc (.cells #[.bool yy, .int .i64 q, .int .i64 (kk : Int)] 75))
      have c1a := tA.out.has.cell rb _ _ (List.mem_cons_of_mem _ (List.mem_cons_of_mem _ (List.mem_cons_self ..))) 1 _ rfl
      have hltw := T1.out.has.lt (b := rb) (by simp [Own.blocks])
      have hne : ¬ rb = W1.heap.size := by omega
      have hne' : ¬ W1.heap.size = rb := by omega
      clear hi0 hz0 hz1 hz2 hv0 hltw
      have hcase : yy = false ∨ (yy = true ∧ rr = 0) := by
        cases yy
        · exact .inl rfl
        · right
          have : ¬ rr = 1 := fun h => hbad ⟨rfl, h⟩
          exact ⟨rfl, by omega⟩
      clear hbad hbt
      rcases hcase with rfl | ⟨rfl, rfl⟩
      all_goals
        go_wp2_with (at_builtin; go_loud (refine Own.wpList_append_copy rfl _ 29 rfl 75 i0 (.agg #[.bool false, .int .i64 0, .int .i64 0]) 3 24 Tryd.underlying29 Hi.out.1 Hi.out.2.1 Hi.out.2.2.1 Hi.out.2.2.2 rfl (.slice (some ⟨b, 0, none⟩) N (N + 1 + ms)) N (rcells ls) _ rfl hv.out (Own.Has.right (a := [_, _, _]) tA.out.has) h1c.out ?c1 ?_))
        case c1 => omega
        intro ad' c' h' W2 hs' ht'
        have t3 := Lib.hid (tA.out.trans (ht'.behind (r := [_, _, _]) tA.out.has))
        have d0 := t3.out.has.cell rb _ _ (List.mem_cons_of_mem _ (List.mem_cons_of_mem _ (List.mem_cons_self ..))) 0 _ rfl
        have d1 := t3.out.has.cell rb _ _ (List.mem_cons_of_mem _ (List.mem_cons_of_mem _ (List.mem_cons_self ..))) 1 _ rfl
        have d2 := t3.out.has.cell rb _ _ (List.mem_cons_of_mem _ (List.mem_cons_of_mem _ (List.mem_cons_self ..))) 2 _ rfl
        have f1 := t3.out.has.free rb _ _ (List.mem_cons_of_mem _ (List.mem_cons_of_mem _ (List.mem_cons_self ..))) 1
        have f2 := t3.out.has.free rb _ _ (List.mem_cons_of_mem _ (List.mem_cons_of_mem _ (List.mem_cons_self ..))) 2
        have z0 := t3.out.has.cell W1.heap.size _ [.bool _, .int .i64 q, .int .i64 (kk : Int)] (List.mem_cons_self ..) 0 _ rfl
        have t4 := Lib.hid ((t3.out.setAt [_, _] 1 (.slice ad' N c') (by simp)).setAt [_, _] 2 (.bool ((N : Int) + 1 == 1)) (by simp))
        have S' := Lib.hid hs'
        clear hs' ht'
        go_wp2
        go_ret2
        rw [hX.out]
        have t5 := ((t4.out.forget (b := [_, _])).drop (b := _ :: h') (c := [_]))
        have hSl := S'.out
        rw [hdec.out] at t5 ⊢
        rw [HN.out] at hSl t5 ⊢
        exact ⟨rfl, _, ⟨ls, _, h', Hls.out, rfl, hSl⟩, t5⟩
end Json
end Go.Proofs.YtopaadmnlghdaaaDoor
