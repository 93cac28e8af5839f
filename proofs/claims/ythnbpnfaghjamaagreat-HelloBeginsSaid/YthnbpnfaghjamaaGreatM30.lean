/- Texts of the walk, joined: TxW. -/
import Derived.Test.YthnbpnfaghjamaaGreatM29
import Derived.Deep.DeepCutAuto
import Derived.Deep.OwnRows
import Derived.Deep.RegionLaw
import Derived.StillTailTactics
/- The writer of JSON: what it hands back, what it holds behind it. (Written by wip/gen_tx.py out of JsonW.) -/

namespace Go.Proofs.YthnbpnfaghjamaaGreat
open Go.RowKit
namespace Json
variable {text : Part → List UInt8}

theorem Wr.Is.last {W : Wr} {wb : Nat} {h : Own.Heap} (hi : W.Is wb h) (L : List Box) (c : Box) (hl : W.opened = L ++ [c]) :
    ∃ b m spare, h = [Own.row wb 75 [.slice (some ⟨b, 0, none⟩) (L.length + 1) (L.length + 1 + m), .bool W.done], Own.row b 219 (boxes L ++ ([.bool c.pairs, .int .i64 (c.parts : Int)] ++ spare))] ∧
      spare.length = m * 2 ∧ L.length + 1 + m ≤ maxLen := by
  obtain ⟨lv, hl', rfl, hs⟩ := hi
  rw [hl] at hs
  obtain ⟨b, m, spare, rfl, rfl, h1, h2⟩ := hs.at_ (by simp)
  refine ⟨b, m, spare, ?_, h1, by simpa using h2⟩
  rw [boxes_append]
  simp [boxes]

theorem Wr.Is.of {wb b m : Nat} (L : List Box) (spare : List Value) (done : Bool) (hs : spare.length = m * 2) (hm : L.length + m ≤ maxLen) :
    (Wr.mk L done).Is wb [Own.row wb 75 [.slice (some ⟨b, 0, none⟩) L.length (L.length + m), .bool done], Own.row b 219 (boxes L ++ spare)] :=
  ⟨_, _, rfl, .row b m spare (boxes_length L) hs hm⟩

theorem Wr.Is.head {W : Wr} {wb : Nat} {h : Own.Heap} (hi : W.Is wb h) : ∃ a c hl, h = Own.row wb 75 [.slice a W.opened.length c, .bool W.done] :: hl ∧ Own.Slk 2 219 W.opened.length (boxes W.opened) (.slice a W.opened.length c) hl := by
  obtain ⟨lv, hl, rfl, hs⟩ := hi
  obtain ⟨a, c, rfl⟩ := hs.len
  exact ⟨a, c, hl, rfl, hs⟩

theorem mod2 (k : Nat) : ((k : Int)).tmod 2 = ((k % 2 : Nat) : Int) := by rw [Int.tmod_eq_emod_of_nonneg (by omega)]; omega
theorem mod2' (k : Nat) : ((k : Int)) % 2 = ((k % 2 : Nat) : Int) := by omega

set_option maxHeartbeats 1000000 in
theorem between_any (y : Bool) (k : Nat) (w : World) :
    Calls Tryz.prog 158 #[.agg #[.bool y, .int .i64 (k : Int)]] w fun e w' => e = .returned (.bool (Box.mk y k).between) ∧ Below w.heap.size w w' := by
  have B0 := Lib.hid (fun o => (Below.refl w.heap.size w).alloc (Nat.le_refl _) o)
  have e1 := mod2 k
  have e2 := mod2' k
  have hb : (Box.mk y k).between = (y && decide (k % 2 = 1)) := rfl
  have hlt := Nat.mod_lt k (show 0 < 2 by omega)
  generalize k % 2 = r at e1 e2 hb hlt
  have HB := Lib.hid hb
  clear hb
  cases y
  · go_enter Tryz.func158, Tryz.ntmps158
    go_wp2
    go_ret
    exact ⟨by rw [HB.out]; rfl, B0.out _⟩
  · obtain rfl | rfl : r = 0 ∨ r = 1 := by omega
    all_goals
      go_enter Tryz.func158, Tryz.ntmps158
      go_wp2
      go_ret
      exact ⟨by rw [HB.out]; rfl, B0.out _⟩

set_option maxRecDepth 100000 in
set_option maxHeartbeats 2000000 in
theorem close_any {W : Wr} {wb n : Nat} {h : Own.Heap} {w : World} (hi : W.Is wb h) (hw : Own.Has w h) (hf : W.Fits n) (hn : n ≤ 100000) (hd : W.done = false) :
    Calls Tryz.prog 157 #[.pointer (some ⟨wb, 0, none⟩)] w fun e w' => e = .returned (.tuple #[.string ⟨(W.step text .close).1.toArray⟩, .int .i64 ((W.step text .close).2.1 : Int)]) ∧
      ∃ h', (W.step text .close).2.2.Is wb h' ∧ Own.Turn h h' w w' := by
  obtain ⟨l, d⟩ := W
  simp only at hd
  subst hd
  rcases List.eq_nil_or_concat l with rfl | ⟨L, c, rfl⟩
  · have hI := Lib.hid hi
    have hW := Lib.hid hw
    obtain ⟨a, cc, hl, rfl, hs⟩ := hi.head
    have c0 := hw.cell wb _ _ (List.mem_cons_self ..) 0 _ rfl
    simp only [List.length_nil] at c0
    clear hs hw hi
    go_enter Tryz.func157, Tryz.ntmps157
    go_wp2
    go_ret2
    exact ⟨rfl, _, hI.out, Own.Turn.refl hW.out⟩
  · rw [List.concat_eq_append] at *
    obtain ⟨b, m, spare, rfl, hsl, hm⟩ := hi.last L c rfl
    obtain ⟨N, hN⟩ : ∃ N, N = L.length := ⟨_, rfl⟩
    have hN1 : N < 100000 := by have := hf.deep; simp at this; omega
    have hc := Lib.hid (show c.parts ≤ 100000 by have := hf.parts c (by simp); omega)
    have hW := Lib.hid hw
    have c0 := hw.cell wb _ _ (List.mem_cons_self ..) 0 _ rfl
    have f0 := hw.free wb _ _ (List.mem_cons_self ..) 0
    have f1 := hw.free wb _ _ (List.mem_cons_self ..) 1
    have e0 := hw.cell b _ _ (List.mem_cons_of_mem _ (List.mem_cons_self ..)) (N * 2) (.bool c.pairs) (by rw [hN, ← boxes_length, List.getElem?_append_right (by omega)]; simp)
    have e1 := hw.cell b _ _ (List.mem_cons_of_mem _ (List.mem_cons_self ..)) (N * 2 + 1) (.int .i64 (c.parts : Int)) (by rw [hN, ← boxes_length, List.getElem?_append_right (by omega)]; simp)
    rw [← hN] at c0
    have HN := Lib.hid hN
    have HB := Lib.hid (fun w => between_any c.pairs c.parts w)
    have hI := Lib.hid hi
    clear hN hw hi hf
    go_enter Tryz.func157, Tryz.ntmps157
    go_wp2_with (fail)
    refine (HB.out _).mono ?_
    rintro e W1 ⟨rfl, b1⟩
    have t1 := Own.Turn.of_below hW.out b1
    have c0 := t1.has.cell wb _ _ (List.mem_cons_self ..) 0 _ rfl
    rw [← HN.out] at c0
    have e0 := t1.has.cell b _ _ (List.mem_cons_of_mem _ (List.mem_cons_self ..)) (N * 2) (.bool c.pairs) (by rw [HN.out, ← boxes_length, List.getElem?_append_right (by omega)]; simp)
    have e1 := t1.has.cell b _ _ (List.mem_cons_of_mem _ (List.mem_cons_self ..)) (N * 2 + 1) (.int .i64 (c.parts : Int)) (by rw [HN.out, ← boxes_length, List.getElem?_append_right (by omega)]; simp)
    have d0 := fun o => (t1.litter o).has.cell wb _ _ (List.mem_cons_self ..) 0 _ rfl
    simp only [← HN.out] at d0
    have d1 := fun o => (t1.litter o).has.cell wb _ _ (List.mem_cons_self ..) 1 _ rfl
    have f0 := fun o => (t1.litter o).has.free wb _ _ (List.mem_cons_self ..) 0
    have f1 := fun o => (t1.litter o).has.free wb _ _ (List.mem_cons_self ..) 1
    have hlt := t1.has.row_lt
    have hne : ¬ wb = W1.heap.size := by omega
    have hne' : ¬ W1.heap.size = wb := by omega
    clear HB hlt
    have HF := Lib.hid (fun o => ((t1.litter o).set 0 (.slice (some ⟨b, 0, none⟩) N (N + 1 + m)) (by simp)).set 1 (.bool ((N : Int) == 0)) (by simp))
    have hdec := Lib.hid (show ((N : Int) == 0) = decide (L.length = 0) by rw [HN.out, Bool.eq_iff_iff]; simp)
    have HI := Lib.hid (fun (d : Bool) => by
      have := Wr.Is.of (wb := wb) (b := b) (m := m + 1) L ([.bool c.pairs, .int .i64 (c.parts : Int)] ++ spare) d (by simp; omega) (by omega)
      rw [show L.length + (m + 1) = N + 1 + m by have := HN.out; omega, ← HN.out] at this
      exact this)
    obtain ⟨y, k⟩ := c
    generalize hb : (Box.mk y k).between = bt
    have Hb := Lib.hid hb
    clear hb
    cases bt
    · cases y
      all_goals
        go_wp2
        go_ret2
        rw [Wr.step_close_good text L ⟨_, k⟩ Hb.out]
        have t2 := HF.out
        simp only [hdec.out] at t2 ⊢
        exact ⟨rfl, _, HI.out _, t2 _⟩
    · go_wp2
      go_ret2
      have hX := Wr.step_close_bad text L ⟨y, k⟩ Hb.out
      rw [hX]
      exact ⟨rfl, _, hI.out, t1⟩

/-- What event.Plain hands back, spelled out. -/
theorem plain_out (p : Part) (V : Value) (hV : V = p.val) (w : World) : ∃ a b m s c, Calls Tryz.prog 65 #[V] w fun r w' => r = .returned (.tuple #[.agg #[.int .i64 a, .bool b, .int .u64 (m : Nat), .string s, .int .i64 c], .bool p.may]) ∧ Below w.heap.size w w' := by
  subst hV
  have h := plain_any p w
  unfold plainVal at h
  cases hm : p.may with
  | true => rw [hm] at h; exact ⟨p.evt.kind, p.evt.yes, p.evt.mag, p.evt.text, p.evt.count, h⟩
  | false => rw [hm] at h; exact ⟨0, false, 0, ⟨#[]⟩, 0, h⟩

set_option maxRecDepth 100000 in
set_option maxHeartbeats 2000000 in
theorem step_close {W : Wr} {wb n : Nat} {h : Own.Heap} {w : World} (hi : W.Is wb h) (hw : Own.Has w h) (hf : W.Fits n) (hn : n ≤ 100000) (hd : W.done = false) :
    Calls Tryz.prog 156 #[.pointer (some ⟨wb, 0, none⟩), Part.close.val] w fun e w' => e = .returned (.tuple #[.string ⟨(W.step text .close).1.toArray⟩, .int .i64 ((W.step text .close).2.1 : Int)]) ∧
      ∃ h', (W.step text .close).2.2.Is wb h' ∧ Own.Turn h h' w w' := by
  have a5 := asClose .close
  obtain ⟨V, hV⟩ : ∃ V, V = Part.close.val := ⟨_, rfl⟩
  obtain ⟨a, b, m, s, c, hc⟩ := plain_out .close V hV w
  rw [← hV] at a5 ⊢
  have HX := Lib.hid (fun u (k : Own.Has u h) => close_any (text := text) hi k hf hn hd)
  have hW := Lib.hid hw
  obtain ⟨lv, hl, rfl, hs⟩ := hi
  clear hs hw hf
  have HC := Lib.hid hc
  clear hc hV
  generalize W.step text .close = R at HX ⊢
  obtain ⟨R1, R2, R3⟩ := R
  rw [show Part.close.may = true from rfl] at HC
  rw [show Part.close.isClose = true from rfl, show Part.close.inClose = .agg #[] from rfl] at a5
  rw [hd] at hW HX ⊢
  go_enter Tryz.func156, Tryz.ntmps156
  go_wp2_with (fail)
  refine HC.out.mono ?_
  rintro e W1 ⟨rfl, b1⟩
  have t1 := Own.Turn.of_below hW.out b1
  have c1 := fun o => (t1.litter o).has.cell wb _ _ (List.mem_cons_self ..) 1 _ rfl
  go_wp2_with (fail)
  refine (HX.out _ ((t1.litter _).litter _).has).mono ?_
  rintro e W2 ⟨rfl, h', i2, t2⟩
  go_wp2
  go_ret2
  exact ⟨rfl, h', i2, ((t1.litter _).litter _).trans t2⟩


end Json
end Go.Proofs.YthnbpnfaghjamaaGreat
