/- Step, whatever the part; All. -/
import Derived.Test.YtopaadmnlghdaaaDoorJsonE
import Derived.Test.YtopaadmnlghdaaaDoorJsonX
namespace Go.Proofs.YtopaadmnlghdaaaDoor
open Go.RowKit
namespace Json

/-- A part is taken. -/
theorem step_any {W : Wr} {wb n B : Nat} {h : Own.Heap} {w : World} (hi : W.Is wb h) (hw : Own.Has w h) (hf : W.Fits n) (hn : n ≤ 100000)
    (hU : Under B) (hB : ∀ x ∈ Own.blocks h, B ≤ x) (T : Tabs w) (p : Part) (hp : p.small) :
    Calls Tryd.prog 11 #[.pointer (some ⟨wb, 0, none⟩), p.val] w fun e w' => e = .returned (.tuple #[.string ⟨(W.step text p).1.toArray⟩, .int .i64 ((W.step text p).2.1 : Int)]) ∧
      ∃ h', (W.step text p).2.2.Is wb h' ∧ Own.Turn h h' w w' := by
  have hend : (p.may = false ∨ W.done = true) → W.step text p = ([], 14, W) := fun h => h.elim (Wr.step_none text W p) (Wr.step_done text W p)
  by_cases hm : p.may = false
  · rw [hend (.inl hm)]
    refine (step_end hi hw p (.inl hm)).mono ?_
    rintro e w' ⟨rfl, t⟩
    exact ⟨rfl, h, hi, t⟩
  · have hm' : p.may = true := by simpa using hm
    by_cases hd : W.done = true
    · rw [hend (.inr hd)]
      refine (step_end hi hw p (.inr hd)).mono ?_
      rintro e w' ⟨rfl, t⟩
      exact ⟨rfl, h, hi, t⟩
    · have hd' : W.done = false := by simpa using hd
      by_cases hc : p.isClose = true
      · obtain rfl : p = .close := by cases p <;> first | rfl | cases hc
        exact step_close hi hw hf hn hd'
      · exact step_open hi hw hf hn hd' hU hB T p hm' (by simpa using hc) hp

def Evt.small (e : Evt) : Prop := e.mag < 18446744073709551616 ∧ e.text.size ≤ 1000

theorem Evt.part_small (e : Evt) (p : Part) (h : e.part = some p) (hs : e.small) : p.small := by
  unfold Evt.part at h
  repeat' split at h
  all_goals first | (injection h with h; subst h; first | trivial | exact hs.1 | exact hs.2) | cases h

/-- The value v is a slice that reads as these parts. -/
def Reads (w : World) (v : Value) (es : List Evt) : Prop :=
  ∃ a c, v = .slice a es.length c ∧ ∀ j u, (es.flatMap Evt.cells)[j]? = some u → ∃ b off, a = some ⟨b, off, none⟩ ∧ w.cell? ⟨b, off + j, none⟩ = some u

theorem Reads.below {w w' : World} {v : Value} {es : List Evt} (h : Reads w v es) (b : Below w.heap.size w w') : Reads w' v es := by
  obtain ⟨a, c, rfl, hc⟩ := h
  refine ⟨a, c, rfl, fun j u hj => ?_⟩
  obtain ⟨bb, off, ha, h1⟩ := hc j u hj
  refine ⟨bb, off, ha, ?_⟩
  rw [b.cell (World.block_lt_of_cell? w _ h1)]
  exact h1

theorem Reads.of_slk {w : World} {v : Value} {es : List Evt} {h : Own.Heap} (s : Own.Slk 5 34 es.length (es.flatMap Evt.cells) v h) (hw : Own.Has w h) : Reads w v es := by
  generalize hx : es.flatMap Evt.cells = xs at s
  obtain ⟨a, c, rfl⟩ := s.len
  refine ⟨a, c, rfl, ?_⟩
  rw [hx]
  intro j u hj
  generalize hn : es.length = n at s
  cases s with
  | bare a0 h0 h1 => rw [h1] at hj; simp at hj
  | row b m spare h1 h2 h3 =>
    refine ⟨b, 0, rfl, ?_⟩
    rw [Nat.zero_add]
    exact hw.cell b _ _ (List.mem_singleton.2 rfl) j u (by rw [List.getElem?_append_left (List.getElem?_eq_some_iff.1 hj).1]; exact hj)

theorem flat_get (es : List Evt) (i k : Nat) (hi : i < es.length) (hk : k < 5) : (es.flatMap Evt.cells)[i * 5 + k]? = (es[i].cells)[k]? := by
  induction es generalizing i with
  | nil => simp at hi
  | cons e l ih =>
    rw [List.flatMap_cons]
    cases i with
    | zero => rw [Nat.zero_mul, Nat.zero_add, List.getElem?_append_left (by simpa [Evt.cells] using hk)]; rfl
    | succ i =>
      rw [List.getElem?_append_right (by simp [Evt.cells]; omega)]
      rw [show (i + 1) * 5 + k - e.cells.length = i * 5 + k by simp [Evt.cells]; omega]
      exact ih i (by simpa using hi)

/-- The cells of one part. -/
theorem Reads.at_ {w : World} {a : Option Addr} {n c : Nat} {es : List Evt} (h : Reads w (.slice a n c) es) (i : Nat) (hi : i < es.length) :
    ∃ b off, a = some ⟨b, off, none⟩ ∧ w.cell? ⟨b, off + i * 5, none⟩ = some (.int .i64 es[i].kind) ∧ w.cell? ⟨b, off + i * 5 + 1, none⟩ = some (.bool es[i].yes) ∧
      w.cell? ⟨b, off + i * 5 + 2, none⟩ = some (.int .u64 (es[i].mag : Int)) ∧ w.cell? ⟨b, off + i * 5 + 3, none⟩ = some (.string es[i].text) ∧ w.cell? ⟨b, off + i * 5 + 4, none⟩ = some (.int .i64 es[i].count) := by
  obtain ⟨a', c', e, hc⟩ := h
  injection e with e1 e2 e3
  subst e1
  obtain ⟨b, off, rfl, h0⟩ := hc (i * 5 + 0) _ (by rw [flat_get es i 0 hi (by omega)]; rfl)
  refine ⟨b, off, rfl, h0, ?_, ?_, ?_, ?_⟩
  all_goals
    first
    | (obtain ⟨b', off', e, h⟩ := hc (i * 5 + 1) (.bool es[i].yes) (by rw [flat_get es i 1 hi (by omega)]; rfl); injection e with e; injection e with e1 e2; subst e1 e2; exact h)
    | (obtain ⟨b', off', e, h⟩ := hc (i * 5 + 2) (.int .u64 (es[i].mag : Int)) (by rw [flat_get es i 2 hi (by omega)]; rfl); injection e with e; injection e with e1 e2; subst e1 e2; exact h)
    | (obtain ⟨b', off', e, h⟩ := hc (i * 5 + 3) (.string es[i].text) (by rw [flat_get es i 3 hi (by omega)]; rfl); injection e with e; injection e with e1 e2; subst e1 e2; exact h)
    | (obtain ⟨b', off', e, h⟩ := hc (i * 5 + 4) (.int .i64 es[i].count) (by rw [flat_get es i 4 hi (by omega)]; rfl); injection e with e; injection e with e1 e2; subst e1 e2; exact h)

set_option maxRecDepth 100000 in
set_option maxHeartbeats 4000000 in
theorem all_any (es : List Evt) (v : Value) (w : World) (hr : Reads w v es) (hn : es.length ≤ 30000) (hsm : ∀ e ∈ es, e.small) (T : Tabs w) :
    Calls Tryd.prog 17 #[v] w fun e w' => e = .returned (.tuple #[.string ⟨(Wr.zero.all text es).1.toArray⟩, .int .i64 ((Wr.zero.all text es).2 : Int)]) ∧ Below w.heap.size w w' := by
  have HR := Lib.hid hr
  have HS := Lib.hid hsm
  have HT := Lib.hid T
  obtain ⟨a, c, rfl, _⟩ := hr
  clear hsm T
  obtain ⟨n, hne⟩ : ∃ n, n = es.length := ⟨_, rfl⟩
  rw [← hne] at hn HR ⊢
  have HN := Lib.hid hne
  clear hne
  generalize hall : Wr.zero.all text es = R
  have HA := Lib.hid hall
  clear hall
  have HC := Lib.hid (fun e u => of_any e u)
  go_enter Tryd.func17, Tryd.ntmps17
  go_wp2_with (fail)
  go_loopw [5, 14] (fun o i wr => ∃ (j : Nat) (O : ByteArray) (W : Wr) (hW : Own.Heap), o = .string O ∧ i = .int .i64 j ∧ j ≤ n ∧ W.Fits j ∧ W.Is w.heap.size hW ∧ Own.Turn [] hW w wr ∧ O.size ≤ 6011 * j ∧
    R = (O.data.toList ++ (W.all text (es.drop j)).1, (W.all text (es.drop j)).2)) (fun _ i _ => n - (intOf i).toNat)
  case atStart => exact ⟨0, ⟨#[]⟩, Wr.zero, _, rfl, rfl, Nat.zero_le _, .zero, .zero _, (Own.Turn.refl (Own.Has.nil w)).alloc _, Nat.le_refl _, HA.out.symm⟩
  case round =>
    obtain ⟨j, O, W, hW, rfl, rfl, hj, hf, hi, ht, hlen, hR⟩ := hrel
    have hbel := Lib.hid (ht.below (B := w.heap.size) (fun x hx => by cases hx) (Nat.le_refl _))
    have HR0 := Lib.hid hR
    clear hR
    have HF := Lib.hid (And.intro hf hi)
    have Ht := Lib.hid ht
    clear hf hi ht
    by_cases hjk : j < n
    · have hje : j < es.length := by have := HN.out; omega
      obtain ⟨b, off, rfl, x0, x1, x2, x3, x4⟩ := (HR.out.below hbel.out).at_ j hje
      have hdr := Lib.hid (List.drop_eq_getElem_cons hje)
      have hes := Lib.hid (HS.out _ (List.getElem_mem hje))
      generalize es[j] = e at x0 x1 x2 x3 x4 hdr hes
      have hlt : (j : Int) < (n : Int) := by omega
      have hO : O.size ≤ 180330000 := by omega
      go_wp2_with (fail)
      refine (HC.out e _).mono ?_
      rintro e1 W1 ⟨rfl, b1⟩
      have t1 := (Ht.out.litter _).trans (Own.Turn.of_below (Ht.out.litter _).has b1)
      cases hp : e.part with
      | none =>
        have hR2 := Lib.hid (HR0.out.trans (by rw [hdr.out, Wr.all_none _ _ _ _ hp, List.append_nil]))
        have T1 := Lib.hid (t1.below (B := w.heap.size) (fun x hx => by cases hx) (Nat.le_refl _))
        clear hp t1
        dsimp only [ofVal]
        go_wp2_with (fail)
        go_ret2
        rw [hR2.out]
        exact ⟨rfl, T1.out⟩
      | some p =>
        have hst := Lib.hid (step_any HF.out.2 t1.has HF.out.1 (show j ≤ 100000 by omega) HT.out.under (t1.least (fun x hx => by cases hx) (Nat.le_refl _)) (HT.out.below (t1.below (fun x hx => by cases hx) (Nat.le_refl _))) p (e.part_small p hp hes.out))
        have hsl := Lib.hid (Wr.step_len W p (e.part_small p hp hes.out))
        have hfs := Lib.hid (HF.out.1.step text p)
        have hbad := Lib.hid (fun k => HR0.out.trans (by rw [hdr.out, Wr.all_bad _ _ _ _ p hp k, List.append_nil]) : (W.step text p).2.1 ≠ 0 → R = (O.data.toList, (W.step text p).2.1))
        have hgood := Lib.hid (fun k => HR0.out.trans (by rw [hdr.out, Wr.all_good _ _ _ _ p hp k]) : (W.step text p).2.1 = 0 → R = (O.data.toList ++ ((W.step text p).1 ++ ((W.step text p).2.2.all text (es.drop (j + 1))).1), ((W.step text p).2.2.all text (es.drop (j + 1))).2))
        have T1 := Lib.hid t1
        clear hp t1
        generalize W.step text p = S at hst hsl hfs hbad hgood
        obtain ⟨s1, s2, s3⟩ := S
        simp only at hst hsl hfs hbad hgood
        dsimp only [ofVal]
        go_wp2_with (fail)
        refine hst.out.mono ?_
        rintro e2 W2 ⟨rfl, h', i2, t2⟩
        have T2 := Lib.hid (T1.out.trans t2)
        have I2 := Lib.hid i2
        have T3 := Lib.hid (T2.out.below (B := w.heap.size) (fun x hx => by cases hx) (Nat.le_refl _))
        clear t2 i2
        obtain ⟨S1, hS1⟩ : ∃ S1 : ByteArray, S1 = ⟨s1.toArray⟩ := ⟨_, rfl⟩
        have hS1s : S1.size ≤ 6011 := by rw [hS1]; exact hsl.out
        have HS1 := Lib.hid hS1
        rw [← hS1]
        clear hS1
        rcases Nat.eq_zero_or_pos s2 with h0 | h0
        · have hR2 := Lib.hid (hgood.out h0)
          obtain rfl : s2 = 0 := h0
          go_wp2_with (fail)
          go_roundw
          case rel =>
            refine ⟨j + 1, O ++ S1, s3, h', rfl, by go_num, by omega, hfs.out, I2.out, T2.out, by rw [ByteArray.size_append]; omega, ?_⟩
            rw [hR2.out, HS1.out]
            simp
          case measure => simp [intOf]; omega
        · have hR2 := Lib.hid (hbad.out (by omega))
          have hne : ¬ ((s2 : Int) = 0) := by omega
          have hnb : ((s2 : Int) == 0) = false := by simp; omega
          go_wp2_with (fail)
          go_ret2
          rw [hR2.out]
          exact ⟨rfl, T3.out⟩
    · have hjn : j = n := by omega
      have hge : (n : Int) ≤ (j : Int) := by omega
      have hd0 := Lib.hid (show es.drop j = [] by rw [List.drop_eq_nil_iff]; have := HN.out; omega)
      have HD := Lib.hid (fun u (k : Own.Has u hW) => done_any HF.out.2 k)
      clear hjn
      go_wp2_with (fail)
      refine (HD.out _ Ht.out.has).mono ?_
      rintro e1 W1 ⟨rfl, rfl⟩
      have hR2 := Lib.hid (HR0.out.trans (by rw [hd0.out, Wr.all_nil, List.append_nil]))
      cases hdn : W.done
      all_goals
        have hR3 := Lib.hid hR2.out
        rw [hdn] at hR3
        clear hdn
        go_wp2_with (fail)
        go_ret2
        rw [hR3.out]
        exact ⟨rfl, hbel.out⟩
end Json
end Go.Proofs.YtopaadmnlghdaaaDoor
