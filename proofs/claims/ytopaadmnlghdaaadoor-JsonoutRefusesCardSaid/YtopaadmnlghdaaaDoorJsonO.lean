/- Arguments that are parts, or slices of parts: what a reading says of their cells. -/
import Derived.Test.YtopaadmnlghdaaaDoorJsonB
import Derived.ChangeArms
import Derived.Deep.Slices
import Derived.WideShapes
namespace Go.Proofs.YtopaadmnlghdaaaDoor
open Go.RowKit Go.ChangeShapes Go.WideShapes Go.Deep
namespace Json

/-- Each field is what its type has. -/
structure Evt.Fine (e : Evt) : Prop where
  kind : -9223372036854775808 ≤ e.kind ∧ e.kind ≤ 9223372036854775807
  mag : e.mag < 18446744073709551616
  text : e.text.size ≤ maxLen
  count : -9223372036854775808 ≤ e.count ∧ e.count ≤ 9223372036854775807

theorem wf64 {z : Int} (h : (Lit.int .i64 z).wf = true) : -9223372036854775808 ≤ z ∧ z ≤ 9223372036854775807 := by
  have h' : (decide ((-9223372036854775808 : Int) ≤ z) && decide (z ≤ (9223372036854775807 : Int))) = true := h
  simpa using h'

theorem wfu64 {z : Int} (h : (Lit.int .u64 z).wf = true) : 0 ≤ z ∧ z < 18446744073709551616 := by
  have h' : (decide ((0 : Int) ≤ z) && decide (z ≤ (18446744073709551615 : Int))) = true := h
  simp only [Bool.and_eq_true, decide_eq_true_eq] at h'
  omega

theorem k3 : Tryd.prog.cellsOf 3 = 1 := by kernel_rfl
theorem k4 : Tryd.prog.cellsOf 4 = 1 := by kernel_rfl
theorem k9 : Tryd.prog.cellsOf 9 = 1 := by kernel_rfl
theorem k32 : Tryd.prog.cellsOf 32 = 1 := by kernel_rfl
theorem k34 : Tryd.prog.cellsOf 34 = 5 := by kernel_rfl

section
variable {H : Type} {enc : TypeId × Value → H} {w : World} {base : Nat} {sp : Nat → Bool} {held : Bool}

set_option maxRecDepth 100000 in
theorem ev_of {fuel : Nat} {cs : List Value} {x : DataW H × List MemPlace} (h : DataW.trod enc Tryd.prog w base sp held fuel 34 cs = some x) : ∃ e : Evt, cs = e.cells ∧ e.Fine := by
  obtain ⟨xs, n, _, _, hl, hxl, hall⟩ := DataW.trod_struct Tryd.underlying34 h
  rw [k34] at hl
  match cs, hl with
  | [c0, c1, c2, c3, c4], _ =>
    match xs, hxl with
    | [y0, y1, y2, y3, y4], _ =>
      have g0 : DataW.trod enc Tryd.prog w base sp held n 3 (([c0, c1, c2, c3, c4].drop 0).take (Tryd.prog.cellsOf 3)) = some y0 := hall 0 _ rfl
      have g1 : DataW.trod enc Tryd.prog w base sp held n 4 (([c0, c1, c2, c3, c4].drop 1).take (Tryd.prog.cellsOf 4)) = some y1 := hall 1 _ rfl
      have g2 : DataW.trod enc Tryd.prog w base sp held n 32 (([c0, c1, c2, c3, c4].drop 2).take (Tryd.prog.cellsOf 32)) = some y2 := hall 2 _ rfl
      have g3 : DataW.trod enc Tryd.prog w base sp held n 9 (([c0, c1, c2, c3, c4].drop 3).take (Tryd.prog.cellsOf 9)) = some y3 := hall 3 _ rfl
      have g4 : DataW.trod enc Tryd.prog w base sp held n 3 (([c0, c1, c2, c3, c4].drop 4).take (Tryd.prog.cellsOf 3)) = some y4 := hall 4 _ rfl
      rw [k3] at g0 g4
      rw [k4] at g1
      rw [k32] at g2
      rw [k9] at g3
      obtain ⟨z0, e0, _, w0⟩ := DataW.trod_int Tryd.underlying3 g0
      obtain ⟨z1, e1, _⟩ := DataW.trod_bool Tryd.underlying4 g1
      obtain ⟨z2, e2, _, w2⟩ := DataW.trod_int Tryd.underlying32 g2
      obtain ⟨z3, e3, _, w3⟩ := DataW.trod_string Tryd.underlying9 g3
      obtain ⟨z4, e4, _, w4⟩ := DataW.trod_int Tryd.underlying3 g4
      simp only [List.drop_zero, List.drop_succ_cons, List.take_succ_cons, List.take_zero, List.cons.injEq, and_true] at e0 e1 e2 e3 e4
      subst e0 e1 e2 e3 e4
      have h2 := wfu64 w2
      obtain ⟨m, rfl⟩ := Int.eq_ofNat_of_zero_le h2.1
      exact ⟨⟨z0, z1, m, z3, z4⟩, rfl, ⟨wf64 w0, by have := h2.2; show m < _; omega, w3, wf64 w4⟩⟩

set_option maxRecDepth 100000 in
/-- A part by value. -/
theorem open_ev {r : Reach} {b0 : Nat} {v : Value} {d : DataW H} {p : List MemPlace} (hv : Value.okWide Tryd.prog w r b0 34 v) (h : DataW.Trod enc Tryd.prog w base sp held 34 v d p) : ∃ e : Evt, v = e.val ∧ e.Fine := by
  obtain ⟨cs, rfl, _⟩ := okWide_struct Tryd.underlying34 hv
  obtain ⟨fuel, hf⟩ := h
  obtain ⟨e, he, hf⟩ := ev_of hf
  refine ⟨e, ?_, hf⟩
  show Value.agg cs = .agg e.cells.toArray
  congr 1
  apply Array.toList_inj.1
  simpa [Value.cells] using he

set_option maxRecDepth 100000 in
/-- A slice of parts. -/
theorem open_evs {r : Reach} {b0 : Nat} {v : Value} {d : DataW H} {p : List MemPlace} (hv : Value.okWide Tryd.prog w r b0 22 v) (h : DataW.Trod enc Tryd.prog w base sp held 22 v d p) :
    ∃ es : List Evt, Reads w v es ∧ (∀ e ∈ es, e.Fine) ∧ es.length ≤ maxLen := by
  obtain ⟨a0, len0, cap0, rfl⟩ := okWide_slice Tryd.underlying22 hv
  obtain ⟨fuel, hf⟩ := h
  rcases open_slice Tryd.underlying22 hf with ⟨hcs, _⟩ | ⟨a, len, cap, m, n, D, Pl, hcs, _, hl, hm, hmm, _, hi⟩
  · simp [Value.cells] at hcs
    obtain ⟨rfl, rfl, rfl⟩ := hcs
    exact ⟨[], ⟨none, 0, rfl, fun j u hj => by simp at hj⟩, by simp, Nat.zero_le _⟩
  · simp [Value.cells] at hcs
    obtain ⟨rfl, rfl, rfl⟩ := hcs
    have hlm : len0 ≤ m := by rw [hmm]; split <;> omega
    have hE : ∀ i, i < len0 → ∃ e : Evt, e.Fine ∧ ∀ k u, e.cells[k]? = some u → w.cell? (a.add (i * 5 + k)) = some u := by
      intro i hil
      obtain ⟨cs', hc, ht⟩ := hi i (by omega)
      rw [k34] at hc
      obtain ⟨_, hcl, hat⟩ := World.cells?_some hc
      obtain ⟨e, rfl, hfine⟩ := ev_of ht
      refine ⟨e, hfine, fun k u hk => ?_⟩
      have hk5 : k < 5 := by have := (List.getElem?_eq_some_iff.1 hk).1; simpa [Evt.cells] using this
      have := hat k hk5
      rw [Go.Deep.add_add] at this
      rw [this, hk]
    have hall : ∀ n, n ≤ len0 → ∃ es : List Evt, es.length = n ∧ (∀ e ∈ es, e.Fine) ∧ ∀ j u, (es.flatMap Evt.cells)[j]? = some u → w.cell? (a.add j) = some u := by
      intro n
      induction n with
      | zero => intro _; exact ⟨[], rfl, by simp, by simp⟩
      | succ n ih =>
        intro hn
        obtain ⟨es, h1, h2, h3⟩ := ih (by omega)
        obtain ⟨e, h4, h5⟩ := hE n (by omega)
        refine ⟨es ++ [e], by simp [h1], ?_, ?_⟩
        · intro x hx
          rcases List.mem_append.1 hx with hx | hx
          · exact h2 x hx
          · rw [List.mem_singleton.1 hx]; exact h4
        · intro j u hj
          rw [List.flatMap_append] at hj
          by_cases hjl : j < (es.flatMap Evt.cells).length
          · rw [List.getElem?_append_left hjl] at hj
            exact h3 j u hj
          · rw [List.getElem?_append_right (by omega)] at hj
            rw [flat_len, h1] at hj hjl
            have := h5 (j - n * 5) u (by simpa using hj)
            rw [show n * 5 + (j - n * 5) = j by omega] at this
            exact this
    obtain ⟨es, h1, h2, h3⟩ := hall len0 (Nat.le_refl _)
    refine ⟨es, ⟨some a, cap0, by rw [h1], fun j u hj => ?_⟩, h2, by omega⟩
    have hc := h3 j u hj
    have hc0 := h3 0 _ (List.getElem?_eq_getElem (show 0 < (es.flatMap Evt.cells).length by have := (List.getElem?_eq_some_iff.1 hj).1; omega))
    obtain ⟨b, off, sp'⟩ := a
    have e0 : Addr.add ⟨b, off, sp'⟩ 0 = ⟨b, off, sp'⟩ := by simp [Addr.add]
    rw [e0] at hc0
    cases sp' with
    | none => rw [Addr.add_lit] at hc; exact ⟨b, off, rfl, hc⟩
    | some x =>
      exfalso
      unfold World.cell? at hc0
      split at hc0 <;> simp at hc0
end

/-- A writer that was made behind the world w stands as W. -/
def Held (w : World) (wb : Nat) (W : Wr) (u : World) : Prop := ∃ h, W.Is wb h ∧ Own.Turn [] h w u

theorem Held.new {w v : World} {wb : Nat} (hk : v.heap.size = wb) (b : Below w.heap.size w v) : Held w wb Wr.zero (v.alloc (.cells #[.slice none 0 0, .bool false] 27)) :=
  ⟨_, Wr.Is.zero wb, (Own.Turn.of_below (Own.Has.nil w) b).allocAt wb hk _⟩

theorem Held.below {w u : World} {wb : Nat} {W : Wr} (h : Held w wb W u) : Below w.heap.size w u := by
  obtain ⟨h, _, t⟩ := h
  exact t.below (fun x hx => by cases hx) (Nat.le_refl _)

theorem Held.stays {w u u' : World} {wb : Nat} {W : Wr} (h : Held w wb W u) (b : Below u.heap.size u u') : Held w wb W u' := by
  obtain ⟨h, i, t⟩ := h
  exact ⟨h, i, t.trans (Own.Turn.of_below t.has b)⟩

theorem Held.step {w u : World} {wb n : Nat} {W : Wr} (h : Held w wb W u) (T : Tabs w) (hf : W.Fits n) (hn : n ≤ 100000) (p : Part) (hp : p.small) :
    Calls Tryd.prog 11 #[.pointer (some ⟨wb, 0, none⟩), p.val] u fun e u' => e = .returned (.tuple #[.string ⟨(W.step text p).1.toArray⟩, .int .i64 ((W.step text p).2.1 : Int)]) ∧ Held w wb (W.step text p).2.2 u' := by
  have hb := h.below
  obtain ⟨h, i, t⟩ := h
  refine (step_any i t.has hf hn T.under (t.least (fun x hx => by cases hx) (Nat.le_refl _)) (T.below hb) p hp).mono ?_
  rintro e u' ⟨rfl, h', i', t'⟩
  exact ⟨rfl, h', i', t.trans t'⟩

theorem Held.done {w u : World} {wb : Nat} {W : Wr} (h : Held w wb W u) :
    Calls Tryd.prog 14 #[.pointer (some ⟨wb, 0, none⟩)] u fun e u' => e = .returned (.bool W.done) ∧ u' = u := by
  obtain ⟨h, i, t⟩ := h
  exact done_any i t.has

theorem Evt.Fine.small {e : Evt} (h : e.Fine) (hs : e.text.size ≤ 1000) : e.small := ⟨h.mag, hs⟩

theorem Evt.part_kind (e : Evt) (p : Part) (h : e.part = some p) : p.isWord = decide (e.kind = 3) ∧ p.isClose = decide (e.kind = 7) := by
  unfold Evt.part at h
  repeat' split at h
  all_goals first
    | (injection h with h; subst h; simp_all [Part.isWord, Part.isClose]; done)
    | cases h

/-- A value that was boxed stands. -/
theorem boxed {w u : World} {cs : Array Value} {T : TypeId} (b : Below (w.alloc (.cells cs T)).heap.size (w.alloc (.cells cs T)) u) (j : Nat) (v : Value) (hj : cs[j]? = some v) : u.cell? ⟨w.heap.size, j, none⟩ = some v := by
  rw [b.cell (by rw [size_alloc]; show w.heap.size < _; omega)]
  unfold World.cell?
  simp only [heap_alloc_new]
  exact hj
end Json
end Go.Proofs.YtopaadmnlghdaaaDoor
