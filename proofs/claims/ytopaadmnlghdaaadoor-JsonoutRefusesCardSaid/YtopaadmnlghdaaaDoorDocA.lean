/- Numbers as an argument; parts of a list that a writer takes. -/
import Derived.Test.YtopaadmnlghdaaaDoorDocN
import Derived.Test.YtopaadmnlghdaaaDoorDocP
namespace Go.Proofs.YtopaadmnlghdaaaDoor
open Go.RowKit
namespace Json

theorem Nums.mono {w : World} {v : Value} {l : List Int} {B C : Nat} (h : Nums w v l B) (k : B ≤ C) : Nums w v l C := by
  obtain ⟨a, c, rfl, hc⟩ := h
  refine ⟨a, c, rfl, fun j z hj => ?_⟩
  obtain ⟨bb, off, ha, hB, h1⟩ := hc j z hj
  exact ⟨bb, off, ha, by omega, h1⟩

theorem nums_of_row {w : World} {a : Option Addr} {len cap : Nat} {zs : List Int}
    (h : (a = none ∧ len = 0 ∧ cap = 0 ∧ zs = []) ∨
      ∃ x, a = some x ∧ len ≤ cap ∧ cap ≤ maxLen ∧ zs.length = cap ∧ (∀ i, i < zs.length → w.cell? (x.add i) = some (.int .i64 (zs.getD i 0))) ∧ ∀ n ∈ zs, (Lit.int .i64 n).wf = true) :
    (zs.take len).length = len ∧ Nums w (.slice a len cap) (zs.take len) w.heap.size := by
  rcases h with ⟨rfl, rfl, rfl, rfl⟩ | ⟨x, rfl, h1, h2, h3, h4, h5⟩
  · exact ⟨rfl, none, 0, rfl, fun j z hj => by simp at hj⟩
  · have hl : (zs.take len).length = len := by simp; omega
    refine ⟨hl, some x, cap, by rw [hl], fun j z hj => ?_⟩
    have hjl : j < len := by have := (List.getElem?_eq_some_iff.1 hj).1; omega
    have hc0 := h4 0 (by omega)
    have hc := h4 j (by omega)
    have hz : zs.getD j 0 = z := by
      rw [List.getElem?_take] at hj
      rw [if_pos hjl] at hj
      rw [List.getD_eq_getElem?_getD, hj]; rfl
    rw [hz] at hc
    obtain ⟨b, off, sp⟩ := x
    cases sp with
    | none =>
      rw [Addr.add_lit] at hc
      exact ⟨b, off, rfl, World.block_lt_of_cell? w _ hc, hc⟩
    | some s =>
      exfalso
      have e0 : Addr.add ⟨b, off, some s⟩ 0 = ⟨b, off, some s⟩ := by simp [Addr.add]
      rw [e0] at hc0
      unfold World.cell? at hc0
      split at hc0 <;> simp at hc0
theorem good_at {W : Wr} {es : List Evt} {W' : Wr} (h : Good W es W') {e : Evt} {es' : List Evt} (he : es = e :: es') :
    ∃ p, W.done = false ∧ e.part = some p ∧ p.small ∧ (W.step text p).2.1 = 0 ∧ Good (W.step text p).2.2 es' W' := by
  cases h with
  | nil => cases he
  | cons p hd hp hs h0 h =>
    injection he with h1 h2
    subst h1 h2
    exact ⟨p, hd, hp, Evt.part_small _ p hp hs, h0, h⟩

theorem good_end {W W' : Wr} {es : List Evt} (h : Good W es W') (he : es = []) : W = W' := by
  cases h with
  | nil => rfl
  | cons p hd hp hs h0 h => cases he

end Json
end Go.Proofs.YtopaadmnlghdaaaDoor
