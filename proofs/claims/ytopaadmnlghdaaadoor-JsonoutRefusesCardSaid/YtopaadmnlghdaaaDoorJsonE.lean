/- The writer of JSON: parts that are none; a writer at its end. -/
import Derived.Test.YtopaadmnlghdaaaDoorJsonW
namespace Go.Proofs.YtopaadmnlghdaaaDoor
open Go.RowKit
namespace Json

set_option maxRecDepth 100000 in
set_option maxHeartbeats 400000 in
/-- A part that is not handed in at all, or a writer that is at its end. -/
theorem step_end {W : Wr} {wb : Nat} {h : Own.Heap} {w : World} (hi : W.Is wb h) (hw : Own.Has w h) (p : Part) (hp : p.may = false ∨ W.done = true) :
    Calls Tryd.prog 11 #[.pointer (some ⟨wb, 0, none⟩), p.val] w fun e w' => e = .returned (.tuple #[.string ⟨#[]⟩, .int .i64 14]) ∧ Own.Turn h h w w' := by
  obtain ⟨V, hV⟩ : ∃ V, V = p.val := ⟨_, rfl⟩
  obtain ⟨a, b, m, s, c, hc⟩ := plain_out p V hV w
  rw [← hV]
  have hI := Lib.hid hi
  have hW := Lib.hid hw
  obtain ⟨lv, hl, rfl, hs⟩ := hi
  clear hs hw
  have HC := Lib.hid hc
  clear hc hV
  generalize p.may = y at HC hp
  have HP := Lib.hid hp
  clear hp
  go_enter Tryd.func11, Tryd.ntmps11
  go_wp2_with (fail)
  refine HC.out.mono ?_
  rintro e W1 ⟨rfl, b1⟩
  have t1 := Own.Turn.of_below hW.out b1
  have c1 := fun o => (t1.litter o).has.cell wb _ _ (List.mem_cons_self ..) 1 _ rfl
  cases y
  · go_wp2
    go_ret2
    exact ⟨rfl, t1.litter _⟩
  · have hd : W.done = true := by rcases HP.out with h | h; cases h; exact h
    simp only [hd] at c1
    go_wp2
    go_ret2
    exact ⟨rfl, t1.litter _⟩

set_option maxRecDepth 100000 in
set_option maxHeartbeats 400000 in
theorem step_nil (p : Part) (w : World) :
    Calls Tryd.prog 11 #[.pointer none, p.val] w fun e w' => e = .returned (.tuple #[.string ⟨#[]⟩, .int .i64 14]) ∧ Below w.heap.size w w' := by
  obtain ⟨V, hV⟩ : ∃ V, V = p.val := ⟨_, rfl⟩
  obtain ⟨a, b, m, s, c, hc⟩ := plain_out p V hV w
  rw [← hV]
  have HC := Lib.hid hc
  clear hc hV
  generalize p.may = y at HC
  have B0 := Lib.hid (fun (W : World) (b : Below w.heap.size w W) (o : Obj) => b.alloc b.size o)
  go_enter Tryd.func11, Tryd.ntmps11
  go_wp2_with (fail)
  refine HC.out.mono ?_
  rintro e W1 ⟨rfl, b1⟩
  go_wp2
  go_ret2
  exact ⟨rfl, B0.out _ b1 _⟩

end Json
end Go.Proofs.YtopaadmnlghdaaaDoor
