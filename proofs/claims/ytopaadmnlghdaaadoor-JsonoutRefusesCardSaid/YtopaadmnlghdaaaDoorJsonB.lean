/- The law's first look; a new slice of parts. -/
import Derived.Test.YtopaadmnlghdaaaDoorJsonA
namespace Go.Proofs.YtopaadmnlghdaaaDoor
open Go.RowKit
namespace Json

theorem flat_len (es : List Evt) : (es.flatMap Evt.cells).length = es.length * 5 := by
  induction es with
  | nil => rfl
  | cons e l ih => rw [List.flatMap_cons, List.length_append, ih]; simp [Evt.cells]; omega

/-- A slice that was just made. -/
theorem Reads.new (w : World) (es : List Evt) (cs : Array Value) (h : cs.toList = es.flatMap Evt.cells) (n : Nat) (hn : n = es.length) :
    Reads (w.alloc (.cells cs 34)) (.slice (some ⟨w.heap.size, 0, none⟩) n n) es := by
  subst hn
  refine ⟨_, _, rfl, fun j u hj => ⟨_, _, rfl, ?_⟩⟩
  have := Own.cells_new w (es.flatMap Evt.cells) 34 (0, 0) j u hj
  rw [Addr.add_lit] at this
  rw [← h] at this
  exact this

def aliveEvs : List Evt := [⟨5, false, 0, ⟨#[]⟩, -1⟩, ⟨0, false, 0, ⟨#[]⟩, 0⟩, ⟨3, false, 0, ⟨#[97]⟩, 0⟩, ⟨7, false, 0, ⟨#[]⟩, 0⟩]

theorem alive_plain : Wr.zero.all text aliveEvs = ([91, 110, 117, 108, 108, 44, 34, 97, 34, 93], 0) := by decide +kernel

theorem alive_small : ∀ e ∈ aliveEvs, e.small := by
  intro e he
  simp only [aliveEvs, List.mem_cons, List.not_mem_nil, or_false] at he
  rcases he with rfl | rfl | rfl | rfl <;> exact ⟨by decide, by decide⟩

set_option maxHeartbeats 1000000 in
theorem alive_any (w : World) (T : Tabs w) : Calls Tryd.prog 9 #[] w fun e w' => e = .returned (.bool true) ∧ Below w.heap.size w w' := by
  have HA := Lib.hid (fun u c (hc : c.toList = aliveEvs.flatMap Evt.cells) (t : Tabs u) => all_any aliveEvs (.slice (some ⟨u.heap.size, 0, none⟩) 4 4) (u.alloc (.cells c 34)) (Reads.new u aliveEvs c hc 4 rfl) (by decide) alive_small (t.below ((Below.refl u.heap.size u).alloc (Nat.le_refl _) _)))
  have HT := Lib.hid T
  have HB := Lib.hid (fun o => (Below.refl w.heap.size w).alloc (Nat.le_refl _) o)
  clear T
  rw [alive_plain] at HA
  go_enter Tryd.func9, Tryd.ntmps9
  go_wp2_with (fail)
  refine (HA.out w _ rfl HT.out).mono ?_
  rintro e W ⟨rfl, b⟩
  go_wp2
  go_ret
  exact ⟨rfl, (HB.out _).trans (b.mono (by rw [size_alloc]; omega))⟩
end Json
end Go.Proofs.YtopaadmnlghdaaaDoor
