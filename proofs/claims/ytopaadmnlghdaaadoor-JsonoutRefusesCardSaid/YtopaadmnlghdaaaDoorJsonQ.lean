/- The reference: May, Tidy, plain. -/
import Derived.Test.YtopaadmnlghdaaaDoorJsonO
import Derived.Test.YtopaadmnlghdaaaDoorRefBase
import Derived.Test.YtopaadmnlghdaaaDoorRefWrite
import Derived.Laws.Rows
namespace Go.Proofs.YtopaadmnlghdaaaDoor
open Go.RowKit
namespace Json

theorem kinds (k c : Int) : k = 0 ∨ k = 1 ∨ k = 2 ∨ k = 3 ∨ k = 4 ∨ (k = 5 ∧ c < -1) ∨ (k = 5 ∧ -1 ≤ c) ∨ (k = 6 ∧ c < -1) ∨ (k = 6 ∧ -1 ≤ c) ∨ k = 7 ∨ k < 0 ∨ 7 < k := by omega

set_option maxHeartbeats 2000000 in
theorem may_any (e : Evt) (w : World) : Calls Tryd.prog 15 #[e.val] w fun r w' => r = .returned (.bool e.part.isSome) ∧ Below w.heap.size w w' := by
  obtain ⟨k, y, m, t, c⟩ := e
  have B := Lib.hid fun o => (Below.refl w.heap.size w).alloc (Nat.le_refl _) o
  have hp : (Evt.mk k y m t c).part.isSome = (decide (0 ≤ k ∧ k ≤ 7) && !(decide ((k = 5 ∨ k = 6) ∧ c < -1))) := by
    unfold Evt.part
    simp only
    repeat' split
    all_goals (simp only [Option.isSome_some, Option.isSome_none]; first | (symm; simp; omega) | skip)
  rw [hp]
  have HP := Lib.hid hp
  clear hp
  simp only [Evt.val, Evt.cells]
  rcases kinds k c with rfl | rfl | rfl | rfl | rfl | ⟨rfl, hc⟩ | ⟨rfl, hc⟩ | ⟨rfl, hc⟩ | ⟨rfl, hc⟩ | rfl | h | h
  all_goals
    go_enter Tryd.func15, Tryd.ntmps15
    go_wp2
    go_ret
    refine ⟨Own.ret_bool ?_, B.out _⟩
    simp
    try omega

def Evt.tidy (e : Evt) : Evt :=
  if e.kind = 1 then ⟨e.kind, e.yes, 0, ⟨#[]⟩, 0⟩
  else if e.kind = 2 then ⟨e.kind, e.yes, e.mag, ⟨#[]⟩, 0⟩
  else if e.kind = 3 ∨ e.kind = 4 then ⟨e.kind, false, 0, e.text, 0⟩
  else if e.kind = 5 ∨ e.kind = 6 then ⟨e.kind, false, 0, ⟨#[]⟩, e.count⟩
  else ⟨e.kind, false, 0, ⟨#[]⟩, 0⟩

theorem Evt.tidy_part (e : Evt) : e.tidy.part = e.part := by
  obtain ⟨k, y, m, t, c⟩ := e
  rcases kinds k c with rfl | rfl | rfl | rfl | rfl | ⟨rfl, hc⟩ | ⟨rfl, hc⟩ | ⟨rfl, hc⟩ | ⟨rfl, hc⟩ | rfl | h | h
  all_goals first
    | rfl
    | (have e : Evt.tidy ⟨k, y, m, t, c⟩ = ⟨k, false, 0, ⟨#[]⟩, 0⟩ := by
         unfold Evt.tidy
         simp only
         rw [if_neg (by omega), if_neg (by omega), if_neg (by omega), if_neg (by omega)]
       rw [e]
       unfold Evt.part
       simp only
       rw [if_neg (by omega), if_neg (by omega), if_neg (by omega), if_neg (by omega), if_neg (by omega), if_neg (by omega), if_neg (by omega), if_neg (by omega)]
       rw [if_neg (by omega), if_neg (by omega), if_neg (by omega), if_neg (by omega), if_neg (by omega), if_neg (by omega), if_neg (by omega)])

theorem Evt.tidy_fine {e : Evt} (h : e.small) : e.tidy.small := by
  obtain ⟨k, y, m, t, c⟩ := e
  unfold Evt.tidy
  have h0 : (⟨#[]⟩ : ByteArray).size = 0 := rfl
  obtain ⟨h1, h2⟩ := h
  simp only at h1 h2
  repeat' split
  all_goals (refine ⟨?_, ?_⟩ <;> simp only [h0] <;> first | exact h1 | exact h2 | omega)

set_option maxHeartbeats 2000000 in
theorem tidy_any (e : Evt) (w : World) : Calls Tryd.prog 13 #[e.val] w fun r w' => r = .returned e.tidy.val ∧ Below w.heap.size w w' := by
  obtain ⟨k, y, m, t, c⟩ := e
  simp only [Evt.val, Evt.cells, Evt.tidy]
  rcases (show k = 1 ∨ k = 2 ∨ k = 3 ∨ k = 4 ∨ k = 5 ∨ k = 6 ∨ (k ≠ 1 ∧ k ≠ 2 ∧ k ≠ 3 ∧ k ≠ 4 ∧ k ≠ 5 ∧ k ≠ 6) by omega) with rfl | rfl | rfl | rfl | rfl | rfl | ⟨h1, h2, h3, h4, h5, h6⟩
  all_goals
    go_enter Tryd.func13, Tryd.ntmps13
    go_wp2
    refine bodyPost_ret (results_cell_row rfl _ _ (w.heap.size + 1) 34 _ (0, 0) _ rfl (heap_alloc2_new _ _ _) Tryd.underlying34 rfl (by kernel_rfl)) rfl ?_
    refine ⟨?_, ((Below.refl w.heap.size w).alloc (Nat.le_refl _) _).alloc (by rw [size_alloc]; omega) _⟩
    first
      | rfl
      | (rw [if_neg (by omega), if_neg (by omega), if_neg (by omega), if_neg (by omega)])

set_option maxHeartbeats 4000000 in
theorem refPlain_any (e : Evt) (p : Part) (hp : e.part = some p) (hc : p.isClose = false) (hg : p.isBegin = false) (hs : e.small) (w : World) :
    Calls Tryd.prog 28 #[.int .i64 1, e.val] w fun r w' => r = .returned (.tuple #[.string ⟨(text p).toArray⟩, .int .i64 0]) ∧ Below w.heap.size w w' := by
  have B0 := Lib.hid (fun o => (Below.refl w.heap.size w).alloc (Nat.le_refl _) o)
  have bel : ∀ {W : World} {o : Obj}, Below (w.alloc o).heap.size (w.alloc o) W → Below w.heap.size w W := fun {W o} b => (B0.out o).trans (b.mono (by rw [size_alloc]; omega))
  have Bel := @Lib.hid _ @bel
  clear bel
  obtain ⟨k, y, m, t, c⟩ := e
  simp only [Evt.val, Evt.cells]
  unfold Evt.part at hp
  simp only at hp
  rcases kinds k c with rfl | rfl | rfl | rfl | rfl | ⟨rfl, hc'⟩ | ⟨rfl, hc'⟩ | ⟨rfl, hc'⟩ | ⟨rfl, hc'⟩ | rfl | h | h
  all_goals first
    | (cases hp; cases hc; done)
    | (cases hp; cases hg; done)
    | (exfalso; rw [if_neg (by omega), if_neg (by omega), if_neg (by omega), if_neg (by omega), if_neg (by omega), if_neg (by omega), if_neg (by omega), if_neg (by omega)] at hp; cases hp; done)
    | (exfalso; rw [if_neg (by omega), if_neg (by omega), if_neg (by omega), if_neg (by omega), if_neg (by omega), if_pos (by omega), if_pos (by omega)] at hp; cases hp; done)
    | skip
  all_goals
    simp at hp
    first
      | subst hp
      | (exfalso; obtain ⟨h1, rfl⟩ := hp; first | omega | cases hg)
  · clear hc hg hs
    go_enter Tryd.func28, Tryd.ntmps28
    go_wp2
    go_ret2
    exact ⟨rfl, B0.out _⟩
  · clear hc hg hs
    cases y
    all_goals
      go_enter Tryd.func28, Tryd.ntmps28
      go_wp2
      go_ret2
      exact ⟨rfl, B0.out _⟩
  · have HP := Lib.hid (fun u => refPrint_any y m hs.1 u)
    clear hc hg hs
    go_enter Tryd.func28, Tryd.ntmps28
    go_wp2_with (fail)
    refine (HP.out _).mono ?_
    rintro r W ⟨rfl, b⟩
    go_wp2
    go_ret2
    exact ⟨rfl, Bel.out b⟩
  · have ht : t.size ≤ 1000 := hs.2
    have hq := Lib.hid (quoted (Esc.write t.data.toList))
    have HF := Lib.hid (fun W => Ref.write_any t W (by omega))
    have hsz : (⟨(Esc.write t.data.toList).toArray⟩ : ByteArray).size ≤ 6000 := by
      rw [show (⟨(Esc.write t.data.toList).toArray⟩ : ByteArray).size = (Esc.write t.data.toList).length from List.size_toArray ..]
      have := write_len t.data.toList
      have hl : t.data.toList.length = t.size := Array.length_toList
      omega
    obtain ⟨S, hS⟩ : ∃ S : ByteArray, S = ⟨(Esc.write t.data.toList).toArray⟩ := ⟨_, rfl⟩
    rw [← hS] at hsz HF hq
    clear hS hs hc hg
    go_enter Tryd.func28, Tryd.ntmps28
    go_wp2_with (fail)
    refine (HF.out _).mono ?_
    rintro r W ⟨rfl, b⟩
    go_wp2
    go_ret2
    exact ⟨congrArg (fun x => Ending.returned (.tuple #[.string x, .int .i64 0])) hq.out, Bel.out b⟩
  · have ht : t.size ≤ 1000 := hs.2
    have hq := Lib.hid (quoted (Base.put t.data.toList))
    have HF := Lib.hid (fun W => RefBase.any t W (by omega))
    have hsz : (⟨(Base.put t.data.toList).toArray⟩ : ByteArray).size ≤ 6000 := by
      rw [show (⟨(Base.put t.data.toList).toArray⟩ : ByteArray).size = (Base.put t.data.toList).length from List.size_toArray ..]
      have := Base.put_length t.data.toList
      have hl : t.data.toList.length = t.size := Array.length_toList
      omega
    obtain ⟨S, hS⟩ : ∃ S : ByteArray, S = ⟨(Base.put t.data.toList).toArray⟩ := ⟨_, rfl⟩
    rw [← hS] at hsz HF hq
    clear hS hs hc hg
    go_enter Tryd.func28, Tryd.ntmps28
    go_wp2_with (fail)
    refine (HF.out _).mono ?_
    rintro r W ⟨rfl, b⟩
    go_wp2
    go_ret2
    exact ⟨congrArg (fun x => Ending.returned (.tuple #[.string x, .int .i64 0])) hq.out, by first | exact Bel.out b | (subst b; exact B0.out _)⟩
end Json
end Go.Proofs.YtopaadmnlghdaaaDoor
