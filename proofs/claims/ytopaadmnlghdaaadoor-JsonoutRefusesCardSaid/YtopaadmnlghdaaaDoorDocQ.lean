/- truchmanbook.Doc: all of it. -/
import Derived.Test.YtopaadmnlghdaaaDoorDocM
namespace Go.Proofs.YtopaadmnlghdaaaDoor
open Go.RowKit
namespace Json

theorem pow_small (depth : Nat) (h : depth ≤ 8) : 4 * 3 ^ depth ≤ 30000 := by
  have h2 : 3 ^ depth ≤ 3 ^ 8 := Nat.pow_le_pow_right (by omega) h
  have : (3 : Nat) ^ 8 = 6561 := rfl
  omega

/-- The world in which Doc calls 'item'. -/
abbrev docWorld (v : Value) (depth : Nat) (w : World) : World :=
  ((((((w.alloc (.cells #[v] 47)).alloc (.cells #[.int .i64 (depth : Int)] 3)).alloc (.cells #[.slice none 0 0] 22)).alloc (.cells #[.int .i64 0] 3)).alloc
    (.cells #[.func (.func 31) #[] #[.pointer (some ⟨w.heap.size + 1 + 1 + 1, 0, none⟩), .pointer (some ⟨w.heap.size, 0, none⟩)]] 80)).alloc
    (.cells #[.func (.func 32) #[] #[.pointer (some ⟨w.heap.size + 1 + 1 + 1 + 1, 0, none⟩), .pointer (some ⟨w.heap.size + 1 + 1, 0, none⟩), .pointer (some ⟨w.heap.size + 1, 0, none⟩), .pointer (some ⟨w.heap.size + 1 + 1 + 1 + 1 + 1, 0, none⟩)]] 81))

theorem doc_turn (depth : Nat) (v : Value) (w : World) :
    Own.Turn [] (docHeap (w.heap.size + 1 + 1 + 1 + 1) (w.heap.size + 1) (w.heap.size + 1 + 1 + 1 + 1 + 1) (w.heap.size + 1 + 1 + 1) w.heap.size (w.heap.size + 1 + 1) depth v 0 (.slice none 0 0) []) w (docWorld v depth w) := by
  have t : Own.Turn [] [Own.row (w.heap.size + 1 + 1 + 1 + 1 + 1) 81 [.func (.func 32) #[] #[.pointer (some ⟨w.heap.size + 1 + 1 + 1 + 1, 0, none⟩), .pointer (some ⟨w.heap.size + 1 + 1, 0, none⟩), .pointer (some ⟨w.heap.size + 1, 0, none⟩), .pointer (some ⟨w.heap.size + 1 + 1 + 1 + 1 + 1, 0, none⟩)]],
        Own.row (w.heap.size + 1 + 1 + 1 + 1) 80 [.func (.func 31) #[] #[.pointer (some ⟨w.heap.size + 1 + 1 + 1, 0, none⟩), .pointer (some ⟨w.heap.size, 0, none⟩)]],
        Own.row (w.heap.size + 1 + 1 + 1) 3 [.int .i64 ((0 : Nat) : Int)], Own.row (w.heap.size + 1 + 1) 22 [.slice none 0 0], Own.row (w.heap.size + 1) 3 [.int .i64 (depth : Int)], Own.row w.heap.size 47 [v]] w (docWorld v depth w) :=
    ((((((Own.Turn.refl (Own.Has.nil w)).allocAt w.heap.size rfl (.cells #[v] 47)).allocAt (w.heap.size + 1) (size_alloc ..) (.cells #[.int .i64 (depth : Int)] 3)).allocAt (w.heap.size + 1 + 1) (by rw [size_alloc, size_alloc]) (.cells #[.slice none 0 0] 22)).allocAt (w.heap.size + 1 + 1 + 1) (by rw [size_alloc, size_alloc, size_alloc]) (.cells #[.int .i64 0] 3)).allocAt (w.heap.size + 1 + 1 + 1 + 1) (by rw [size_alloc, size_alloc, size_alloc, size_alloc])
        (.cells #[.func (.func 31) #[] #[.pointer (some ⟨w.heap.size + 1 + 1 + 1, 0, none⟩), .pointer (some ⟨w.heap.size, 0, none⟩)]] 80)).allocAt (w.heap.size + 1 + 1 + 1 + 1 + 1) (by rw [size_alloc, size_alloc, size_alloc, size_alloc, size_alloc])
        (.cells #[.func (.func 32) #[] #[.pointer (some ⟨w.heap.size + 1 + 1 + 1 + 1, 0, none⟩), .pointer (some ⟨w.heap.size + 1 + 1, 0, none⟩), .pointer (some ⟨w.heap.size + 1, 0, none⟩), .pointer (some ⟨w.heap.size + 1 + 1 + 1 + 1 + 1, 0, none⟩)]] 81)
  exact t.perm (.refl _) (Own.perm_of_count _ _ fun x => by simp only [docHeap, List.count_append, List.count_cons, List.count_nil]; omega)

theorem doc_made (l : List Int) (depth : Nat) (v : Value) (w : World) (hn : Nums w v l w.heap.size) :
    DocAt l w.heap.size (w.heap.size + 1 + 1 + 1 + 1) (w.heap.size + 1) (w.heap.size + 1 + 1 + 1 + 1 + 1) (w.heap.size + 1 + 1 + 1) w.heap.size (w.heap.size + 1 + 1) depth v 0 [] (.slice none 0 0) [] (docWorld v depth w) := by
  have t2 := doc_turn depth v w
  exact ⟨hn.below (t2.below (fun x hx => by cases hx) (Nat.le_refl _)), t2.has, t2.least (fun x hx => by cases hx) (Nat.le_refl _), .bare none rfl rfl⟩

set_option maxRecDepth 100000 in
set_option maxHeartbeats 4000000 in
theorem doc_any (l : List Int) (depth : Nat) (hd : depth ≤ 8) (v : Value) (w : World) (hn : Nums w v l w.heap.size) :
    Calls Tryd.prog 19 #[v, .int .i64 (depth : Int)] w fun e w' => ∃ ov, e = .returned ov ∧ Reads w' ov (doc l depth) ∧ Below w.heap.size w w' := by
  have hp := pow_small depth hd
  have hm := doc_made l depth v w hn
  have HM := Lib.hid (doc_turn depth v w)
  have HI := Lib.hid (item_does l w.heap.size depth _ _ _ _ _ _ 0 0 depth v 0 [] _ [] _ rfl (by omega) (by omega) hm (by omega) (by show 0 + _ ≤ _; omega))
  obtain ⟨a, c, rfl, _⟩ := hn
  clear hm hp
  generalize hit : item l depth 0 = it at HI
  have hdoc := Lib.hid (show doc l depth = it.1 by unfold doc; rw [hit])
  clear hit
  obtain ⟨its, k'⟩ := it
  simp only [List.nil_append] at HI
  generalize l.length = n at HI HM
  go_enter Tryd.func19, Tryd.ntmps19
  go_wp2_with (fail)
  refine HI.out.mono ?_
  rintro e W' ⟨⟨r, rfl⟩, ov', ho', s', t'⟩
  have hR := Lib.hid (Reads.of_slk s' (Own.Has.right (a := [_]) t'.has.right.right))
  have hB := Lib.hid ((HM.out.trans t').below (fun x hx => by cases hx) (Nat.le_refl _))
  have c5 := t'.has.cell (w.heap.size + 1 + 1) _ _ (List.mem_append_right _ (List.mem_append_right _ (List.mem_cons_self ..))) 0 _ rfl
  clear s' t'
  go_wp2_with (fail)
  go_ret
  rw [hdoc.out]
  exact ⟨_, rfl, hR.out, hB.out⟩
end Json
end Go.Proofs.YtopaadmnlghdaaaDoor
