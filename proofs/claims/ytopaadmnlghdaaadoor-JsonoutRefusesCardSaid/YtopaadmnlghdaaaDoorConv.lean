/- string([]byte{..}): the block that was just made, read as a string. -/
import Derived.WalkKit
import Derived.Laws.BytesArg
import Derived.Test.YtopaadmnlghdaaaDoorChecked
namespace Go.Proofs.YtopaadmnlghdaaaDoor
namespace Conv

theorem at_new (w W : World) (xs : List Int) (h : W.heap[w.heap.size]? = some (.cells (xs.map (Value.int .u8)).toArray 5 (0, 0))) (n : Nat) (hn : xs.length = n) :
    (convert 77 9 (.slice (some ⟨w.heap.size, 0, none⟩) n n)).run Tryd.prog W = .ok (.string (strOfNums xs)) W := by
  refine run_convert_bytes_arg W _ 5 Tryd.underlying77 Tryd.underlying5 w.heap.size 0 n n xs hn ?_ _ Tryd.underlying9
  intro i hi
  have hi2 : i < xs.length := by omega
  simp [World.cell?, h, hi2]

theorem one (w : World) (a : Int) : (convert 77 9 (.slice (some ⟨w.heap.size, 0, none⟩) 1 1)).run Tryd.prog (w.alloc (.cells #[.int .u8 a] 5)) = .ok (.string (strOfNums [a])) (w.alloc (.cells #[.int .u8 a] 5)) :=
  at_new w _ [a] (heap_alloc_new w _) 1 rfl
theorem two (w : World) (a b : Int) : (convert 77 9 (.slice (some ⟨w.heap.size, 0, none⟩) 2 2)).run Tryd.prog (w.alloc (.cells #[.int .u8 a, .int .u8 b] 5)) = .ok (.string (strOfNums [a, b])) (w.alloc (.cells #[.int .u8 a, .int .u8 b] 5)) :=
  at_new w _ [a, b] (heap_alloc_new w _) 2 rfl
theorem three (w : World) (a b c : Int) : (convert 77 9 (.slice (some ⟨w.heap.size, 0, none⟩) 3 3)).run Tryd.prog (w.alloc (.cells #[.int .u8 a, .int .u8 b, .int .u8 c] 5)) = .ok (.string (strOfNums [a, b, c])) (w.alloc (.cells #[.int .u8 a, .int .u8 b, .int .u8 c] 5)) :=
  at_new w _ [a, b, c] (heap_alloc_new w _) 3 rfl
theorem four (w : World) (a b c d : Int) : (convert 77 9 (.slice (some ⟨w.heap.size, 0, none⟩) 4 4)).run Tryd.prog (w.alloc (.cells #[.int .u8 a, .int .u8 b, .int .u8 c, .int .u8 d] 5)) = .ok (.string (strOfNums [a, b, c, d])) (w.alloc (.cells #[.int .u8 a, .int .u8 b, .int .u8 c, .int .u8 d] 5)) :=
  at_new w _ [a, b, c, d] (heap_alloc_new w _) 4 rfl
theorem four_drew (w : World) (a b c d : Int) : (convert 77 9 (.slice (some ⟨w.heap.size, 0, none⟩) 4 4)).run Tryd.prog (w.alloc (.cells #[.int .u8 a, .int .u8 b, .int .u8 c, .int .u8 d] 5)).drew = .ok (.string (strOfNums [a, b, c, d])) (w.alloc (.cells #[.int .u8 a, .int .u8 b, .int .u8 c, .int .u8 d] 5)).drew :=
  at_new w (w.alloc (.cells #[.int .u8 a, .int .u8 b, .int .u8 c, .int .u8 d] 5)).drew [a, b, c, d] (heap_alloc_new w _) 4 rfl
theorem two_drew (w : World) (a b : Int) : (convert 77 9 (.slice (some ⟨w.heap.size, 0, none⟩) 2 2)).run Tryd.prog (w.alloc (.cells #[.int .u8 a, .int .u8 b] 5)).drew = .ok (.string (strOfNums [a, b])) (w.alloc (.cells #[.int .u8 a, .int .u8 b] 5)).drew :=
  at_new w (w.alloc (.cells #[.int .u8 a, .int .u8 b] 5)).drew [a, b] (heap_alloc_new w _) 2 rfl
end Conv
end Go.Proofs.YtopaadmnlghdaaaDoor
