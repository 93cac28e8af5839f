/- Texts of the walk, joined. -/
import Derived.Lib.BufferRead
import Derived.Lib.Hide
import Derived.Lib.OthersKept
import Derived.Test.YtcjflgmcjfcodaaGreatRows
import Derived.WalkKit
import Derived.WalkSmall
set_option maxRecDepth 100000
set_option maxHeartbeats 8000000
namespace Go.Proofs.Tryz end Go.Proofs.Tryz
namespace Go.Proofs.YtcjflgmcjfcodaaGreat
open Go.Proofs.Tryz
section
open Go.RowKit
namespace Mem
theorem toList_eq (s : ByteArray) : s.toList = s.data.toList := ByteArray.toList_eq s
theorem zT (W : World) (b : Nat) (c : UInt8) (h : W.heap[b]? = some (.cells #[.int .u8 (c.toNat : Int)] 5 (0, 0))) :
  (convert 55 9 (.slice (some ⟨b, 0, none⟩) 1 1)).run prog W = .ok (.string ⟨#[c]⟩) W := by
 refine run_convert_bytes_back W _ _ 5 ⟨b, 0, none⟩ 1 [c] underlying55 underlying5 underlying9 ?_
 intro j hj
 have : j = 0 := by simpa using hj
 subst this
 simp [Addr.add, World.cell?, h]
theorem sP (w : World) (x : Int) (c : UInt8) (h : x = c.toNat) :
  (convert 55 9 (.slice (some ⟨w.heap.size, 0, none⟩) 1 1)).run prog (w.alloc (.cells #[.int .u8 x] 5)) = .ok (.string ⟨#[c]⟩) (w.alloc (.cells #[.int .u8 x] 5)) := by
 subst h
 exact zT _ _ c (heap_alloc_new w _)
theorem mk_data (s : ByteArray) : (⟨s.data.toList.toArray⟩ : ByteArray) = s := by
 apply ByteArray.ext
 simp
theorem drop_one (s : ByteArray) (i : Nat) (h : i < s.size) : s.data.toList.drop i = s[i]'h :: s.data.toList.drop (i + 1) :=
 List.drop_eq_getElem_cons (by rw [Array.length_toList]; exact h)
end Mem
end
end Go.Proofs.YtcjflgmcjfcodaaGreat
