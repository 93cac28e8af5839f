/- Texts of the walk, joined: Mem. -/
import Derived.Lib.BufferRead
import Derived.Lib.Hide
import Derived.Lib.OthersKept
import Derived.Test.YthnbpnfaghjamaaGreatRows
import Derived.WalkKit
import Derived.WalkSmall
/- Small laws on memory: an owned row of bytes read as a string; what stays under 'Below'. -/
namespace Go.Proofs.YthnbpnfaghjamaaGreat
open Go.RowKit
namespace Mem

/-- All that was there stands: what is owned stays owned. -/
theorem owns_below {w w' : World} {base : Nat} {e : TypeId} {size : Nat} {v : Value} {n : Nat} {xs : List Value} (h : w.ownsRow base e size v n xs) (hb : Below w.heap.size w w') : w'.ownsRow base e size v n xs := by
  refine ⟨h.1, ?_⟩
  rcases h.2 with hn | ⟨g, cap, cur, rfl, hB, hg, rest⟩
  · exact .inl hn
  · exact .inr ⟨g, cap, cur, rfl, hB, by rw [hb.block g (Array.getElem?_eq_some_iff.1 hg).1]; exact hg, rest⟩

/-- A bytes' row of one's own, as a string. -/
theorem run_str {w : World} {base : Nat} {v : Value} {l : List UInt8} (h : w.ownsRow base 5 1 v l.length (Lib.byteCells l)) :
    (convert 47 9 v).run Tryz.prog w = .ok (.string ⟨l.toArray⟩) w := by
  rcases h.2 with ⟨rfl, h0⟩ | ⟨g, cap, cur, rfl, hB, hg, hnc, hcm, hcs, htk⟩
  · rw [Lib.run_convert_nil_bytes w _ _ 5 0 Tryz.underlying47 Tryz.underlying5 Tryz.underlying9]
    have : l = [] := List.eq_nil_of_length_eq_zero h0
    subst this
    rfl
  · exact run_convert_bytes_back w _ _ 5 ⟨g, 0, none⟩ _ l Tryz.underlying47 Tryz.underlying5 Tryz.underlying9 (Lib.bytes_of_row hg (by simpa using htk))

theorem toList_eq (s : ByteArray) : s.toList = s.data.toList := ByteArray.toList_eq s

/-- string([]byte{c}): the block that was just made, read as a string. -/
theorem run_one_at (W : World) (b : Nat) (c : UInt8) (h : W.heap[b]? = some (.cells #[.int .u8 (c.toNat : Int)] 5 (0, 0))) :
    (convert 47 9 (.slice (some ⟨b, 0, none⟩) 1 1)).run Tryz.prog W = .ok (.string ⟨#[c]⟩) W := by
  refine run_convert_bytes_back W _ _ 5 ⟨b, 0, none⟩ 1 [c] Tryz.underlying47 Tryz.underlying5 Tryz.underlying9 ?_
  intro j hj
  have : j = 0 := by simpa using hj
  subst this
  simp [Addr.add, World.cell?, h]

theorem run_one (w : World) (c : UInt8) :
    (convert 47 9 (.slice (some ⟨w.heap.size, 0, none⟩) 1 1)).run Tryz.prog (w.alloc (.cells #[.int .u8 (c.toNat : Int)] 5)).drew = .ok (.string ⟨#[c]⟩) (w.alloc (.cells #[.int .u8 (c.toNat : Int)] 5)).drew :=
  run_one_at _ _ c (heap_alloc_new w _)

theorem run_one_plain (w : World) (x : Int) (c : UInt8) (h : x = c.toNat) :
    (convert 47 9 (.slice (some ⟨w.heap.size, 0, none⟩) 1 1)).run Tryz.prog (w.alloc (.cells #[.int .u8 x] 5)) = .ok (.string ⟨#[c]⟩) (w.alloc (.cells #[.int .u8 x] 5)) := by
  subst h
  exact run_one_at _ _ c (heap_alloc_new w _)

theorem ret_bool {b : Bool} (h : b = true) : Ending.returned (.bool b) = .returned (.bool true) := by rw [h]

theorem append_mk (p q : List UInt8) : (⟨p.toArray⟩ ++ ⟨q.toArray⟩ : ByteArray) = ⟨(p ++ q).toArray⟩ := by
  apply ByteArray.ext
  simp

theorem mk_data (s : ByteArray) : (⟨s.data.toList.toArray⟩ : ByteArray) = s := by
  apply ByteArray.ext
  simp

theorem size_mk (p : List UInt8) : (⟨p.toArray⟩ : ByteArray).size = p.length := by
  show p.toArray.size = _
  simp

theorem turned_at (p : ByteArray) (k : Nat) (c : UInt8) (hk : k < p.size) (h : p = p.extract 0 k ++ ⟨#[c]⟩ ++ p.extract (k + 1) p.size) : p[k]'hk = c := by
  obtain ⟨r, hl⟩ : ∃ r, p.data.toList = p.data.toList.take k ++ (c :: r) := by
    have := congrArg (fun q : ByteArray => q.data.toList) h
    exact ⟨_, by simpa [List.extract_eq_take_drop] using this⟩
  have hk2 : k < p.data.toList.length := by rw [Array.length_toList]; exact hk
  have e1 : p.data.toList[k]? = some (p[k]'hk) := by
    rw [List.getElem?_eq_getElem hk2]; rfl
  have e2 : (p.data.toList.take k).length = k := by rw [List.length_take]; omega
  rw [hl, List.getElem?_append_right (by omega), e2, Nat.sub_self] at e1
  simpa using e1.symm

theorem drop_one (s : ByteArray) (i : Nat) (h : i < s.size) : s.data.toList.drop i = s[i]'h :: s.data.toList.drop (i + 1) :=
  List.drop_eq_getElem_cons (by rw [Array.length_toList]; exact h)

theorem drop_none (s : ByteArray) (i : Nat) (h : s.size ≤ i) : s.data.toList.drop i = [] :=
  List.drop_eq_nil_of_le (by rw [Array.length_toList]; exact h)
end Mem
end Go.Proofs.YthnbpnfaghjamaaGreat
