/- Texts of the walk, joined. -/
import Derived.Test.YthnbpnfaghjamaaGreatK41
import Derived.Test.YthnbpnfaghjamaaGreatK42
/- The reference's Writer.Step of bytes, or of a text, on a fresh writer. (Written by wip/gen_rfs.py.) -/
namespace Go.Proofs.YthnbpnfaghjamaaGreat
open Go.RowKit
open Json (Part)
namespace Pip
theorem cat_none (X : ByteArray) : (⟨#[]⟩ : ByteArray) ++ X = X := by
 apply ByteArray.ext
 simp
def PlainTells (to : Int) (ev : Value) (X : ByteArray) : Prop := ∀ u, Calls Tryz.prog 47 #[.int .i64 to, ev] u fun e w' => e = .returned (.tuple #[.string X, .int .i64 0]) ∧ Below u.heap.size u w'
set_option maxRecDepth 100000 in
theorem rmay3 (s : ByteArray) (w : World) : Calls Tryz.prog 44 #[.agg #[.int .i64 3, .bool false, .int .u64 0, .string s, .int .i64 0]] w fun e w' => e = .returned (.bool true) ∧ Below w.heap.size w w' := by
 have HB := Lib.hid (fun o => (Below.refl w.heap.size w).alloc (Nat.le_refl _) o)
 go_enter Tryz.func44, Tryz.ntmps44
 go_wp2
 go_ret
 exact ⟨rfl, HB.out _⟩
set_option maxRecDepth 100000 in
set_option maxHeartbeats 8000000 in
theorem rstep3 (to : Int) (s X : ByteArray) (hX : X.size ≤ 10000) (H : PlainTells to (.agg #[.int .i64 3, .bool false, .int .u64 0, .string s, .int .i64 0]) X) {wb : Nat} {w : World} (hw : Own.Has w [Own.row wb 43 [.int .i64 to, .slice none 0 0, .bool false]]) :
  Calls Tryz.prog 22 #[.pointer (some ⟨wb, 0, none⟩), .agg #[.int .i64 3, .bool false, .int .u64 0, .string s, .int .i64 0]] w fun e w' => e = .returned (.tuple #[.string X, .int .i64 0]) ∧ Own.Turn [Own.row wb 43 [.int .i64 to, .slice none 0 0, .bool false]] [Own.row wb 43 [.int .i64 to, .slice none 0 0, .bool true]] w w' := by
 have HM := Lib.hid (fun u => rmay3 s u)
 have HP := Lib.hid H
 have hcat := cat_none X
 have TA := Lib.hid (show Own.Turn [Own.row wb 43 [.int .i64 to, .slice none 0 0, .bool false]] ([Own.row w.heap.size 39 [.int .i64 3, .bool false, .int .u64 0, .string s, .int .i64 0]] ++ [Own.row wb 43 [.int .i64 to, .slice none 0 0, .bool false]]) w (w.alloc (.cells #[.int .i64 3, .bool false, .int .u64 0, .string s, .int .i64 0] 39)) from (Own.Turn.refl hw).allocRow w.heap.size rfl 39 [.int .i64 3, .bool false, .int .u64 0, .string s, .int .i64 0])
 have a0 := TA.out.has.right.cell wb _ _ (List.mem_cons_self ..) 0 _ rfl
 have a1 := TA.out.has.right.cell wb _ _ (List.mem_cons_self ..) 1 _ rfl
 have a2 := TA.out.has.right.cell wb _ _ (List.mem_cons_self ..) 2 _ rfl
 clear hw H
 go_enter Tryz.func22, Tryz.ntmps22
 go_wp2_with (fail)
 refine (HM.out _).mono ?_
 rintro e w1 ⟨rfl, b1⟩
 have TB := Lib.hid (TA.out.trans (Own.Turn.of_below TA.out.has b1))
 clear b1 a0 a1 a2
 have a0 := TB.out.has.right.cell wb _ _ (List.mem_cons_self ..) 0 _ rfl
 have a1 := TB.out.has.right.cell wb _ _ (List.mem_cons_self ..) 1 _ rfl
 have a2 := TB.out.has.right.cell wb _ _ (List.mem_cons_self ..) 2 _ rfl
 have b0 := TB.out.has.left.cell w.heap.size _ _ (List.mem_cons_self ..) 0 _ rfl
 have b1 := TB.out.has.left.cell w.heap.size _ _ (List.mem_cons_self ..) 1 _ rfl
 have b2 := TB.out.has.left.cell w.heap.size _ _ (List.mem_cons_self ..) 2 _ rfl
 have b3 := TB.out.has.left.cell w.heap.size _ _ (List.mem_cons_self ..) 3 _ rfl
 have b4 := TB.out.has.left.cell w.heap.size _ _ (List.mem_cons_self ..) 4 _ rfl
 have HPW := Lib.hid (fun (u W : World) (t : Own.Turn [Own.row wb 43 [.int .i64 to, .slice none 0 0, .bool false]] ([Own.row w.heap.size 39 [.int .i64 3, .bool false, .int .u64 0, .string s, .int .i64 0]] ++ [Own.row wb 43 [.int .i64 to, .slice none 0 0, .bool false]]) w u) (b : Below u.heap.size u W) => t.trans (Own.Turn.of_below t.has b))
 have HC := Lib.hid (fun (u : World) (t : Own.Turn [Own.row wb 43 [.int .i64 to, .slice none 0 0, .bool false]] ([Own.row w.heap.size 39 [.int .i64 3, .bool false, .int .u64 0, .string s, .int .i64 0]] ++ [Own.row wb 43 [.int .i64 to, .slice none 0 0, .bool false]]) w u) => t.has.right.cell wb _ _ (List.mem_cons_self ..) 2 _ rfl)
 have HF := Lib.hid (fun (u : World) (t : Own.Turn [Own.row wb 43 [.int .i64 to, .slice none 0 0, .bool false]] ([Own.row w.heap.size 39 [.int .i64 3, .bool false, .int .u64 0, .string s, .int .i64 0]] ++ [Own.row wb 43 [.int .i64 to, .slice none 0 0, .bool false]]) w u) => t.has.right.free wb _ _ (List.mem_cons_self ..) 2)
 have HC0 := Lib.hid (fun (u : World) (t : Own.Turn [Own.row wb 43 [.int .i64 to, .slice none 0 0, .bool false]] ([Own.row w.heap.size 39 [.int .i64 3, .bool false, .int .u64 0, .string s, .int .i64 0]] ++ [Own.row wb 43 [.int .i64 to, .slice none 0 0, .bool false]]) w u) => (t.setAt [Own.row w.heap.size 39 [.int .i64 3, .bool false, .int .u64 0, .string s, .int .i64 0]] 2 (.bool true) (by simp)).has.left.cell w.heap.size _ _ (List.mem_cons_self ..) 0 _ rfl)
 have HEnd := Lib.hid (fun (u : World) (t : Own.Turn [Own.row wb 43 [.int .i64 to, .slice none 0 0, .bool false]] ([Own.row w.heap.size 39 [.int .i64 3, .bool false, .int .u64 0, .string s, .int .i64 0]] ++ [Own.row wb 43 [.int .i64 to, .slice none 0 0, .bool false]]) w u) => (show Own.Turn [Own.row wb 43 [.int .i64 to, .slice none 0 0, .bool false]] [Own.row wb 43 [.int .i64 to, .slice none 0 0, .bool true]] w (u.setCell ⟨wb, 2, none⟩ (.bool true)) from Own.Turn.forget (b := [Own.row w.heap.size 39 [.int .i64 3, .bool false, .int .u64 0, .string s, .int .i64 0]]) (t.setAt [Own.row w.heap.size 39 [.int .i64 3, .bool false, .int .u64 0, .string s, .int .i64 0]] 2 (.bool true) (by simp))))
 go_wp2_with (fail)
 go_region_with (go_at_call 47; refine (HP.out _).mono ?_; rintro e W ⟨rfl, b⟩; have t := HPW.out _ _ (by first | exact TB.out | exact TB.out.drew | exact TB.out.drewN _) b; have d2 := HC.out _ t; have f2 := HF.out _ t; have e0 := HC0.out _ t)
 all_goals
  go_wp2
  go_ret2
  exact ⟨rfl, HEnd.out _ (by first | assumption | exact Own.Turn.drew (by assumption) | exact Own.Turn.drewN (by assumption) _)⟩
set_option maxRecDepth 100000 in
theorem rmay4 (s : ByteArray) (w : World) : Calls Tryz.prog 44 #[.agg #[.int .i64 4, .bool false, .int .u64 0, .string s, .int .i64 0]] w fun e w' => e = .returned (.bool true) ∧ Below w.heap.size w w' := by
 have HB := Lib.hid (fun o => (Below.refl w.heap.size w).alloc (Nat.le_refl _) o)
 go_enter Tryz.func44, Tryz.ntmps44
 go_wp2
 go_ret
 exact ⟨rfl, HB.out _⟩
set_option maxRecDepth 100000 in
set_option maxHeartbeats 8000000 in
theorem rstep4 (to : Int) (s X : ByteArray) (hX : X.size ≤ 10000) (H : PlainTells to (.agg #[.int .i64 4, .bool false, .int .u64 0, .string s, .int .i64 0]) X) {wb : Nat} {w : World} (hw : Own.Has w [Own.row wb 43 [.int .i64 to, .slice none 0 0, .bool false]]) :
  Calls Tryz.prog 22 #[.pointer (some ⟨wb, 0, none⟩), .agg #[.int .i64 4, .bool false, .int .u64 0, .string s, .int .i64 0]] w fun e w' => e = .returned (.tuple #[.string X, .int .i64 0]) ∧ Own.Turn [Own.row wb 43 [.int .i64 to, .slice none 0 0, .bool false]] [Own.row wb 43 [.int .i64 to, .slice none 0 0, .bool true]] w w' := by
 have HM := Lib.hid (fun u => rmay4 s u)
 have HP := Lib.hid H
 have hcat := cat_none X
 have TA := Lib.hid (show Own.Turn [Own.row wb 43 [.int .i64 to, .slice none 0 0, .bool false]] ([Own.row w.heap.size 39 [.int .i64 4, .bool false, .int .u64 0, .string s, .int .i64 0]] ++ [Own.row wb 43 [.int .i64 to, .slice none 0 0, .bool false]]) w (w.alloc (.cells #[.int .i64 4, .bool false, .int .u64 0, .string s, .int .i64 0] 39)) from (Own.Turn.refl hw).allocRow w.heap.size rfl 39 [.int .i64 4, .bool false, .int .u64 0, .string s, .int .i64 0])
 have a0 := TA.out.has.right.cell wb _ _ (List.mem_cons_self ..) 0 _ rfl
 have a1 := TA.out.has.right.cell wb _ _ (List.mem_cons_self ..) 1 _ rfl
 have a2 := TA.out.has.right.cell wb _ _ (List.mem_cons_self ..) 2 _ rfl
 clear hw H
 go_enter Tryz.func22, Tryz.ntmps22
 go_wp2_with (fail)
 refine (HM.out _).mono ?_
 rintro e w1 ⟨rfl, b1⟩
 have TB := Lib.hid (TA.out.trans (Own.Turn.of_below TA.out.has b1))
 clear b1 a0 a1 a2
 have a0 := TB.out.has.right.cell wb _ _ (List.mem_cons_self ..) 0 _ rfl
 have a1 := TB.out.has.right.cell wb _ _ (List.mem_cons_self ..) 1 _ rfl
 have a2 := TB.out.has.right.cell wb _ _ (List.mem_cons_self ..) 2 _ rfl
 have b0 := TB.out.has.left.cell w.heap.size _ _ (List.mem_cons_self ..) 0 _ rfl
 have b1 := TB.out.has.left.cell w.heap.size _ _ (List.mem_cons_self ..) 1 _ rfl
 have b2 := TB.out.has.left.cell w.heap.size _ _ (List.mem_cons_self ..) 2 _ rfl
 have b3 := TB.out.has.left.cell w.heap.size _ _ (List.mem_cons_self ..) 3 _ rfl
 have b4 := TB.out.has.left.cell w.heap.size _ _ (List.mem_cons_self ..) 4 _ rfl
 have HPW := Lib.hid (fun (u W : World) (t : Own.Turn [Own.row wb 43 [.int .i64 to, .slice none 0 0, .bool false]] ([Own.row w.heap.size 39 [.int .i64 4, .bool false, .int .u64 0, .string s, .int .i64 0]] ++ [Own.row wb 43 [.int .i64 to, .slice none 0 0, .bool false]]) w u) (b : Below u.heap.size u W) => t.trans (Own.Turn.of_below t.has b))
 have HC := Lib.hid (fun (u : World) (t : Own.Turn [Own.row wb 43 [.int .i64 to, .slice none 0 0, .bool false]] ([Own.row w.heap.size 39 [.int .i64 4, .bool false, .int .u64 0, .string s, .int .i64 0]] ++ [Own.row wb 43 [.int .i64 to, .slice none 0 0, .bool false]]) w u) => t.has.right.cell wb _ _ (List.mem_cons_self ..) 2 _ rfl)
 have HF := Lib.hid (fun (u : World) (t : Own.Turn [Own.row wb 43 [.int .i64 to, .slice none 0 0, .bool false]] ([Own.row w.heap.size 39 [.int .i64 4, .bool false, .int .u64 0, .string s, .int .i64 0]] ++ [Own.row wb 43 [.int .i64 to, .slice none 0 0, .bool false]]) w u) => t.has.right.free wb _ _ (List.mem_cons_self ..) 2)
 have HC0 := Lib.hid (fun (u : World) (t : Own.Turn [Own.row wb 43 [.int .i64 to, .slice none 0 0, .bool false]] ([Own.row w.heap.size 39 [.int .i64 4, .bool false, .int .u64 0, .string s, .int .i64 0]] ++ [Own.row wb 43 [.int .i64 to, .slice none 0 0, .bool false]]) w u) => (t.setAt [Own.row w.heap.size 39 [.int .i64 4, .bool false, .int .u64 0, .string s, .int .i64 0]] 2 (.bool true) (by simp)).has.left.cell w.heap.size _ _ (List.mem_cons_self ..) 0 _ rfl)
 have HEnd := Lib.hid (fun (u : World) (t : Own.Turn [Own.row wb 43 [.int .i64 to, .slice none 0 0, .bool false]] ([Own.row w.heap.size 39 [.int .i64 4, .bool false, .int .u64 0, .string s, .int .i64 0]] ++ [Own.row wb 43 [.int .i64 to, .slice none 0 0, .bool false]]) w u) => (show Own.Turn [Own.row wb 43 [.int .i64 to, .slice none 0 0, .bool false]] [Own.row wb 43 [.int .i64 to, .slice none 0 0, .bool true]] w (u.setCell ⟨wb, 2, none⟩ (.bool true)) from Own.Turn.forget (b := [Own.row w.heap.size 39 [.int .i64 4, .bool false, .int .u64 0, .string s, .int .i64 0]]) (t.setAt [Own.row w.heap.size 39 [.int .i64 4, .bool false, .int .u64 0, .string s, .int .i64 0]] 2 (.bool true) (by simp))))
 go_wp2_with (fail)
 go_region_with (go_at_call 47; refine (HP.out _).mono ?_; rintro e W ⟨rfl, b⟩; have t := HPW.out _ _ (by first | exact TB.out | exact TB.out.drew | exact TB.out.drewN _) b; have d2 := HC.out _ t; have f2 := HF.out _ t; have e0 := HC0.out _ t)
 all_goals
  go_wp2
  go_ret2
  exact ⟨rfl, HEnd.out _ (by first | assumption | exact Own.Turn.drew (by assumption) | exact Own.Turn.drewN (by assumption) _)⟩
end Pip
end Go.Proofs.YthnbpnfaghjamaaGreat
