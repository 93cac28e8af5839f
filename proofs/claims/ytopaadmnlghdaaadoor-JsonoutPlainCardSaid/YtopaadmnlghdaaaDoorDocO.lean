/- truchmanbook.Open: the same parts with counts that are not known. -/
import Derived.Test.YtopaadmnlghdaaaDoorDocP
import Derived.Test.YtopaadmnlghdaaaDoorSlkC
namespace Go.Proofs.YtopaadmnlghdaaaDoor
open Go.RowKit
namespace Json

set_option maxRecDepth 100000 in
set_option maxHeartbeats 4000000 in
theorem open_any (es : List Evt) (v : Value) (w : World) (hr : Reads w v es) (hn : es.length ≤ 30000) :
    Calls Tryd.prog 20 #[v] w fun e w' => ∃ ov, e = .returned ov ∧ Reads w' ov (es.map Evt.opened) ∧ Below w.heap.size w w' := by
  have HR := Lib.hid hr
  obtain ⟨a, c, rfl, _⟩ := hr
  obtain ⟨i0, hi, hz0, hz1, hz2⟩ := info_parts (P := Tryd.prog) (e := 34) (z := .agg #[.int .i64 0, .bool false, .int .u64 0, .string ⟨#[]⟩, .int .i64 0]) (size := 5) (bytes := 48) (by kernel_rfl)
  have Hi := Lib.hid (And.intro hi (And.intro hz0 (And.intro hz1 hz2)))
  obtain ⟨n, hne⟩ : ∃ n, n = es.length := ⟨_, rfl⟩
  rw [← hne] at hn HR ⊢
  have HN := Lib.hid hne
  clear hne hi hz0 hz1 hz2
  go_enter Tryd.func20, Tryd.ntmps20
  go_wp2_with (fail)
  go_loopw [3, 8] (fun o i wr => ∃ (j : Nat) (ho : Own.Heap), i = .int .i64 j ∧ j ≤ n ∧ Own.Slk 5 34 j (((es.map Evt.opened).take j).flatMap Evt.cells) o ho ∧ Own.Turn [] ho w wr) (fun _ i _ => n - (intOf i).toNat)
  case atStart => exact ⟨0, [], rfl, Nat.zero_le _, .bare none rfl (by simp), Own.Turn.refl (Own.Has.nil w)⟩
  case round =>
    obtain ⟨j, ho, rfl, hj, hs, ht⟩ := hrel
    have HS := Lib.hid hs
    have HTn := Lib.hid ht
    obtain ⟨oa, oc, rfl⟩ := hs.len
    clear hs ht
    by_cases hjn : j < n
    · have hje : j < es.length := by have := HN.out; omega
      have hlt : (j : Int) < (n : Int) := by omega
      obtain ⟨b, off, rfl, x0, x1, x2, x3, x4⟩ := (HR.out.below (HTn.out.below (fun x hx => by cases hx) (Nat.le_refl _))).at_ j hje
      have htk := Lib.hid (show ((es.map Evt.opened).take (j + 1)).flatMap Evt.cells = ((es.map Evt.opened).take j).flatMap Evt.cells ++ (es[j].opened).cells by rw [List.take_succ_eq_append_getElem (by simpa using hje), List.flatMap_append]; simp)
      generalize es[j] = e at x0 x1 x2 x3 x4 htk
      obtain ⟨k, y, m, t, ct⟩ := e
      dsimp only at x0 x1 x2 x3 x4
      have hkc : (k = 5 ∨ k = 6) ∨ (¬ k = 5 ∧ ¬ k = 6) := by omega
      have HTA := Lib.hid (fun o e => (HTn.out.litter o).allocAt (wr.heap.size + 1) (size_alloc ..) (.cells (Evt.cells e).toArray 34))
      rcases hkc with (rfl | rfl) | ⟨h5, h6⟩
      rotate_left 2
      · have b5 : (k == 5) = false := by simp [h5]
        have b6 : (k == 6) = false := by simp [h6]
        have ho : Evt.opened ⟨k, y, m, t, ct⟩ = ⟨k, y, m, t, ct⟩ := by unfold Evt.opened; rw [if_neg (by simp [h5, h6])]
        rw [ho] at htk
        clear ho
        go_wp2_with (at_builtin; go_loud (refine Own.wpList_append_onek rfl _ _ 22 rfl 34 i0 (.agg #[.int .i64 0, .bool false, .int .u64 0, .string ⟨#[]⟩, .int .i64 0]) 5 48 Tryd.underlying22 Hi.out.1 Hi.out.2.1 Hi.out.2.2.1 Hi.out.2.2.2 rfl (.slice oa j oc) j _ ho [] rfl HS.out (wr.heap.size + 1) (Evt.cells ⟨k, y, m, t, ct⟩) (by rw [List.append_nil]; exact (HTA.out _ ⟨k, y, m, t, ct⟩).has) rfl rfl ?hy ?c1 ?c2 ?_))
        case hy => intro u hu; simp only [Evt.cells, List.mem_cons, List.not_mem_nil, or_false] at hu; rcases hu with rfl | rfl | rfl | rfl | rfl <;> rfl
        case c1 => simp only [maxLen]; omega
        case c2 => omega
        intro ad' c' h' W2 hs' ht'
        have T2 := Lib.hid (((HTA.out _ ⟨k, y, m, t, ct⟩).trans ht').forget (b := [_]))
        rw [← htk.out] at hs'
        have S' := Lib.hid hs'
        clear hs' ht' x0 x1 x2 x3 x4
        go_wp2
        go_roundw
        case rel => exact ⟨j + 1, h', by go_num, by omega, S'.out, T2.out⟩
        case measure => simp [intOf]; omega
      all_goals
        have ho : ∀ z, z = 5 ∨ z = 6 → Evt.opened ⟨z, y, m, t, ct⟩ = ⟨z, y, m, t, -1⟩ := fun z hz => by unfold Evt.opened; rw [if_pos hz]
        rw [ho _ (by decide)] at htk
        clear ho
      · go_wp2_with (at_builtin; go_loud (refine Own.wpList_append_onek rfl _ _ 22 rfl 34 i0 (.agg #[.int .i64 0, .bool false, .int .u64 0, .string ⟨#[]⟩, .int .i64 0]) 5 48 Tryd.underlying22 Hi.out.1 Hi.out.2.1 Hi.out.2.2.1 Hi.out.2.2.2 rfl (.slice oa j oc) j _ ho [] rfl HS.out (wr.heap.size + 1) (Evt.cells ⟨5, y, m, t, -1⟩) (by rw [List.append_nil]; exact (HTA.out _ ⟨5, y, m, t, -1⟩).has) rfl rfl ?hy ?c1 ?c2 ?_))
        case hy => intro u hu; simp only [Evt.cells, List.mem_cons, List.not_mem_nil, or_false] at hu; rcases hu with rfl | rfl | rfl | rfl | rfl <;> rfl
        case c1 => simp only [maxLen]; omega
        case c2 => omega
        intro ad' c' h' W2 hs' ht'
        have T2 := Lib.hid (((HTA.out _ ⟨5, y, m, t, -1⟩).trans ht').forget (b := [_]))
        rw [← htk.out] at hs'
        have S' := Lib.hid hs'
        clear hs' ht' x0 x1 x2 x3 x4
        go_wp2
        go_roundw
        case rel => exact ⟨j + 1, h', by go_num, by omega, S'.out, T2.out⟩
        case measure => simp [intOf]; omega
      · go_wp2_with (at_builtin; go_loud (refine Own.wpList_append_onek rfl _ _ 22 rfl 34 i0 (.agg #[.int .i64 0, .bool false, .int .u64 0, .string ⟨#[]⟩, .int .i64 0]) 5 48 Tryd.underlying22 Hi.out.1 Hi.out.2.1 Hi.out.2.2.1 Hi.out.2.2.2 rfl (.slice oa j oc) j _ ho [] rfl HS.out (wr.heap.size + 1) (Evt.cells ⟨6, y, m, t, -1⟩) (by rw [List.append_nil]; exact (HTA.out _ ⟨6, y, m, t, -1⟩).has) rfl rfl ?hy ?c1 ?c2 ?_))
        case hy => intro u hu; simp only [Evt.cells, List.mem_cons, List.not_mem_nil, or_false] at hu; rcases hu with rfl | rfl | rfl | rfl | rfl <;> rfl
        case c1 => simp only [maxLen]; omega
        case c2 => omega
        intro ad' c' h' W2 hs' ht'
        have T2 := Lib.hid (((HTA.out _ ⟨6, y, m, t, -1⟩).trans ht').forget (b := [_]))
        rw [← htk.out] at hs'
        have S' := Lib.hid hs'
        clear hs' ht' x0 x1 x2 x3 x4
        go_wp2
        go_roundw
        case rel => exact ⟨j + 1, h', by go_num, by omega, S'.out, T2.out⟩
        case measure => simp [intOf]; omega
    · have hjn2 : j = n := by omega
      have hge : (n : Int) ≤ (j : Int) := by omega
      have hR := Lib.hid (show Reads wr (.slice oa j oc) (es.map Evt.opened) by
        have hl : j = (es.map Evt.opened).length := by rw [List.length_map, hjn2, HN.out]
        have ht : (es.map Evt.opened).take j = es.map Evt.opened := by rw [hl, List.take_length]
        have := HS.out
        rw [ht] at this
        have h2 : Own.Slk 5 34 (es.map Evt.opened).length ((es.map Evt.opened).flatMap Evt.cells) (.slice oa j oc) ho := hl ▸ this
        exact Reads.of_slk h2 HTn.out.has)
      have hB := Lib.hid (HTn.out.below (fun x hx => by cases hx) (Nat.le_refl _))
      clear hjn2
      go_wp2_with (fail)
      go_ret
      exact ⟨_, rfl, hR.out, hB.out⟩
end Json
end Go.Proofs.YtopaadmnlghdaaaDoor
