/- truchmanbook.Doc's 'item': the leaves of a number and of a text. -/
import Derived.Test.YtopaadmnlghdaaaDoorDocI
namespace Go.Proofs.YtopaadmnlghdaaaDoor
open Go.RowKit
namespace Json

theorem and7 (x : Nat) (hx : x < 65536) : bits .and .i64 (x : Int) 7 = ((x % 8 : Nat) : Int) := by
  have := Int64.andMask x 3 (by decide) (by omega)
  rw [← show x % 2 ^ 3 = x % 8 from rfl, ← this]; rfl

set_option maxRecDepth 100000 in
set_option maxHeartbeats 4000000 in
theorem item_leaf2 (l : List Int) (B : Nat) (nb db ib ab lb ob : Nat) (d depth : Nat) (v : Value) (k : Nat) (es : List Evt) (ov : Value) (ho : Own.Heap) (w : World) (hB : B ≤ ab) (hN : Nums w v l B)
    (hw : Own.Has w (docHeap nb db ib ab lb ob depth v k ov ho)) (hs : Own.Slk 5 34 es.length (es.flatMap Evt.cells) ov ho) (hk : k ≤ 500000) (hes : es.length ≤ 500000) (hx : num l k % 8 = 2 ∨ num l k % 8 = 3) :
    Calls Tryd.prog 32 #[.int .i64 (d : Int), .pointer (some ⟨nb, 0, none⟩), .pointer (some ⟨ob, 0, none⟩), .pointer (some ⟨db, 0, none⟩), .pointer (some ⟨ib, 0, none⟩)] w fun e w' => (∃ r, e = .returned r) ∧
      ∃ ov' ho', Own.Slk 5 34 (es ++ [(Evt.mk 2 (decide (num l k / 8 % 2 = 1)) (num l k * num l k / 2 ^ (num l k % 8)) ⟨#[]⟩ 0)]).length ((es ++ [(Evt.mk 2 (decide (num l k / 8 % 2 = 1)) (num l k * num l k / 2 ^ (num l k % 8)) ⟨#[]⟩ 0)]).flatMap Evt.cells) ov' ho' ∧
        Own.Turn (docHeap nb db ib ab lb ob depth v k ov ho) (docHeap nb db ib ab lb ob depth v (k + 1) ov' ho') w w' := by
  have HX := Lib.hid (next_any l hw.left hN hB (by omega))
  have c0 := hw.cell nb _ _ (List.mem_append_right _ (List.mem_append_left _ (List.mem_cons_self ..))) 0 _ rfl
  have HW := Lib.hid hw
  have HS := Lib.hid hs
  obtain ⟨i0, hi, hz0, hz1, hz2⟩ := info_parts (P := Tryd.prog) (e := 34) (z := .agg #[.int .i64 0, .bool false, .int .u64 0, .string ⟨#[]⟩, .int .i64 0]) (size := 5) (bytes := 48) (by kernel_rfl)
  have Hi := Lib.hid (And.intro hi (And.intro hz0 (And.intro hz1 hz2)))
  obtain ⟨oa, oc, rfl⟩ := hs.len
  have hxl := num_lt l k
  have h7 := and7 (num l k) hxl
  have hmod : ((num l k : Nat) : Int).tmod 8 = (if num l k % 8 = 2 then 2 else 3) := by rw [Int.tmod_eq_emod_of_nonneg (by omega)]; split <;> omega
  have hmod' : ((num l k : Nat) : Int) % 8 = (if num l k % 8 = 2 then 2 else 3) := by split <;> omega
  have h8 := and8 (num l k) hxl
  have hcase : (decide (num l k / 8 % 2 = 1) = false ∧ bits .and .i64 ((num l k : Nat) : Int) 8 = 0) ∨ (decide (num l k / 8 % 2 = 1) = true ∧ bits .and .i64 ((num l k : Nat) : Int) 8 = 8) := by
    rcases (show num l k / 8 % 2 = 0 ∨ num l k / 8 % 2 = 1 by omega) with h | h
    · left; rw [h8, h]; exact ⟨rfl, rfl⟩
    · right; rw [h8, h]; exact ⟨rfl, rfl⟩
  have hwr : IntKind.u64.wrap ((num l k : Nat) : Int) = ((num l k : Nat) : Int) := by rw [IntKind.wrap_u64]; omega
  obtain ⟨Y, hY⟩ : ∃ Y, Y = num l k * num l k := ⟨_, rfl⟩
  have hYl : Y < 4294967296 := by rw [hY]; exact Nat.lt_of_lt_of_le (Nat.mul_lt_mul'' hxl hxl) (by omega)
  have hmul : IntKind.u64.wrap ((num l k : Nat) : Int) * ((num l k : Nat) : Int) = (Y : Int) := by rw [hwr, hY]; exact (Int.natCast_mul _ _).symm
  have hwY : IntKind.u64.wrap (Y : Int) = (Y : Int) := by rw [IntKind.wrap_u64]; omega
  have hmul2 : ((num l k : Nat) : Int) * ((num l k : Nat) : Int) = (Y : Int) := by rw [hY]; exact (Int.natCast_mul _ _).symm
  rw [← hY]
  obtain ⟨m, hm⟩ : ∃ m, m = Y / 2 ^ (num l k % 8) := ⟨_, rfl⟩
  rw [← hm]
  have hm4 : num l k % 8 = 2 → (Y : Int) / 4 = (m : Int) := fun h => by rw [hm, h]; omega
  have hm8 : num l k % 8 = 3 → (Y : Int) / 8 = (m : Int) := fun h => by rw [hm, h]; omega
  generalize hye : decide (num l k / 8 % 2 = 1) = yes at hcase ⊢
  generalize num l k = x at HX hxl hmod hmod' hx hwr hmul hmul2 hm4 hm8 h7 hcase
  obtain ⟨n, hn⟩ : ∃ n, n = es.length := ⟨_, rfl⟩
  rw [← hn] at HW HS hes ⊢
  have HN := Lib.hid hn
  clear hw hs hN hi hz0 hz1 hz2 hn hye hY hm h8 hmul
  rcases hx with hx | hx
  · simp only [hx, if_true] at hmod hmod' h7
    have hm4 := hm4 hx
    clear hx hm8
    rcases hcase with ⟨rfl, h8⟩ | ⟨rfl, h8⟩
    all_goals
      go_enter Tryd.func32, Tryd.ntmps32
      go_wp2_with (fail)
      refine HX.out.mono ?_
      rintro e W1 ⟨rfl, t1⟩
      have T1 := Lib.hid (t1.frame HW.out)
      have c2 := T1.out.has.cell ob _ _ (List.mem_append_right _ (List.mem_append_right _ (List.mem_cons_self ..))) 0 _ rfl
      have c2a := fun o => (T1.out.litter o).has.cell ob _ _ (List.mem_append_right _ (List.mem_append_right _ (List.mem_cons_self ..))) 0 _ rfl
      clear t1
      have TA := Lib.hid (fun yy => docAlloc T1.out.drew (Evt.mk 2 yy m ⟨#[]⟩ 0))
      go_wp2_with (fail)
      go_region_law (refine Own.step_append_onek rfl _ _ 22 rfl 34 i0 (.agg #[.int .i64 0, .bool false, .int .u64 0, .string ⟨#[]⟩, .int .i64 0]) 5 48 Tryd.underlying22 Hi.out.1 Hi.out.2.1 Hi.out.2.2.1 Hi.out.2.2.2 rfl (.slice oa n oc) n (es.flatMap Evt.cells) ho _ rfl HS.out W1.heap.size _ (TA.out _).has rfl rfl ?hy ?c1 ?c2 ?_; (case hy => (intro u hu; simp only [Evt.cells, List.mem_cons, List.not_mem_nil, or_false] at hu; rcases hu with rfl | rfl | rfl | rfl | rfl <;> rfl)); (case c1 => (simp only [maxLen]; omega)); (case c2 => omega); intro ad' c' h' W2 hs' ht'; have T2 := Lib.hid ((TA.out _).trans ht'); obtain ⟨q0, q1⟩ := docCell T2.out.has; have TB := Lib.hid (docBack T2.out (.slice ad' (n + 1) c')); have S' := Lib.hid hs'; clear hs' ht')
      all_goals
        go_wp2
        go_end0
        refine ⟨⟨_, rfl⟩, .slice ad' (n + 1) c', h', ?_, TB.out⟩
        rw [List.length_append, List.flatMap_append, ← HN.out, List.flatMap_singleton]
        exact S'.out
  · have h3 : ¬ (3 = 2) := by omega
    simp only [hx, if_neg h3] at hmod hmod' h7
    have hm8 := hm8 hx
    clear hx hm4 h3
    rcases hcase with ⟨rfl, h8⟩ | ⟨rfl, h8⟩
    all_goals
      go_enter Tryd.func32, Tryd.ntmps32
      go_wp2_with (fail)
      refine HX.out.mono ?_
      rintro e W1 ⟨rfl, t1⟩
      have T1 := Lib.hid (t1.frame HW.out)
      have c2 := T1.out.has.cell ob _ _ (List.mem_append_right _ (List.mem_append_right _ (List.mem_cons_self ..))) 0 _ rfl
      have c2a := fun o => (T1.out.litter o).has.cell ob _ _ (List.mem_append_right _ (List.mem_append_right _ (List.mem_cons_self ..))) 0 _ rfl
      clear t1
      have TA := Lib.hid (fun yy => docAlloc T1.out.drew (Evt.mk 2 yy m ⟨#[]⟩ 0))
      go_wp2_with (fail)
      go_region_law (refine Own.step_append_onek rfl _ _ 22 rfl 34 i0 (.agg #[.int .i64 0, .bool false, .int .u64 0, .string ⟨#[]⟩, .int .i64 0]) 5 48 Tryd.underlying22 Hi.out.1 Hi.out.2.1 Hi.out.2.2.1 Hi.out.2.2.2 rfl (.slice oa n oc) n (es.flatMap Evt.cells) ho _ rfl HS.out W1.heap.size _ (TA.out _).has rfl rfl ?hy ?c1 ?c2 ?_; (case hy => (intro u hu; simp only [Evt.cells, List.mem_cons, List.not_mem_nil, or_false] at hu; rcases hu with rfl | rfl | rfl | rfl | rfl <;> rfl)); (case c1 => (simp only [maxLen]; omega)); (case c2 => omega); intro ad' c' h' W2 hs' ht'; have T2 := Lib.hid ((TA.out _).trans ht'); obtain ⟨q0, q1⟩ := docCell T2.out.has; have TB := Lib.hid (docBack T2.out (.slice ad' (n + 1) c')); have S' := Lib.hid hs'; clear hs' ht')
      all_goals
        go_wp2
        go_end0
        refine ⟨⟨_, rfl⟩, .slice ad' (n + 1) c', h', ?_, TB.out⟩
        rw [List.length_append, List.flatMap_append, ← HN.out, List.flatMap_singleton]
        exact S'.out

set_option maxRecDepth 100000 in
set_option maxHeartbeats 4000000 in
theorem item_leaf4 (l : List Int) (B : Nat) (nb db ib ab lb ob : Nat) (d depth : Nat) (v : Value) (k : Nat) (es : List Evt) (ov : Value) (ho : Own.Heap) (w : World) (hB : B ≤ ab) (hN : Nums w v l B)
    (hw : Own.Has w (docHeap nb db ib ab lb ob depth v k ov ho)) (hs : Own.Slk 5 34 es.length (es.flatMap Evt.cells) ov ho) (hk : k ≤ 500000) (hes : es.length ≤ 500000) (hx : num l k % 8 = 4) :
    Calls Tryd.prog 32 #[.int .i64 (d : Int), .pointer (some ⟨nb, 0, none⟩), .pointer (some ⟨ob, 0, none⟩), .pointer (some ⟨db, 0, none⟩), .pointer (some ⟨ib, 0, none⟩)] w fun e w' => (∃ r, e = .returned r) ∧
      ∃ ov' ho', Own.Slk 5 34 (es ++ [(Evt.mk 3 false 0 ⟨(textOf (num l k)).toArray⟩ 0)]).length ((es ++ [(Evt.mk 3 false 0 ⟨(textOf (num l k)).toArray⟩ 0)]).flatMap Evt.cells) ov' ho' ∧
        Own.Turn (docHeap nb db ib ab lb ob depth v k ov ho) (docHeap nb db ib ab lb ob depth v (k + 1) ov' ho') w w' := by
  have HX := Lib.hid (next_any l hw.left hN hB (by omega))
  have c0 := hw.cell nb _ _ (List.mem_append_right _ (List.mem_append_left _ (List.mem_cons_self ..))) 0 _ rfl
  have HW := Lib.hid hw
  have HS := Lib.hid hs
  obtain ⟨i0, hi, hz0, hz1, hz2⟩ := info_parts (P := Tryd.prog) (e := 34) (z := .agg #[.int .i64 0, .bool false, .int .u64 0, .string ⟨#[]⟩, .int .i64 0]) (size := 5) (bytes := 48) (by kernel_rfl)
  have Hi := Lib.hid (And.intro hi (And.intro hz0 (And.intro hz1 hz2)))
  obtain ⟨oa, oc, rfl⟩ := hs.len
  have hxl := num_lt l k
  have hmod : ((num l k : Nat) : Int).tmod 8 = 4 := by rw [Int.tmod_eq_emod_of_nonneg (by omega)]; omega
  have hmod' : ((num l k : Nat) : Int) % 8 = 4 := by omega
  have HT := Lib.hid (fun u => textOf_any (num l k) hxl u)
  generalize textOf (num l k) = tx at HT ⊢
  generalize num l k = x at HX HT hxl hmod hmod' hx
  obtain ⟨n, hn⟩ : ∃ n, n = es.length := ⟨_, rfl⟩
  rw [← hn] at HW HS hes ⊢
  have HN := Lib.hid hn
  clear hw hs hN hx hi hz0 hz1 hz2 hn
  obtain ⟨S, hS⟩ : ∃ S : ByteArray, S = ⟨tx.toArray⟩ := ⟨_, rfl⟩
  rw [← hS] at HT ⊢
  clear hS
  go_enter Tryd.func32, Tryd.ntmps32
  go_wp2_with (fail)
  refine HX.out.mono ?_
  rintro e W1 ⟨rfl, t1⟩
  have T1 := Lib.hid (t1.frame HW.out).drew
  have c2 := (t1.frame HW.out).has.cell ob _ _ (List.mem_append_right _ (List.mem_append_right _ (List.mem_cons_self ..))) 0 _ rfl
  clear t1
  go_wp2_with (fail)
  go_region_law (first
    | (refine Own.step_append_onek rfl _ _ 22 rfl 34 i0 (.agg #[.int .i64 0, .bool false, .int .u64 0, .string ⟨#[]⟩, .int .i64 0]) 5 48 Tryd.underlying22 Hi.out.1 Hi.out.2.1 Hi.out.2.2.1 Hi.out.2.2.2 rfl (.slice oa n oc) n (es.flatMap Evt.cells) ho _ rfl HS.out W2.heap.size _ TA.out.has rfl rfl ?hy ?c1 ?c2 ?_; (case hy => (intro u hu; simp only [Evt.cells, List.mem_cons, List.not_mem_nil, or_false] at hu; rcases hu with rfl | rfl | rfl | rfl | rfl <;> rfl)); (case c1 => (simp only [maxLen]; omega)); (case c2 => omega); intro ad' c' h' W3 hs' ht'; have T3 := Lib.hid (TA.out.trans ht'); obtain ⟨q0, q1⟩ := docCell T3.out.has; have TB := Lib.hid (docBack T3.out (.slice ad' (n + 1) c')); have S' := Lib.hid hs'; clear hs' ht')
    | (go_simp; go_at_call 33; refine (HT.out _).mono ?_; rintro e W2 ⟨rfl, b2⟩; have T2 := Lib.hid (T1.out.trans (Own.Turn.of_below T1.out.has b2)); have TA := Lib.hid (docAlloc T2.out (Evt.mk 3 false 0 S 0)); have c2b := T2.out.has.cell ob _ _ (List.mem_append_right _ (List.mem_append_right _ (List.mem_cons_self ..))) 0 _ rfl; have c2a := fun o => (T2.out.litter o).has.cell ob _ _ (List.mem_append_right _ (List.mem_append_right _ (List.mem_cons_self ..))) 0 _ rfl; clear b2))
  all_goals
    go_wp2
    go_end0
    refine ⟨⟨_, rfl⟩, .slice ad' (n + 1) c', h', ?_, TB.out⟩
    rw [List.length_append, List.flatMap_append, ← HN.out, List.flatMap_singleton]
    exact S'.out
end Json
end Go.Proofs.YtopaadmnlghdaaaDoor
