/- truchmanbook.Doc's 'item'. -/
import Derived.Test.YtopaadmnlghdaaaDoorDocN
import Derived.Test.YtopaadmnlghdaaaDoorSlkC
import Derived.Laws.EntriesVeiled
import Derived.Deep.RegionLaw
namespace Go.Proofs.YtopaadmnlghdaaaDoor
open Go.RowKit
namespace Json

/-- What 'item' has at hand and does not turn: 'next', the depth, 'item' itself. -/
abbrev fixedHeap (nb db ib ab lb ob : Nat) (depth : Int) : Own.Heap :=
  [Own.row nb 80 [.func (.func 31) #[] #[.pointer (some ⟨ab, 0, none⟩), .pointer (some ⟨lb, 0, none⟩)]], Own.row db 3 [.int .i64 depth],
   Own.row ib 81 [.func (.func 32) #[] #[.pointer (some ⟨nb, 0, none⟩), .pointer (some ⟨ob, 0, none⟩), .pointer (some ⟨db, 0, none⟩), .pointer (some ⟨ib, 0, none⟩)]]]

abbrev docHeap (nb db ib ab lb ob : Nat) (depth : Int) (v : Value) (k : Nat) (ov : Value) (ho : Own.Heap) : Own.Heap :=
  nextHeap ab lb v k ++ (fixedHeap nb db ib ab lb ob depth ++ (Own.row ob 22 [ov] :: ho))

/-- All but the list that grows. -/
abbrev docRest (nb db ib ab lb ob : Nat) (depth : Int) (v : Value) (k : Nat) (ov : Value) : Own.Heap :=
  nextHeap ab lb v k ++ (fixedHeap nb db ib ab lb ob depth ++ [Own.row ob 22 [ov]])

section
variable {nb db ib ab lb ob k : Nat} {depth : Int} {v ov : Value} {ho H : Own.Heap} {w W : World}

/-- A part was made: it lies behind. -/
theorem docAlloc (T : Own.Turn H (docHeap nb db ib ab lb ob depth v k ov ho) w W) (e : Evt) :
    Own.Turn H (Own.row W.heap.size 34 e.cells :: (ho ++ docRest nb db ib ab lb ob depth v k ov)) w (W.alloc (.cells e.cells.toArray 34)) := by
  have t := (show Own.Turn H (Own.row W.heap.size 34 e.cells :: docHeap nb db ib ab lb ob depth v k ov ho) w (W.alloc (.cells e.cells.toArray 34)) from T.alloc _)
  have p : (Own.row W.heap.size 34 e.cells :: docHeap nb db ib ab lb ob depth v k ov ho).Perm (Own.row W.heap.size 34 e.cells :: (ho ++ docRest nb db ib ab lb ob depth v k ov)) :=
    Own.perm_of_count _ _ fun x => by simp only [docHeap, docRest, List.count_append, List.count_cons, List.count_nil]; omega
  exact t.perm (.refl _) p

theorem docCell {n : Nat} {ys : List Value} (h : Own.Has W (Own.row k 34 ys :: (ho ++ docRest nb db ib ab lb ob depth v n ov))) : W.cell? ⟨ob, 0, none⟩ = some ov ∧ W.frozen? ⟨ob, 0, none⟩ = false := by
  have hm : Own.row ob 22 [ov] ∈ Own.row k 34 ys :: (ho ++ docRest nb db ib ab lb ob depth v n ov) :=
    List.mem_cons_of_mem _ (List.mem_append_right _ (List.mem_append_right _ (List.mem_append_right _ (List.mem_cons_self ..))))
  exact ⟨h.cell ob _ _ hm 0 _ rfl, h.free ob _ _ hm 0⟩

/-- The list was grown, and is put in its place. -/
theorem docBack {b : Nat} {ys : List Value} (T : Own.Turn H (Own.row b 34 ys :: (ho ++ docRest nb db ib ab lb ob depth v k ov)) w W) (ov' : Value) :
    Own.Turn H (docHeap nb db ib ab lb ob depth v k ov' ho) w (W.setCell ⟨ob, 0, none⟩ ov') := by
  have t := ((T.forget (b := [_]) (c := ho ++ docRest nb db ib ab lb ob depth v k ov)).perm (.refl _) (Own.perm_of_count _ (Own.row ob 22 [ov] :: (nextHeap ab lb v k ++ (fixedHeap nb db ib ab lb ob depth ++ ho))) fun x => by simp only [docRest, List.count_append, List.count_cons, List.count_nil]; omega)).set 0 ov' (by simp)
  exact t.perm (.refl _) (Own.perm_of_count _ _ fun x => by simp only [docHeap, List.count_append, List.count_cons, List.set_cons_zero]; omega)
end

/-- A document as it grows: the numbers, the memory of 'item', the parts so far. -/
structure DocAt (l : List Int) (B nb db ib ab lb ob : Nat) (depth : Nat) (v : Value) (k : Nat) (es : List Evt) (ov : Value) (ho : Own.Heap) (w : World) : Prop where
  nums : Nums w v l B
  has : Own.Has w (docHeap nb db ib ab lb ob depth v k ov ho)
  low : ∀ x ∈ Own.blocks (docHeap nb db ib ab lb ob depth v k ov ho), B ≤ x
  sl : Own.Slk 5 34 es.length (es.flatMap Evt.cells) ov ho

theorem DocAt.ab_le {l : List Int} {B nb db ib ab lb ob : Nat} {depth : Nat} {v : Value} {k : Nat} {es : List Evt} {ov : Value} {ho : Own.Heap} {w : World} (h : DocAt l B nb db ib ab lb ob depth v k es ov ho w) : B ≤ ab :=
  h.low ab (by simp [Own.blocks])

theorem DocAt.turn {l : List Int} {B nb db ib ab lb ob : Nat} {depth : Nat} {v : Value} {k k' : Nat} {es es' : List Evt} {ov ov' : Value} {ho ho' : Own.Heap} {w w' : World} (h : DocAt l B nb db ib ab lb ob depth v k es ov ho w)
    (t : Own.Turn (docHeap nb db ib ab lb ob depth v k ov ho) (docHeap nb db ib ab lb ob depth v k' ov' ho') w w') (s : Own.Slk 5 34 es'.length (es'.flatMap Evt.cells) ov' ho') :
    DocAt l B nb db ib ab lb ob depth v k' es' ov' ho' w' := by
  have hB : B ≤ w.heap.size := by
    have h1 := h.ab_le
    have h2 := h.has.lt (b := ab) (by simp [Own.blocks])
    omega
  exact ⟨h.nums.below (t.below h.low hB), t.has, t.least h.low hB, s⟩

/-- The contract of 'item' with that much fuel. -/
def ItemDoes (l : List Int) (B : Nat) (f : Nat) : Prop :=
  ∀ (nb db ib ab lb ob : Nat) (D : Int) (d depth : Nat) (v : Value) (k : Nat) (es : List Evt) (ov : Value) (ho : Own.Heap) (w : World), D = (d : Int) → depth = d + f → depth ≤ 10 →
    DocAt l B nb db ib ab lb ob depth v k es ov ho w → k + 4 * 3 ^ f ≤ 500000 → es.length + 4 * 3 ^ f ≤ 500000 →
    Calls Tryd.prog 32 #[.int .i64 D, .pointer (some ⟨nb, 0, none⟩), .pointer (some ⟨ob, 0, none⟩), .pointer (some ⟨db, 0, none⟩), .pointer (some ⟨ib, 0, none⟩)] w fun e w' => (∃ r, e = .returned r) ∧
      ∃ ov' ho', Own.Slk 5 34 (es ++ (item l f k).1).length ((es ++ (item l f k).1).flatMap Evt.cells) ov' ho' ∧
        Own.Turn (docHeap nb db ib ab lb ob depth v k ov ho) (docHeap nb db ib ab lb ob depth v (item l f k).2 ov' ho') w w'

set_option maxRecDepth 100000 in
set_option maxHeartbeats 4000000 in
theorem item_leaf0 (l : List Int) (B : Nat) (nb db ib ab lb ob : Nat) (d depth : Nat) (v : Value) (k : Nat) (es : List Evt) (ov : Value) (ho : Own.Heap) (w : World) (hB : B ≤ ab) (hN : Nums w v l B)
    (hw : Own.Has w (docHeap nb db ib ab lb ob depth v k ov ho)) (hs : Own.Slk 5 34 es.length (es.flatMap Evt.cells) ov ho) (hk : k ≤ 500000) (hes : es.length ≤ 500000) (hx : num l k % 8 = 0) :
    Calls Tryd.prog 32 #[.int .i64 (d : Int), .pointer (some ⟨nb, 0, none⟩), .pointer (some ⟨ob, 0, none⟩), .pointer (some ⟨db, 0, none⟩), .pointer (some ⟨ib, 0, none⟩)] w fun e w' => (∃ r, e = .returned r) ∧
      ∃ ov' ho', Own.Slk 5 34 (es ++ [Evt.zero]).length ((es ++ [Evt.zero]).flatMap Evt.cells) ov' ho' ∧
        Own.Turn (docHeap nb db ib ab lb ob depth v k ov ho) (docHeap nb db ib ab lb ob depth v (k + 1) ov' ho') w w' := by
  have HX := Lib.hid (next_any l hw.left hN hB (by omega))
  have c0 := hw.cell nb _ _ (List.mem_append_right _ (List.mem_append_left _ (List.mem_cons_self ..))) 0 _ rfl
  have HW := Lib.hid hw
  have HS := Lib.hid hs
  obtain ⟨i0, hi, hz0, hz1, hz2⟩ := info_parts (P := Tryd.prog) (e := 34) (z := .agg #[.int .i64 0, .bool false, .int .u64 0, .string ⟨#[]⟩, .int .i64 0]) (size := 5) (bytes := 48) (by kernel_rfl)
  have Hi := Lib.hid (And.intro hi (And.intro hz0 (And.intro hz1 hz2)))
  obtain ⟨oa, oc, rfl⟩ := hs.len
  have hxl := num_lt l k
  have hmod : ((num l k : Nat) : Int).tmod 8 = 0 := by rw [Int.tmod_eq_emod_of_nonneg (by omega)]; omega
  have hmod' : ((num l k : Nat) : Int) % 8 = 0 := by omega
  generalize num l k = x at HX hxl hmod hmod' hx
  obtain ⟨n, hn⟩ : ∃ n, n = es.length := ⟨_, rfl⟩
  rw [← hn] at HW HS hes ⊢
  have HN := Lib.hid hn
  clear hw hs hN hx hi hz0 hz1 hz2 hn
  go_enter Tryd.func32, Tryd.ntmps32
  go_wp2_with (fail)
  refine HX.out.mono ?_
  rintro e W1 ⟨rfl, t1⟩
  have T1 := Lib.hid (t1.frame HW.out)
  have c2 := T1.out.has.cell ob _ _ (List.mem_append_right _ (List.mem_append_right _ (List.mem_cons_self ..))) 0 _ rfl
  clear t1
  have TA := Lib.hid (docAlloc T1.out Evt.zero)
  go_wp2_with (at_builtin; go_loud (refine Own.wpList_append_onek rfl _ _ 22 rfl 34 i0 (.agg #[.int .i64 0, .bool false, .int .u64 0, .string ⟨#[]⟩, .int .i64 0]) 5 48 Tryd.underlying22 Hi.out.1 Hi.out.2.1 Hi.out.2.2.1 Hi.out.2.2.2 rfl (.slice oa n oc) n (es.flatMap Evt.cells) ho _ rfl HS.out W1.heap.size Evt.zero.cells TA.out.has rfl rfl ?hy ?c1 ?c2 ?_))
  case hy => intro u hu; simp only [Evt.cells, Evt.zero, List.mem_cons, List.not_mem_nil, or_false] at hu; rcases hu with rfl | rfl | rfl | rfl | rfl <;> rfl
  case c1 => simp only [maxLen]; omega
  case c2 => omega
  intro ad' c' h' W2 hs' ht'
  have T2 := Lib.hid (TA.out.trans ht')
  obtain ⟨q0, q1⟩ := docCell T2.out.has
  have TB := Lib.hid (docBack T2.out (.slice ad' (n + 1) c'))
  have S' := Lib.hid hs'
  clear hs' ht'
  go_wp2
  go_end0
  refine ⟨⟨_, rfl⟩, .slice ad' (n + 1) c', h', ?_, TB.out⟩
  rw [← HN.out]
  exact S'.out
set_option maxRecDepth 100000 in
set_option maxHeartbeats 4000000 in
theorem item_leaf1 (l : List Int) (B : Nat) (nb db ib ab lb ob : Nat) (d depth : Nat) (v : Value) (k : Nat) (es : List Evt) (ov : Value) (ho : Own.Heap) (w : World) (hB : B ≤ ab) (hN : Nums w v l B)
    (hw : Own.Has w (docHeap nb db ib ab lb ob depth v k ov ho)) (hs : Own.Slk 5 34 es.length (es.flatMap Evt.cells) ov ho) (hk : k ≤ 500000) (hes : es.length ≤ 500000) (hx : num l k % 8 = 1) (yes : Bool) (hy : yes = decide (num l k / 8 % 2 = 1)) :
    Calls Tryd.prog 32 #[.int .i64 (d : Int), .pointer (some ⟨nb, 0, none⟩), .pointer (some ⟨ob, 0, none⟩), .pointer (some ⟨db, 0, none⟩), .pointer (some ⟨ib, 0, none⟩)] w fun e w' => (∃ r, e = .returned r) ∧
      ∃ ov' ho', Own.Slk 5 34 (es ++ [(Evt.mk 1 yes 0 ⟨#[]⟩ 0)]).length ((es ++ [(Evt.mk 1 yes 0 ⟨#[]⟩ 0)]).flatMap Evt.cells) ov' ho' ∧
        Own.Turn (docHeap nb db ib ab lb ob depth v k ov ho) (docHeap nb db ib ab lb ob depth v (k + 1) ov' ho') w w' := by
  have HX := Lib.hid (next_any l hw.left hN hB (by omega))
  have c0 := hw.cell nb _ _ (List.mem_append_right _ (List.mem_append_left _ (List.mem_cons_self ..))) 0 _ rfl
  have HW := Lib.hid hw
  have HS := Lib.hid hs
  obtain ⟨i0, hi, hz0, hz1, hz2⟩ := info_parts (P := Tryd.prog) (e := 34) (z := .agg #[.int .i64 0, .bool false, .int .u64 0, .string ⟨#[]⟩, .int .i64 0]) (size := 5) (bytes := 48) (by kernel_rfl)
  have Hi := Lib.hid (And.intro hi (And.intro hz0 (And.intro hz1 hz2)))
  obtain ⟨oa, oc, rfl⟩ := hs.len
  have hxl := num_lt l k
  have hmod : ((num l k : Nat) : Int).tmod 8 = 1 := by rw [Int.tmod_eq_emod_of_nonneg (by omega)]; omega
  have hmod' : ((num l k : Nat) : Int) % 8 = 1 := by omega
  have h8 := and8 (num l k) hxl
  have hcase : (yes = false ∧ bits .and .i64 ((num l k : Nat) : Int) 8 = 0) ∨ (yes = true ∧ bits .and .i64 ((num l k : Nat) : Int) 8 = 8) := by
    rcases (show num l k / 8 % 2 = 0 ∨ num l k / 8 % 2 = 1 by omega) with h | h
    · left; rw [h8, h, hy, h]; exact ⟨rfl, rfl⟩
    · right; rw [h8, h, hy, h]; exact ⟨rfl, rfl⟩
  generalize num l k = x at HX hxl hmod hmod' hx hcase hy h8
  obtain ⟨n, hn⟩ : ∃ n, n = es.length := ⟨_, rfl⟩
  rw [← hn] at HW HS hes ⊢
  have HN := Lib.hid hn
  clear hw hs hN hx hi hz0 hz1 hz2 hn hy h8
  rcases hcase with ⟨rfl, h8⟩ | ⟨rfl, h8⟩
  all_goals
    go_enter Tryd.func32, Tryd.ntmps32
    go_wp2_with (fail)
    refine HX.out.mono ?_
    rintro e W1 ⟨rfl, t1⟩
    have T1 := Lib.hid (t1.frame HW.out)
    have c2 := T1.out.has.cell ob _ _ (List.mem_append_right _ (List.mem_append_right _ (List.mem_cons_self ..))) 0 _ rfl
    clear t1
    have TA := Lib.hid (fun yy => docAlloc T1.out (Evt.mk 1 yy 0 ⟨#[]⟩ 0))
    go_wp2_with (at_builtin; go_loud (refine Own.wpList_append_onek rfl _ _ 22 rfl 34 i0 (.agg #[.int .i64 0, .bool false, .int .u64 0, .string ⟨#[]⟩, .int .i64 0]) 5 48 Tryd.underlying22 Hi.out.1 Hi.out.2.1 Hi.out.2.2.1 Hi.out.2.2.2 rfl (.slice oa n oc) n (es.flatMap Evt.cells) ho _ rfl HS.out W1.heap.size _ (TA.out _).has rfl rfl ?hy ?c1 ?c2 ?_))
    case hy => intro u hu; simp only [Evt.cells, List.mem_cons, List.not_mem_nil, or_false] at hu; rcases hu with rfl | rfl | rfl | rfl | rfl <;> rfl
    case c1 => simp only [maxLen]; omega
    case c2 => omega
    intro ad' c' h' W2 hs' ht'
    have T2 := Lib.hid ((TA.out _).trans ht')
    obtain ⟨q0, q1⟩ := docCell T2.out.has
    have TB := Lib.hid (docBack T2.out (.slice ad' (n + 1) c'))
    have S' := Lib.hid hs'
    clear hs' ht'
    go_wp2
    go_end0
    refine ⟨⟨_, rfl⟩, .slice ad' (n + 1) c', h', ?_, TB.out⟩
    rw [← HN.out]
    exact S'.out

set_option maxRecDepth 100000 in
set_option maxHeartbeats 4000000 in
theorem item_leaf5 (l : List Int) (B : Nat) (nb db ib ab lb ob : Nat) (d depth : Nat) (v : Value) (k : Nat) (es : List Evt) (ov : Value) (ho : Own.Heap) (w : World) (hB : B ≤ ab) (hN : Nums w v l B)
    (hw : Own.Has w (docHeap nb db ib ab lb ob depth v k ov ho)) (hs : Own.Slk 5 34 es.length (es.flatMap Evt.cells) ov ho) (hk : k ≤ 500000) (hes : es.length ≤ 500000) (hx : num l k % 8 = 5) (hd : d = depth) :
    Calls Tryd.prog 32 #[.int .i64 (d : Int), .pointer (some ⟨nb, 0, none⟩), .pointer (some ⟨ob, 0, none⟩), .pointer (some ⟨db, 0, none⟩), .pointer (some ⟨ib, 0, none⟩)] w fun e w' => (∃ r, e = .returned r) ∧
      ∃ ov' ho', Own.Slk 5 34 (es ++ [(Evt.mk 3 false 0 ⟨#[]⟩ 0)]).length ((es ++ [(Evt.mk 3 false 0 ⟨#[]⟩ 0)]).flatMap Evt.cells) ov' ho' ∧
        Own.Turn (docHeap nb db ib ab lb ob depth v k ov ho) (docHeap nb db ib ab lb ob depth v (k + 1) ov' ho') w w' := by
  subst hd
  have HX := Lib.hid (next_any l hw.left hN hB (by omega))
  have c0 := hw.cell nb _ _ (List.mem_append_right _ (List.mem_append_left _ (List.mem_cons_self ..))) 0 _ rfl
  have HW := Lib.hid hw
  have HS := Lib.hid hs
  obtain ⟨i0, hi, hz0, hz1, hz2⟩ := info_parts (P := Tryd.prog) (e := 34) (z := .agg #[.int .i64 0, .bool false, .int .u64 0, .string ⟨#[]⟩, .int .i64 0]) (size := 5) (bytes := 48) (by kernel_rfl)
  have Hi := Lib.hid (And.intro hi (And.intro hz0 (And.intro hz1 hz2)))
  obtain ⟨oa, oc, rfl⟩ := hs.len
  have hxl := num_lt l k
  have hmod : ((num l k : Nat) : Int).tmod 8 = 5 := by rw [Int.tmod_eq_emod_of_nonneg (by omega)]; omega
  have hmod' : ((num l k : Nat) : Int) % 8 = 5 := by omega
  generalize num l k = x at HX hxl hmod hmod' hx
  obtain ⟨n, hn⟩ : ∃ n, n = es.length := ⟨_, rfl⟩
  rw [← hn] at HW HS hes ⊢
  have HN := Lib.hid hn
  clear hw hs hN hx hi hz0 hz1 hz2 hn
  go_enter Tryd.func32, Tryd.ntmps32
  go_wp2_with (fail)
  refine HX.out.mono ?_
  rintro e W1 ⟨rfl, t1⟩
  have T1 := Lib.hid (t1.frame HW.out)
  have c2 := T1.out.has.cell ob _ _ (List.mem_append_right _ (List.mem_append_right _ (List.mem_cons_self ..))) 0 _ rfl
  have c3 := T1.out.has.cell db _ _ (List.mem_append_right _ (List.mem_append_left _ (List.mem_cons_of_mem _ (List.mem_cons_self ..)))) 0 _ rfl
  clear t1
  have TA := Lib.hid (docAlloc T1.out (Evt.mk 3 false 0 ⟨#[]⟩ 0))
  go_wp2_with (at_builtin; go_loud (refine Own.wpList_append_onek rfl _ _ 22 rfl 34 i0 (.agg #[.int .i64 0, .bool false, .int .u64 0, .string ⟨#[]⟩, .int .i64 0]) 5 48 Tryd.underlying22 Hi.out.1 Hi.out.2.1 Hi.out.2.2.1 Hi.out.2.2.2 rfl (.slice oa n oc) n (es.flatMap Evt.cells) ho _ rfl HS.out W1.heap.size (Evt.mk 3 false 0 ⟨#[]⟩ 0).cells TA.out.has rfl rfl ?hy ?c1 ?c2 ?_))
  case hy => intro u hu; simp only [Evt.cells, List.mem_cons, List.not_mem_nil, or_false] at hu; rcases hu with rfl | rfl | rfl | rfl | rfl <;> rfl
  case c1 => simp only [maxLen]; omega
  case c2 => omega
  intro ad' c' h' W2 hs' ht'
  have T2 := Lib.hid (TA.out.trans ht')
  obtain ⟨q0, q1⟩ := docCell T2.out.has
  have TB := Lib.hid (docBack T2.out (.slice ad' (n + 1) c'))
  have S' := Lib.hid hs'
  clear hs' ht'
  go_wp2
  refine bodyPost_ret (results_none rfl _ _ _) rfl ?_
  refine ⟨⟨_, rfl⟩, .slice ad' (n + 1) c', h', ?_, TB.out⟩
  rw [← HN.out]
  exact S'.out
set_option maxRecDepth 100000 in
set_option maxHeartbeats 4000000 in
theorem item_leaf6 (l : List Int) (B : Nat) (nb db ib ab lb ob : Nat) (d depth : Nat) (v : Value) (k : Nat) (es : List Evt) (ov : Value) (ho : Own.Heap) (w : World) (hB : B ≤ ab) (hN : Nums w v l B)
    (hw : Own.Has w (docHeap nb db ib ab lb ob depth v k ov ho)) (hs : Own.Slk 5 34 es.length (es.flatMap Evt.cells) ov ho) (hk : k ≤ 500000) (hes : es.length ≤ 500000) (hx : num l k % 8 = 6 ∨ num l k % 8 = 7) (hd : d = depth) :
    Calls Tryd.prog 32 #[.int .i64 (d : Int), .pointer (some ⟨nb, 0, none⟩), .pointer (some ⟨ob, 0, none⟩), .pointer (some ⟨db, 0, none⟩), .pointer (some ⟨ib, 0, none⟩)] w fun e w' => (∃ r, e = .returned r) ∧
      ∃ ov' ho', Own.Slk 5 34 (es ++ [(Evt.mk 2 false (num l k) ⟨#[]⟩ 0)]).length ((es ++ [(Evt.mk 2 false (num l k) ⟨#[]⟩ 0)]).flatMap Evt.cells) ov' ho' ∧
        Own.Turn (docHeap nb db ib ab lb ob depth v k ov ho) (docHeap nb db ib ab lb ob depth v (k + 1) ov' ho') w w' := by
  subst hd
  have HX := Lib.hid (next_any l hw.left hN hB (by omega))
  have c0 := hw.cell nb _ _ (List.mem_append_right _ (List.mem_append_left _ (List.mem_cons_self ..))) 0 _ rfl
  have HW := Lib.hid hw
  have HS := Lib.hid hs
  obtain ⟨i0, hi, hz0, hz1, hz2⟩ := info_parts (P := Tryd.prog) (e := 34) (z := .agg #[.int .i64 0, .bool false, .int .u64 0, .string ⟨#[]⟩, .int .i64 0]) (size := 5) (bytes := 48) (by kernel_rfl)
  have Hi := Lib.hid (And.intro hi (And.intro hz0 (And.intro hz1 hz2)))
  obtain ⟨oa, oc, rfl⟩ := hs.len
  have hxl := num_lt l k
  have hmod : ((num l k : Nat) : Int).tmod 8 = (if num l k % 8 = 6 then 6 else 7) := by rw [Int.tmod_eq_emod_of_nonneg (by omega)]; split <;> omega
  have hmod' : ((num l k : Nat) : Int) % 8 = (if num l k % 8 = 6 then 6 else 7) := by split <;> omega
  have hwr : IntKind.u64.wrap ((num l k : Nat) : Int) = ((num l k : Nat) : Int) := by rw [IntKind.wrap_u64]; omega
  generalize num l k = x at HX hxl hmod hmod' hx hwr ⊢
  obtain ⟨n, hn⟩ : ∃ n, n = es.length := ⟨_, rfl⟩
  rw [← hn] at HW HS hes ⊢
  have HN := Lib.hid hn
  clear hw hs hN hi hz0 hz1 hz2 hn
  rcases hx with hx | hx
  all_goals simp only [hx, if_true, show ¬ (7 = 6) by omega, if_false] at hmod hmod'
  all_goals clear hx
  all_goals
    go_enter Tryd.func32, Tryd.ntmps32
    go_wp2_with (fail)
    refine HX.out.mono ?_
    rintro e W1 ⟨rfl, t1⟩
    have T1 := Lib.hid (t1.frame HW.out)
    have c2 := T1.out.has.cell ob _ _ (List.mem_append_right _ (List.mem_append_right _ (List.mem_cons_self ..))) 0 _ rfl
    have c3 := T1.out.has.cell db _ _ (List.mem_append_right _ (List.mem_append_left _ (List.mem_cons_of_mem _ (List.mem_cons_self ..)))) 0 _ rfl
    clear t1
    have TA := Lib.hid (docAlloc T1.out (Evt.mk 2 false x ⟨#[]⟩ 0))
    go_wp2_with (at_builtin; go_loud (refine Own.wpList_append_onek rfl _ _ 22 rfl 34 i0 (.agg #[.int .i64 0, .bool false, .int .u64 0, .string ⟨#[]⟩, .int .i64 0]) 5 48 Tryd.underlying22 Hi.out.1 Hi.out.2.1 Hi.out.2.2.1 Hi.out.2.2.2 rfl (.slice oa n oc) n (es.flatMap Evt.cells) ho _ rfl HS.out W1.heap.size (Evt.mk 2 false x ⟨#[]⟩ 0).cells TA.out.has rfl rfl ?hy ?c1 ?c2 ?_))
    case hy => intro u hu; simp only [Evt.cells, List.mem_cons, List.not_mem_nil, or_false] at hu; rcases hu with rfl | rfl | rfl | rfl | rfl <;> rfl
    case c1 => simp only [maxLen]; omega
    case c2 => omega
    intro ad' c' h' W2 hs' ht'
    have T2 := Lib.hid (TA.out.trans ht')
    obtain ⟨q0, q1⟩ := docCell T2.out.has
    have TB := Lib.hid (docBack T2.out (.slice ad' (n + 1) c'))
    have S' := Lib.hid hs'
    clear hs' ht'
    go_wp2
    refine bodyPost_ret (results_none rfl _ _ _) rfl ?_
    refine ⟨⟨_, rfl⟩, .slice ad' (n + 1) c', h', ?_, TB.out⟩
    rw [← HN.out]
    exact S'.out

end Json
end Go.Proofs.YtopaadmnlghdaaaDoor
