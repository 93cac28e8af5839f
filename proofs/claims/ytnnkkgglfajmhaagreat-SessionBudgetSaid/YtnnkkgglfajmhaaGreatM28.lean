/- Texts of the walk, joined. -/
import Derived.Test.YtnnkkgglfajmhaaGreatM23
import Derived.Test.YtnnkkgglfajmhaaGreatM27
set_option maxRecDepth 100000
set_option maxHeartbeats 8000000
namespace Go.Proofs.YtnnkkgglfajmhaaGreat
section
open Go.RowKit
open Json (Part)
namespace Own
theorem wpList_append_both {P : Program} {w : World} {ops : Array Oper} {rest : List Oper} {o : Oper} {a : Act} {Q : Exit → Act → World → Prop} (hgd : o.guard = none) (s x : Operand) (t : TypeId)
  (ho : o.op = .call { callee := .builtin .append, args := #[s, x], argTypes := #[t, t] })
  (e : TypeId) (i : TypeInfo) (z : Value) (bytes : Nat) (ht : P.underlying t = some (.slice e)) (hi : P.info? e = some i) (hz : i.zero = some z)
  (hsize : i.size = 1) (hby : i.bytes = bytes) (hzs : z.cells.size = 1)
  (v : Value) (xs : List Value) (h : Heap) (hs : a.eval s = v) (hv : Slc e xs v h) (y : Value) (ys : List Value) (g : Heap) (hx : a.eval x = y) (hy : Slc e ys y g) (R : Heap) (hw : Has w (h ++ (g ++ R)))
  (h1 : ∀ u ∈ ys, u.oneCell' = true) (hm0 : 0 < ys.length) (h63 : xs.length + ys.length ≤ maxLen) (hbytes : (xs.length + ys.length) * bytes ≤ 140737488355328)
  (hK : ∀ ad' c' h' w', Slc e (xs ++ ys) (.slice ad' (xs.length + ys.length) c') h' → Turn (h ++ (g ++ R)) (h' ++ (g ++ R)) w w' → wpList P ops Q rest (a.put o.dst (.slice ad' (xs.length + ys.length) c')) w') :
  wpList P ops Q (o :: rest) a w := by
 cases hy with
 | bare a0 h0 => subst h0; simp at hm0
 | row b pre spare hm =>
  refine wpList_append_slc hgd s x t ho e i z bytes ht hi hz hsize hby hzs v xs h hs hv hw.left ⟨b, pre.length, none⟩ _ ys.length ys hx rfl (fun j u hj => ?_) h1 hm0 h63 hbytes ?_
  ·rw [Addr.add_lit]
   refine (hw.right.left).cell b e (pre ++ (ys ++ spare)) (List.mem_singleton.2 rfl) (pre.length + j) u ?_
   rw [List.getElem?_append_right (by omega), Nat.add_sub_cancel_left, List.getElem?_append_left (List.getElem?_eq_some_iff.1 hj).1]
   exact hj
  ·intro ad' c' h' w' hs' ht'
   exact hK ad' c' h' w' hs' (ht'.frame hw)
end Own
namespace Pip
theorem infoCrt : (Tryz.prog.info? 214).map (fun i => (i.zero, i.size, i.bytes)) = some (some (.agg #[.bool false, .int .i64 0, .int .i64 0]), 3, 24) := by kernel_rfl
section
variable {c : Core} {T : TypeId} {b : Nat} {post : List Value} {h : Own.Heap} {w : World}
theorem cbegin_open {n : Nat} (hi : c.Is T b post h) (hw : Own.Has w h) (hf : c.Fits n) (pairs : Bool) (count : Int) (hc : count ≠ 0) :
  Calls Tryz.prog 136 #[.pointer (some ⟨b, 0, none⟩), .bool pairs, .int .i64 count] w (CoreDoes (c.begin pairs count) T b post h w) := by
 have HP := hhh (show c.begin pairs count = (c.over_ (c.opened ++ [⟨pairs, count, 0⟩]) c.done, [.begins pairs count]) by unfold Core.begin; rw [if_neg hc]; rfl)
 obtain ⟨i0, hi0, e0⟩ := Option.map_eq_some_iff.1 infoCrt
 simp only [Prod.mk.injEq] at e0
 obtain ⟨hz, hsz, hby⟩ := e0
 have Hi := hhh (And.intro hi0 (And.intro hz (And.intro hsz hby)))
 have hcb : (count == 0) = false := by simpa using hc
 have hN16 : c.opened.length ≤ 16 := Nat.le_trans hf.deep hf.depth
 obtain ⟨oa, oc, sa, sc, ho, hs, rfl, h1, h2⟩ := hi.opened_
 have HS := hhh h1
 have HS2 := hhh h2
 obtain ⟨N, hN⟩ : ∃ N, N = c.opened.length := ⟨_, rfl⟩
 have t0 := (Own.Turn.allocRow (Own.Turn.refl hw) w.heap.size rfl 159 [.bool pairs, .int .i64 count]).allocRow (w.heap.size + 1) (Json.size_alloc w _) 214 [.bool pairs, .int .i64 count, .int .i64 0]
 rw [← hN] at t0 HS ⊢
 have HN := hhh hN
 have t1 : Own.Turn (Own.row b T (c.cells (.slice oa N oc) (.slice sa c.s.length sc) ++ post) :: (ho ++ hs)) (Own.row (w.heap.size + 1) 214 [.bool pairs, .int .i64 count, .int .i64 0] ::
   (ho ++ (Own.row b T (c.cells (.slice oa N oc) (.slice sa c.s.length sc) ++ post) :: Own.row w.heap.size 159 [.bool pairs, .int .i64 count] :: hs))) w
   ((w.alloc (.cells #[.bool pairs, .int .i64 count] 159)).alloc (.cells #[.bool pairs, .int .i64 count, .int .i64 0] 214)) :=
  t0.perm (.refl _) (Own.perm_of_count _ _ fun x => by simp only [List.count_append, List.count_cons]; omega)
 have HT := hhh t1
 have ta := Own.Turn.litter (Own.Turn.refl hw)
 have c1 := fun o => (ta o).has.cell b _ _ mcs 1 _ rfl
 have c1' := hw.cell b _ _ mcs 1 _ rfl
 rw [← hN] at c1'
 simp only [← hN] at c1
 have hlt := hw.row_lt
 have hne : ¬ b = w.heap.size := by omega
 have hne' : ¬ w.heap.size = b := by omega
 rw [← hN] at hN16
 clear hi hw hf h1 h2 t0 t1 ta hc hN hi0 hz hsz hby hlt
 go_enter Tryz.func136, Tryz.ntmps136
 go_wp2_with (at_builtin; go_loud (refine Own.wpList_append_onek rfl _ _ 135 rfl 214 i0 (.agg #[.bool false, .int .i64 0, .int .i64 0]) 3 24 Tryz.underlying135 Hi.out.1 Hi.out.2.1 Hi.out.2.2.1 Hi.out.2.2.2 rfl (.slice oa N oc) N (crtCells c.opened) ho _ rfl HS.out (w.heap.size + 1) _ HT.out.has rfl rfl ?hy ?c1 ?c2 ?_))
 case hy => (intro u hu; simp only [List.mem_cons, List.not_mem_nil, or_false] at hu; rcases hu with rfl | rfl | rfl <;> rfl)
 case c1 => (simp only [maxLen]; omega)
 case c2 => omega
 intro ad' c' h' w1 hs' ht'
 have hs2 := hhh hs'
 have T2 := HT.out.trans ht'
 have f1 := T2.has.free b _ _ (mcm _ (List.mem_append_right _ mcs)) 1
 have d1 := T2.has.cell b _ _ (mcm _ (List.mem_append_right _ mcs)) 1 _ rfl
 have T3 : Own.Turn (Own.row b T (c.cells (.slice oa N oc) (.slice sa c.s.length sc) ++ post) :: (ho ++ hs))
   (Own.row b T (c.cells (.slice ad' (N + 1) c') (.slice sa c.s.length sc) ++ post) :: (Own.row w.heap.size 159 [.bool pairs, .int .i64 count] :: (h' ++ hs ++ [Own.row (w.heap.size + 1) 214 [.bool pairs, .int .i64 count, .int .i64 0]]))) w
   (w1.setCell ⟨b, 1, none⟩ (.slice ad' (N + 1) c')) :=
  (T2.perm (.refl _) (Own.perm_of_count _ (Own.row b T (c.cells (.slice oa N oc) (.slice sa c.s.length sc) ++ post) :: (Own.row w.heap.size 159 [.bool pairs, .int .i64 count] :: (h' ++ hs ++ [Own.row (w.heap.size + 1) 214 [.bool pairs, .int .i64 count, .int .i64 0]])))
   fun x => by simp only [List.count_append, List.count_cons, List.count_nil]; omega)).put 1 _ _ rfl
 have b0 := T3.has.cell w.heap.size _ _ (mcm _ mcs) 0 _ rfl
 have b1 := T3.has.cell w.heap.size _ _ (mcm _ mcs) 1 _ rfl
 have HT3 := hhh T3
 clear hs' ht' T2 T3 HT
 go_wp2
 go_ret
 rw [HP.out]
 refine ⟨_, [Own.row _ 20 [(Part.begins pairs count).val]], _, rfl, Own.Slc.row (e := 20) (xs := partCells [.begins pairs count]) _ [] [] (by show (1 : Nat) ≤ maxLen; decide), ⟨.slice ad' (N + 1) c', .slice sa c.s.length sc, h', hs, ?_, HS2.out, rfl⟩, ?_⟩
 ·have := hs2.out
  show Own.Slk 3 _ (c.opened ++ [_]).length (crtCells (c.opened ++ [_])) _ _
  rw [List.length_append, List.length_singleton, crtCells_append, ← HN.out]
  exact this
 ·have := HT3.out.allocRow w1.heap.size (Own.setCell_size _ _ _) 20 [(Part.begins pairs count).val]
  exact (this.perm (.refl _) (Own.perm_of_count _ (([Own.row w1.heap.size 20 [(Part.begins pairs count).val]] ++ (Own.row b T (c.cells (.slice ad' (N + 1) c') (.slice sa c.s.length sc) ++ post) :: (h' ++ hs))) ++ [Own.row w.heap.size 159 [.bool pairs, .int .i64 count], Own.row (w.heap.size + 1) 214 [.bool pairs, .int .i64 count, .int .i64 0]])
   fun x => by simp only [List.count_append, List.count_cons, List.count_nil]; omega)).drop
theorem cbegin_none {n : Nat} (hi : c.Is T b post h) (hw : Own.Has w h) (hf : c.Fits n) (hn : n ≤ 1000000) (pairs : Bool) :
  Calls Tryz.prog 136 #[.pointer (some ⟨b, 0, none⟩), .bool pairs, .int .i64 0] w (CoreDoes (c.begin pairs 0) T b post h w) := by
 have HP := hhh (show c.begin pairs 0 = ((c.value .close).1, [.begins pairs 0] ++ (c.value .close).2) by unfold Core.begin; rw [if_pos rfl]; rfl)
 obtain ⟨i0, hi0, e0⟩ := Option.map_eq_some_iff.1 infoAny
 simp only [Prod.mk.injEq] at e0
 obtain ⟨hz, hsz, hby⟩ := e0
 have Hi := hhh (And.intro hi0 (And.intro hz (And.intro hsz hby)))
 have HT := hhh (Own.Turn.allocRow (Own.Turn.refl hw) w.heap.size rfl 159 [.bool pairs, .int .i64 0])
 have HV := hhh (fun u (k : Own.Has u h) => cvalue_any hi k hf hn .close)
 have hlen := up_count c.opened.reverse
 rw [List.length_reverse] at hlen
 have hd := hf.deep
 have hd2 := hf.depth
 have hpl : 0 < (partCells (c.value .close).2).length ∧ (partCells (c.value .close).2).length ≤ 100 := by
  simp [partCells, Core.value]; omega
 generalize c.value .close = o at HP HV hpl
 obtain ⟨o1, o2⟩ := o
 simp only at HP HV hpl
 obtain ⟨M, hM⟩ : ∃ M, M = (partCells o2).length := ⟨_, rfl⟩
 rw [← hM] at hpl
 have HM := hhh hM
 have h1c := hhh (show ∀ u ∈ partCells o2, u.oneCell' = true by
  intro u hu
  obtain ⟨p, _, rfl⟩ := List.mem_map.1 hu
  exact part_oneCell p)
 clear hi hw hf hi0 hz hsz hby hlen hd hd2 hM
 go_enter Tryz.func136, Tryz.ntmps136
 go_wp2_with (fail)
 refine (HV.out _ (Own.Has.right (a := [_]) HT.out.has)).mono ?_
 rintro e w1 ⟨v, hv, h', rfl, hs, i1, t1⟩
 have T1 := hhh (HT.out.trans (t1.cons HT.out.has))
 have HS := hhh hs
 have HI := hhh i1
 obtain ⟨va, vc, rfl⟩ := hs.len
 rw [← HM.out] at HS ⊢
 have b0 := T1.out.has.cell w.heap.size _ _ mcs 0 _ rfl
 have b1 := T1.out.has.cell w.heap.size _ _ mcs 1 _ rfl
 have T2 := hhh (T1.out.allocRow w1.heap.size rfl 20 [(Part.begins pairs 0).val])
 have HS1 := hhh (show Own.Slc 20 (partCells [Part.begins pairs 0]) (.slice (some ⟨w1.heap.size, 0, none⟩) 1 1) [Own.row w1.heap.size 20 [(Part.begins pairs 0).val]] from
  Own.Slc.row (e := 20) (xs := partCells [Part.begins pairs 0]) w1.heap.size [] [] (by show (1 : Nat) ≤ maxLen; decide))
 have T3 := hhh (T2.out.perm (.refl _) (Own.perm_of_count _ ([Own.row w1.heap.size 20 [(Part.begins pairs 0).val]] ++ (hv ++ (h' ++ [Own.row w.heap.size 159 [.bool pairs, .int .i64 0]]))) fun x => by simp only [List.count_append, List.count_cons, List.count_nil]; omega))
 clear hs i1 t1 T1 T2 HV HT
 go_wp2_with (at_builtin; go_loud (refine Own.wpList_append_both rfl _ _ 82 rfl 20 i0 .nilIface 16 Tryz.underlying82 Hi.out.1 Hi.out.2.1 Hi.out.2.2.1 Hi.out.2.2.2 rfl (.slice (some ⟨w1.heap.size, 0, none⟩) 1 1) (partCells [Part.begins pairs 0]) _ rfl HS1.out (.slice va M vc) (partCells o2) hv rfl HS.out _ T3.out.has h1c.out ?c0 ?c1 ?c2 ?_))
 case c0 => rw [← HM.out]; exact hpl.1
 case c1 => rw [← HM.out]; show 1 + M ≤ maxLen; simp only [maxLen]; omega
 case c2 => rw [← HM.out]; show (1 + M) * 16 ≤ _; omega
 intro ad' c' h2 w2 hs' ht'
 rw [← HM.out, show (partCells [Part.begins pairs 0]).length = 1 from rfl] at hs' ⊢
 have HS3 := hhh hs'
 have T4 := hhh (T3.out.trans ht')
 clear hs' ht'
 go_wp2
 go_ret
 rw [HP.out]
 refine ⟨_, h2, h', rfl, ?_, HI.out, ?_⟩
 ·have := HS3.out
  simpa [partCells] using this
 ·exact (T4.out.perm (.refl _) (Own.perm_of_count _ ((h2 ++ h') ++ (hv ++ [Own.row w.heap.size 159 [.bool pairs, .int .i64 0]])) fun x => by simp only [List.count_append]; omega)).drop
theorem cbegin_any {n : Nat} (hi : c.Is T b post h) (hw : Own.Has w h) (hf : c.Fits n) (hn : n ≤ 1000000) (pairs : Bool) (count : Int) :
  Calls Tryz.prog 136 #[.pointer (some ⟨b, 0, none⟩), .bool pairs, .int .i64 count] w (CoreDoes (c.begin pairs count) T b post h w) := by
 by_cases hc : count = 0
 ·subst hc; exact cbegin_none hi hw hf hn pairs
 ·exact cbegin_open hi hw hf pairs count hc
theorem Core.Is.shut (hi : c.Is T b post h) (L : List Crt) (t : Crt) (hl : c.opened = L ++ [t]) {a0 : Own.Heap} {u : World} (tu : Own.Turn a0 h u w) :
  ∃ ob m spare h', (w.cell? ⟨b, 1, none⟩ = some (.slice (some ⟨ob, 0, none⟩) (L.length + 1) (L.length + 1 + m))) ∧ w.frozen? ⟨b, 1, none⟩ = false ∧ w.cell? ⟨ob, L.length * 3, none⟩ = some (.bool t.pairs) ∧ w.cell? ⟨ob, L.length * 3 + 1, none⟩ = some (.int .i64 t.count) ∧
   w.cell? ⟨ob, L.length * 3 + 2, none⟩ = some (.int .i64 (t.parts : Int)) ∧ spare = 0 ∧ L.length + 1 + m ≤ maxLen ∧
   (Core.mk c.depth c.opened.dropLast c.done c.e c.word c.chunks c.lack c.s c.c).Is T b post h' ∧ Own.Turn a0 h' u (w.setCell ⟨b, 1, none⟩ (.slice (some ⟨ob, 0, none⟩) L.length (L.length + 1 + m))) := by
 obtain ⟨ob, m, spare, sa, sc, hs, rfl, h1, h2, h3⟩ := hi.last L t hl
 have hw := tu.has
 have d := fun (j : Nat) (v : Value) (hv : [Value.bool t.pairs, .int .i64 t.count, .int .i64 (t.parts : Int)][j]? = some v) => hw.cell ob _ _ (mcm _ mcs) (L.length * 3 + j) v (by
  have hj3 : j < 3 := (List.getElem?_eq_some_iff.1 hv).1
  rw [← crtCells_length, List.getElem?_append_right (by omega), Nat.add_sub_cancel_left, List.getElem?_append_left (by simpa using hj3)]; exact hv)
 refine ⟨ob, m, 0, _, hw.cell b _ _ mcs 1 _ rfl, hw.free b _ _ mcs 1, d 0 _ rfl, d 1 _ rfl, d 2 _ rfl, rfl, h2, ?_, tu.put 1 (.slice (some ⟨ob, 0, none⟩) L.length (L.length + 1 + m)) _ rfl⟩
 have hd : c.opened.dropLast = L := by rw [hl]; simp
 rw [hd]
 have := Core.Is.of (Core.mk c.depth L c.done c.e c.word c.chunks c.lack c.s c.c) T b post (ob := ob) (m := m + 1) (spare := [.bool t.pairs, .int .i64 t.count, .int .i64 (t.parts : Int)] ++ spare) (by simp; omega) (by show L.length + (m + 1) ≤ maxLen; omega) h3
 simp only at this
 rw [show L.length + (m + 1) = L.length + 1 + m by omega] at this
 exact this
theorem cbreak_any {n : Nat} (hi : c.Is T b post h) (hw : Own.Has w h) (hf : c.Fits n) (hn : n ≤ 1000000) :
  Calls Tryz.prog 138 #[.pointer (some ⟨b, 0, none⟩)] w (CoreDoes c.break T b post h w) := by
 have HFl := hhh (cfail_any hi hw 2)
 rcases List.eq_nil_or_concat c.opened with h0 | ⟨L, t, h0⟩
 ·have HP := hhh (show c.break = c.fail 2 by unfold Core.break; rw [h0]; rfl)
  obtain ⟨oa, oc, sa, sc, ho, hs, rfl, h1, h2⟩ := hi.opened_
  have c1 := hw.cell b _ _ mcs 1 _ rfl
  rw [h0] at c1
  simp only [List.length_nil] at c1
  clear hi hw h1 h2 hf h0
  generalize c.fail 2 = o at HP HFl
  go_enter Tryz.func138, Tryz.ntmps138
  go_wp2_with (fail)
  refine HFl.out.mono ?_
  rintro e w1 ⟨v, hv, h', rfl, hs, i1, t1⟩
  have HI := hhh i1
  have HT := hhh t1
  have HS := hhh hs
  clear i1 t1 hs
  go_wp2
  go_ret
  rw [HP.out]
  exact ⟨_, hv, h', rfl, HS.out, HI.out, HT.out⟩
 ·rw [List.concat_eq_append] at h0
  have hN16 : L.length < 16 := by have h16 := Nat.le_trans hf.deep hf.depth; rw [h0] at h16; simp at h16; omega
  have HP0 : c.break = if 0 ≤ t.count ∨ (t.pairs = true ∧ t.parts % 2 = 1) then c.fail 2 else (Core.mk c.depth c.opened.dropLast c.done c.e c.word c.chunks c.lack c.s c.c).value .close := by unfold Core.break; rw [h0]; simp
  obtain ⟨ob, m, x0, h1, c1, f1, d0, d1, d2, -, hm, i1, t1⟩ := hi.shut L t h0 (Own.Turn.refl hw)
  have hd : (Core.mk c.depth c.opened.dropLast c.done c.e c.word c.chunks c.lack c.s c.c).Fits n :=
   ⟨hf.depth, by have := hf.deep; show c.opened.dropLast.length ≤ c.depth; rw [List.length_dropLast]; omega, fun t ht => hf.crts t ((List.dropLast_sublist c.opened).subset ht), hf.e, hf.s, hf.c⟩
  have HV := hhh (cvalue_any i1 t1.has hd hn .close)
  have HT1 := hhh t1
  generalize c.fail 2 = o at HP0 HFl
  generalize (Core.mk c.depth c.opened.dropLast c.done c.e c.word c.chunks c.lack c.s c.c).value .close = o2 at HP0 HV
  generalize c.break = O at HP0 ⊢
  have e1 := kmod2 t.parts
  have e2 := kmod2' t.parts
  have hlt := Nat.mod_lt t.parts (show 0 < 2 by omega)
  have htop : ((L.length + 1 : Nat) : Int) - 1 = (L.length : Int) := by omega
  generalize L.length = N at *
  clear h0 hi hw hf hd i1 t1 hn
  obtain ⟨y, ct, k⟩ := t
  simp only at *
  generalize k % 2 = r at e1 e2 HP0 hlt
  have fin : ∀ P : Core × List Part, O = P → ∀ (e : Ending) (w' : World), CoreDoes P T b post h w e w' → CoreDoes O T b post h w e w' := fun P hP e w' hd => hP ▸ hd
  have Fin := hhh fin
  clear fin
  by_cases hcn : 0 ≤ ct
  ·have HP := hhh (show O = o by rw [HP0, if_pos (.inl hcn)])
   clear HP0 HV HT1
   go_enter Tryz.func138, Tryz.ntmps138
   go_wp2_with (fail)
   refine HFl.out.mono ?_
   rintro e w1 ⟨v, hv, h', rfl, hs, i1, t1⟩
   have HI := hhh i1
   have HT := hhh t1
   have HS := hhh hs
   clear i1 t1 hs
   go_wp2
   go_ret
   exact Fin.out _ HP.out _ _ ⟨_, hv, h', rfl, HS.out, HI.out, HT.out⟩
  ·have hcn' : ct < 0 := by omega
   obtain rfl | rfl : r = 0 ∨ r = 1 := by omega
   all_goals cases y
   case neg.inr.true =>
    have HP := hhh (show O = o by rw [HP0, if_pos (.inr ⟨rfl, rfl⟩)])
    clear HP0 HV HT1
    go_enter Tryz.func138, Tryz.ntmps138
    go_wp2_with (fail)
    refine HFl.out.mono ?_
    rintro e w1 ⟨v, hv, h', rfl, hs, i1, t1⟩
    have HI := hhh i1
    have HT := hhh t1
    have HS := hhh hs
    clear i1 t1 hs
    go_wp2
    go_ret
    exact Fin.out _ HP.out _ _ ⟨_, hv, h', rfl, HS.out, HI.out, HT.out⟩
   all_goals
    have HP := hhh (show O = o2 by rw [HP0, if_neg (by simp; omega)])
    clear HP0 HFl
    go_enter Tryz.func138, Tryz.ntmps138
    go_wp2_with (fail)
    refine HV.out.mono ?_
    rintro e w1 ⟨v, hv, h', rfl, hs, i1, t1⟩
    have HI := hhh i1
    have HT := hhh (HT1.out.trans t1)
    have HS := hhh hs
    clear i1 t1 hs
    go_wp2
    go_ret
    exact Fin.out _ HP.out _ _ ⟨_, hv, h', rfl, HS.out, HI.out, HT.out⟩
end
end Pip
end
section
open Go.RowKit
open Json (Part)
namespace Pip
theorem infoU8 : (Tryz.prog.info? 5).map (fun i => (i.zero, i.size, i.bytes)) = some (some (.int .u8 0), 1, 1) := by kernel_rfl
def Core.with_ (c : Core) (word chunks : Bool) (lack : Nat) (s : List UInt8) (k : Esc.Chk) : Core := ⟨c.depth, c.opened, c.done, c.e, word, chunks, lack, s, k⟩
section
variable {c : Core} {T : TypeId} {b : Nat} {post : List Value} {h : Own.Heap} {w : World}
theorem ctext_any {n : Nat} (hi : c.Is T b post h) (hw : Own.Has w h) (hf : c.Fits n) (hn : n ≤ 1000000) :
  Calls Tryz.prog 128 #[.pointer (some ⟨b, 0, none⟩)] w (CoreDoes c.text T b post h w) := by
 have hd : (c.with_ c.word false c.lack [] c.c).Fits n := ⟨hf.depth, hf.deep, hf.crts, hf.e, by have := hf.s; show ([] : List UInt8).length + c.lack ≤ 200; rw [List.length_nil]; omega, hf.c⟩
 have HP0 : c.text = (c.with_ c.word false c.lack [] c.c).value (if c.word then .word ⟨c.s.toArray⟩ else .blob ⟨c.s.toArray⟩) := rfl
 obtain ⟨oa, oc, sa, sc, ho, hs, rfl, h1, h2⟩ := hi.opened_
 have c4 := hw.cell b _ _ mcs 4 _ rfl
 have c5 := hw.cell b _ _ mcs 5 _ rfl
 have c7 := hw.cell b _ _ mcs 7 _ rfl
 have f5 := hw.free b _ _ mcs 5
 have f7 := hw.free b _ _ mcs 7
 have hcv : (convert 51 9 (.slice sa c.s.length sc)).run Tryz.prog w = .ok (.string ⟨c.s.toArray⟩) w :=
  Own.Slc.run_string c.s 51 9 Tryz.underlying51 Tryz.underlying5 Tryz.underlying9 h2 (Own.Has.right (Own.Has.right (a := [_]) hw))
 have T1 : Own.Turn (Own.row b T (c.cells (.slice oa c.opened.length oc) (.slice sa c.s.length sc) ++ post) :: (ho ++ hs))
   ((Own.row b T ((c.with_ c.word false c.lack [] c.c).cells (.slice oa c.opened.length oc) (.slice none 0 0) ++ post) :: ho) ++ hs) w ((w.setCell ⟨b, 7, none⟩ (.slice none 0 0)).setCell ⟨b, 5, none⟩ (.bool false)) :=
  ((Own.Turn.refl hw).put 7 (.slice none 0 0) _ rfl).put 5 (.bool false) _ rfl
 have HT := hhh T1.drop
 have i1 : (c.with_ c.word false c.lack [] c.c).Is T b post (Own.row b T ((c.with_ c.word false c.lack [] c.c).cells (.slice oa c.opened.length oc) (.slice none 0 0) ++ post) :: ho) :=
  ⟨_, _, ho, [], h1, .bare none rfl, by rw [List.append_nil]⟩
 have HV := hhh (fun v => cvalue_any i1 HT.out.has hd hn v)
 obtain ⟨S, hS⟩ : ∃ S : ByteArray, S = ⟨c.s.toArray⟩ := ⟨_, rfl⟩
 rw [← hS] at hcv HP0
 generalize c.text = O at HP0 ⊢
 have HPb := fun (h : c.word = false) => HP0.trans (by rw [if_neg (by rw [h]; exact Bool.false_ne_true)])
 have HPw := fun (h : c.word = true) => HP0.trans (by rw [if_pos h])
 clear hS hi hw hf h1 h2 T1 i1 hd HP0
 cases hwd : c.word
 ·rw [hwd] at c4
  have HP := hhh (HPb hwd)
  have HVv := hhh (HV.out (.blob S))
  clear hwd HPb HPw HV
  go_enter Tryz.func128, Tryz.ntmps128
  go_wp2_with (fail)
  refine HVv.out.mono ?_
  rintro e w1 ⟨v, hv, h', rfl, hs, i1, t1⟩
  have HI := hhh i1
  have HT2 := hhh (HT.out.trans t1)
  have HS := hhh hs
  clear i1 t1 hs HVv HT
  go_wp2
  go_ret
  rw [HP.out]
  exact ⟨_, hv, h', rfl, HS.out, HI.out, HT2.out⟩
 ·rw [hwd] at c4
  have HP := hhh (HPw hwd)
  have HVv := hhh (HV.out (.word S))
  clear hwd HPb HPw HV
  go_enter Tryz.func128, Tryz.ntmps128
  go_wp2_with (fail)
  refine HVv.out.mono ?_
  rintro e w1 ⟨v, hv, h', rfl, hs, i1, t1⟩
  have HI := hhh i1
  have HT2 := hhh (HT.out.trans t1)
  have HS := hhh hs
  clear i1 t1 hs HVv HT
  go_wp2
  go_ret
  rw [HP.out]
  exact ⟨_, hv, h', rfl, HS.out, HI.out, HT2.out⟩
theorem clength_any {n : Nat} (hi : c.Is T b post h) (hw : Own.Has w h) (hf : c.Fits n) (hn : n ≤ 1000000) (word : Bool) (m : Nat) :
  Calls Tryz.prog 135 #[.pointer (some ⟨b, 0, none⟩), .bool word, .int .u64 (m : Int)] w (CoreDoes (c.length word m) T b post h w) := by
 have hs200 := hf.s
 have HFl := hhh (cfail_any hi hw 5)
 have HP0 : c.length word m = if 200 - c.s.length < m then c.fail 5 else if 0 < m ∨ c.chunks = true then (c.with_ word c.chunks m c.s Chk_zero, []) else (c.with_ word c.chunks m c.s Chk_zero).text := rfl
 obtain ⟨oa, oc, sa, sc, ho, hs, rfl, h1, h2⟩ := hi.opened_
 have c4 := hw.cell b _ _ mcs 4 _ rfl
 have c5 := hw.cell b _ _ mcs 5 _ rfl
 have c6 := hw.cell b _ _ mcs 6 _ rfl
 have c7 := hw.cell b _ _ mcs 7 _ rfl
 have c8 := hw.cell b _ _ mcs 8 _ rfl
 have c9 := hw.cell b _ _ mcs 9 _ rfl
 have c10 := hw.cell b _ _ mcs 10 _ rfl
 have c11 := hw.cell b _ _ mcs 11 _ rfl
 have f4 := hw.free b _ _ mcs 4
 have f6 := hw.free b _ _ mcs 6
 have f8 := hw.free b _ _ mcs 8
 have f9 := hw.free b _ _ mcs 9
 have f10 := hw.free b _ _ mcs 10
 have f11 := hw.free b _ _ mcs 11
 have T1 := fun (_ : m ≤ 200) => (show Own.Turn (Own.row b T (c.cells (.slice oa c.opened.length oc) (.slice sa c.s.length sc) ++ post) :: (ho ++ hs))
   (Own.row b T ((c.with_ word c.chunks m c.s Chk_zero).cells (.slice oa c.opened.length oc) (.slice sa c.s.length sc) ++ post) :: (ho ++ hs)) w
   ((((((w.setCell ⟨b, 4, none⟩ (.bool word)).setCell ⟨b, 6, none⟩ (.int .i64 (m : Int))).setCell ⟨b, 8, none⟩ (.int .i64 0)).setCell ⟨b, 9, none⟩ (.int .u8 0)).setCell ⟨b, 10, none⟩ (.int .u8 0)).setCell ⟨b, 11, none⟩ (.bool false)) from
  ((((((Own.Turn.refl hw).put 4 (.bool word) _ rfl).put 6 (.int .i64 (m : Int)) _ rfl).put 8 (.int .i64 0) _ rfl).put 9 (.int .u8 0) _ rfl).put 10 (.int .u8 0) _ rfl).put 11 (.bool false) _ rfl)
 have i1 : (c.with_ word c.chunks m c.s Chk_zero).Is T b post (Own.row b T ((c.with_ word c.chunks m c.s Chk_zero).cells (.slice oa c.opened.length oc) (.slice sa c.s.length sc) ++ post) :: (ho ++ hs)) := ⟨_, _, ho, hs, h1, h2, rfl⟩
 have HI1 := hhh i1
 obtain ⟨K, hK⟩ : ∃ K, K = 200 - c.s.length := ⟨_, rfl⟩
 have hsub : (200 : Int) - (c.s.length : Int) = (K : Int) := by omega
 have hK200 : K ≤ 200 := by omega
 rw [← hK] at HP0
 have hd := fun (hm : m ≤ K) => (show (c.with_ word c.chunks m c.s Chk_zero).Fits n from ⟨hf.depth, hf.deep, hf.crts, hf.e, by show c.s.length + m ≤ 200; omega, Nat.zero_le _⟩)
 generalize c.length word m = O at HP0 ⊢
 have fin : ∀ P : Core × List Part, O = P → ∀ (e : Ending) (w' : World), CoreDoes P T b post (Own.row b T (c.cells (.slice oa c.opened.length oc) (.slice sa c.s.length sc) ++ post) :: (ho ++ hs)) w e w' → CoreDoes O T b post (Own.row b T (c.cells (.slice oa c.opened.length oc) (.slice sa c.s.length sc) ++ post) :: (ho ++ hs)) w e w' := fun P hP e w' hd => hP ▸ hd
 have Fin := hhh fin
 clear fin hi i1 h1 h2 hs200 hK
 by_cases hlt : K < m
 ·have HP := hhh (show O = c.fail 5 by rw [HP0, if_pos hlt])
  have hltI : (K : Int) < (m : Int) := by omega
  clear HP0 hd T1 hf hw c4 c5 c6 c8 c9 c10 c11 f4 f6 f8 f9 f10 f11
  go_enter Tryz.func135, Tryz.ntmps135
  go_wp2_with (fail)
  refine HFl.out.mono ?_
  rintro e w1 ⟨v, hv, h', rfl, hs, i1, t1⟩
  have HI := hhh i1
  have HT2 := hhh t1
  have HS := hhh hs
  clear i1 t1 hs
  go_wp2
  go_ret
  exact Fin.out _ HP.out _ _ ⟨_, hv, h', rfl, HS.out, HI.out, HT2.out⟩
 ·have hltI : ¬ (K : Int) < (m : Int) := by omega
  have hm200 : m ≤ 200 := by omega
  have HT1 := hhh (T1 hm200)
  have hd1 := hd (by omega)
  rw [if_neg hlt] at HP0
  have HTx := hhh (ctext_any HI1.out HT1.out.has hd1 hn)
  clear T1 hd hd1 HFl hlt hf hw
  have hwm : IntKind.i64.wrap (m : Int) = (m : Int) := by rw [IntKind.wrap_i64]; omega
  rcases Nat.eq_zero_or_pos m with h0 | h0
  ·subst h0
   cases hch : c.chunks
   ·have HP := hhh (HP0.trans (if_neg (by rw [hch]; simp)))
    rw [hch] at c5
    clear HP0
    go_enter Tryz.func135, Tryz.ntmps135
    go_wp2_with (fail)
    refine HTx.out.mono ?_
    rintro e w1 ⟨v, hv, h', rfl, hs, i1, t1⟩
    have HI := hhh i1
    have HT2 := hhh (HT1.out.trans t1)
    have HS := hhh hs
    clear i1 t1 hs
    go_wp2
    go_ret
    exact Fin.out _ HP.out _ _ ⟨_, hv, h', rfl, HS.out, HI.out, HT2.out⟩
   ·have HP := hhh (HP0.trans (if_pos (.inr hch)))
    rw [hch] at c5
    clear HP0
    go_enter Tryz.func135, Tryz.ntmps135
    go_wp2_with (fail)
    go_ret
    exact Fin.out _ HP.out _ _ (.nought rfl HI1.out HT1.out)
  ·have HP := hhh (HP0.trans (if_pos (.inl h0)))
   have h0I : (0 : Int) < (m : Int) := by omega
   clear HP0 HTx
   go_enter Tryz.func135, Tryz.ntmps135
   go_wp2_with (fail)
   go_ret
   exact Fin.out _ HP.out _ _ (.nought rfl HI1.out HT1.out)
end
end Pip
end
section
open Go.RowKit
open Json (Part)
namespace Pip
section
variable {c : Core} {T : TypeId} {b : Nat} {post : List Value} {h : Own.Heap} {w : World}
theorem Core.Is.check (hi : c.Is T b post h) (hw : Own.Has w h) (x : UInt8) (hl : c.c.lack ≤ 3) :
  Calls Tryz.prog 112 #[.pointer (some ⟨b, 8, none⟩), .int .u8 (x.toNat : Int)] w fun e w' => e = .returned (.bool (c.c.step x).2) ∧ ∃ h', (c.with_ c.word c.chunks c.lack c.s (c.c.step x).1).Is T b post h' ∧ Own.Turn h h' w w' := by
 obtain ⟨ov, sv, ho, hs, h1, h2, rfl⟩ := hi
 have ha : At.Is w b T [.int .i64 (c.depth : Int), ov, .bool c.done, .int .i64 (c.e : Int), .bool c.word, .bool c.chunks, .int .i64 (c.lack : Int), sv] c.c.enc post := hw.is3 mcs
 refine (Esc.cstep_any w b T _ post c.c x hl ha).mono ?_
 rintro e w' ⟨rfl, h3, h4⟩
 exact ⟨rfl, _, ⟨ov, sv, ho, hs, h1, h2, rfl⟩, Own.Turn.only hw h3 h4⟩
theorem Core.Is.whole (hi : c.Is T b post h) (hw : Own.Has w h) :
  Calls Tryz.prog 104 #[.pointer (some ⟨b, 8, none⟩)] w fun e w' => e = .returned (.bool c.c.whole) ∧ w = w' := by
 obtain ⟨ov, sv, ho, hs, h1, h2, rfl⟩ := hi
 have ha : At.Is w b T [.int .i64 (c.depth : Int), ov, .bool c.done, .int .i64 (c.e : Int), .bool c.word, .bool c.chunks, .int .i64 (c.lack : Int), sv] c.c.enc post := hw.is3 mcs
 refine (Esc.cwhole_any w b T _ post c.c ha).mono ?_
 rintro e w' ⟨rfl, h3⟩
 exact ⟨rfl, h3⟩
theorem cbyte_any {n : Nat} (hi : c.Is T b post h) (hw : Own.Has w h) (hf : c.Fits n) (hn : n ≤ 1000000) (hl : 0 < c.lack) (x : UInt8) :
  Calls Tryz.prog 123 #[.pointer (some ⟨b, 0, none⟩), .int .u8 (x.toNat : Int)] w (CoreDoes (c.byte x) T b post h w) := by
 obtain ⟨i0, hi0, e0⟩ := Option.map_eq_some_iff.1 infoU8
 simp only [Prod.mk.injEq] at e0
 obtain ⟨hz, hsz, hby⟩ := e0
 have Hi := hhh (And.intro hi0 (And.intro hz (And.intro hsz hby)))
 have hs200 := hf.s
 have hck := hf.c
 have hFd := hf.fed hl x
 have HP0 : c.byte x = if c.word = true ∧ ((c.c.step x).2 = false ∨ (c.lack = 1 ∧ (c.chk x).whole = false)) then (c.fed x).fail 9 else if 1 < c.lack ∨ c.chunks = true then (c.fed x, []) else (c.fed x).text := rfl
 have hchk : c.chk x = if c.word then (c.c.step x).1 else c.c := rfl
 have hfed : c.fed x = c.with_ c.word c.chunks (c.lack - 1) (c.s ++ [x]) (c.chk x) := rfl
 obtain ⟨oa, oc, sa, sc, ho, hs, rfl, h1, h2⟩ := hi.opened_
 have c7 := hw.cell b _ _ mcs 7 _ rfl
 have hW : Own.Has w (hs ++ (Own.row b T (c.cells (.slice oa c.opened.length oc) (.slice sa c.s.length sc) ++ post) :: ho)) := (Own.Has.swap (a := _ :: ho) hw)
 have HW := hhh hW
 have HS := hhh h2
 have hM : c.s.length < 200 := by omega
 have HMl := hhh (u8s_length c.s)
 have Hpm := hhh (show (Own.row b T (c.cells (.slice oa c.opened.length oc) (.slice sa c.s.length sc) ++ post) :: (ho ++ hs)).Perm (hs ++ (Own.row b T (c.cells (.slice oa c.opened.length oc) (.slice sa c.s.length sc) ++ post) :: ho)) from
  List.perm_append_comm (l₁ := _ :: ho))
 obtain ⟨K, hK⟩ : ∃ K, K = c.lack - 1 := ⟨_, rfl⟩
 have hKl : c.lack = K + 1 := by omega
 have HIs := hhh (fun (sv : Value) (hs' : Own.Heap) (h2' : Own.Slc 5 (u8s (c.s ++ [x])) sv hs') => (show (c.with_ c.word c.chunks K (c.s ++ [x]) c.c).Is T b post (Own.row b T ((c.with_ c.word c.chunks K (c.s ++ [x]) c.c).cells (.slice oa c.opened.length oc) sv ++ post) :: (ho ++ hs')) from
  ⟨_, sv, ho, hs', h1, h2', rfl⟩))
 rw [hfed, ← hK] at hFd HP0
 have h1K : (1 < c.lack ∨ c.chunks = true) ↔ (0 < K ∨ c.chunks = true) := by
  rw [hKl]
  constructor
  ·rintro (h | h)
   ·exact .inl (by omega)
   ·exact .inr h
  ·rintro (h | h)
   ·exact .inl (by omega)
   ·exact .inr h
 have h1L : c.lack = 1 ↔ K = 0 := by omega
 simp only [h1K, h1L] at HP0
 generalize c.byte x = O at HP0 ⊢
 have HPf := hhh (fun (hwd : c.word = false) => (show (O = if 0 < K ∨ c.chunks = true then (c.with_ c.word c.chunks K (c.s ++ [x]) c.c, []) else (c.with_ c.word c.chunks K (c.s ++ [x]) c.c).text) ∧ (c.with_ c.word c.chunks K (c.s ++ [x]) c.c).Fits n by
  have hk : c.chk x = c.c := by rw [hchk, hwd]; rfl
  rw [hk] at HP0 hFd
  exact ⟨by rw [HP0, if_neg (by rw [hwd]; rintro ⟨h, _⟩; cases h)], hFd⟩))
 have HPt := hhh (fun (hwd : c.word = true) => (show (O = if (c.c.step x).2 = false ∨ (K = 0 ∧ (c.c.step x).1.whole = false) then (c.with_ c.word c.chunks K (c.s ++ [x]) (c.c.step x).1).fail 9 else if 0 < K ∨ c.chunks = true then (c.with_ c.word c.chunks K (c.s ++ [x]) (c.c.step x).1, []) else (c.with_ c.word c.chunks K (c.s ++ [x]) (c.c.step x).1).text) ∧ (c.with_ c.word c.chunks K (c.s ++ [x]) (c.c.step x).1).Fits n by
  have hk : c.chk x = (c.c.step x).1 := by rw [hchk, hwd]; rfl
  rw [hk] at HP0 hFd
  refine ⟨?_, hFd⟩
  by_cases hq : (c.c.step x).2 = false ∨ (K = 0 ∧ (c.c.step x).1.whole = false)
  ·rw [HP0, if_pos ⟨hwd, hq⟩, if_pos hq]
  ·rw [HP0, if_neg (fun h => hq h.2), if_neg hq]))
 have fin : ∀ P : Core × List Part, O = P → ∀ (e : Ending) (w' : World), CoreDoes P T b post (Own.row b T (c.cells (.slice oa c.opened.length oc) (.slice sa c.s.length sc) ++ post) :: (ho ++ hs)) w e w' → CoreDoes O T b post (Own.row b T (c.cells (.slice oa c.opened.length oc) (.slice sa c.s.length sc) ++ post) :: (ho ++ hs)) w e w' := fun P hP e w' hd => hP ▸ hd
 have Fin := hhh fin
 have Hn := hhh hn
 have Hck := hhh hck
 have HKl := hhh hKl
 have hkm : ((K + 1 : Nat) : Int) - 1 = (K : Int) := by omega
 have hK8 : K < 200 := by omega
 clear fin hi hw hf h1 h2 hi0 hz hsz hby hW hs200 hck hFd HP0 hchk hfed hl hK hn h1K h1L hKl
 go_enter Tryz.func123, Tryz.ntmps123
 go_wp2_with (at_builtin; go_loud (refine Own.wpList_append_oneAt w.heap.size rfl rfl _ _ 51 rfl 5 i0 (.int .u8 0) 1 Tryz.underlying51 Hi.out.1 Hi.out.2.1 Hi.out.2.2.1 Hi.out.2.2.2 rfl (.slice sa c.s.length sc) (u8s c.s) c.s.length HMl.out hs _ rfl HS.out HW.out _ rfl rfl ?c1 ?c2 ?_))
 case c1 => simp only [maxLen]; omega
 case c2 => omega
 intro ad' c' h' w1 hs' ht'
 have S1 := hhh (show Own.Slc 5 (u8s (c.s ++ [x])) (.slice ad' (c.s.length + 1) c') h' by rw [u8s_append]; exact hs')
 have T1 := hhh (show Own.Turn (Own.row b T (c.cells (.slice oa c.opened.length oc) (.slice sa c.s.length sc) ++ post) :: (ho ++ hs)) (Own.row b T (c.cells (.slice oa c.opened.length oc) (.slice sa c.s.length sc) ++ post) :: (ho ++ h')) w w1 from
  ht'.perm Hpm.out.symm (List.perm_append_comm (l₂ := _ :: ho)))
 have g7 := T1.out.has.free b _ _ mcs 7
 have g6 := T1.out.has.free b _ _ mcs 6
 have d6 := T1.out.has.cell b _ _ mcs 6 _ rfl
 have d7 := T1.out.has.cell b _ _ mcs 7 _ rfl
 have d4 := T1.out.has.cell b _ _ mcs 4 _ rfl
 have d5 := T1.out.has.cell b _ _ mcs 5 _ rfl
 rw [HKl.out] at d6
 have T2 := hhh (show Own.Turn (Own.row b T (c.cells (.slice oa c.opened.length oc) (.slice sa c.s.length sc) ++ post) :: (ho ++ hs)) (Own.row b T ((c.with_ c.word c.chunks K (c.s ++ [x]) c.c).cells (.slice oa c.opened.length oc) (.slice ad' (c.s.length + 1) c') ++ post) :: (ho ++ h')) w
   ((w1.setCell ⟨b, 7, none⟩ (.slice ad' (c.s.length + 1) c')).setCell ⟨b, 6, none⟩ (.int .i64 (K : Int))) from (T1.out.put 7 (.slice ad' (c.s.length + 1) c') _ rfl).put 6 (.int .i64 (K : Int)) _ rfl)
 have I2 := hhh (HIs.out _ _ S1.out)
 have HCk := hhh (I2.out.check T2.out.has x Hck.out)
 clear hs' ht' HIs S1 T1 HS HW HMl Hpm
 cases hwd : c.word
 ·obtain ⟨hP, hF⟩ := HPf.out hwd
  rw [hwd] at d4
  have HTx := hhh (ctext_any I2.out T2.out.has hF Hn.out)
  clear HPf HPt hwd hF HCk
  rcases Nat.eq_zero_or_pos K with h0 | h0
  ·subst h0
   cases hch : c.chunks
   ·have HP := hhh (hP.trans (if_neg (by rw [hch]; simp)))
    rw [hch] at d5
    clear hP hch
    go_wp2_with (fail)
    refine HTx.out.mono ?_
    rintro e w2 ⟨v, hv, h2, rfl, hs, i2, t2⟩
    have HI := hhh i2
    have HT2 := hhh (T2.out.trans t2)
    have HS := hhh hs
    clear i2 t2 hs HTx T2
    go_wp2
    go_ret
    exact Fin.out _ HP.out _ _ ⟨_, hv, h2, rfl, HS.out, HI.out, HT2.out⟩
   ·have HP := hhh (hP.trans (if_pos (.inr hch)))
    rw [hch] at d5
    clear hP hch HTx
    go_wp2_with (fail)
    go_ret
    exact Fin.out _ HP.out _ _ (.nought rfl I2.out T2.out)
  ·have HP := hhh (hP.trans (if_pos (.inl h0)))
   have h0I : (0 : Int) < (K : Int) := by omega
   clear hP HTx
   go_wp2_with (fail)
   go_ret
   exact Fin.out _ HP.out _ _ (.nought rfl I2.out T2.out)
 ·obtain ⟨hP, hF⟩ := HPt.out hwd
  rw [hwd] at d4
  have HFF := hhh hF
  clear HPf HPt hwd hF
  rw [show (c.with_ c.word c.chunks K (c.s ++ [x]) c.c).c = c.c from rfl] at HCk
  generalize c.c.step x = sx at hP HFF HCk
  obtain ⟨k2, ok⟩ := sx
  simp only at hP HFF
  have HPh := hhh hP
  clear hP
  go_wp2_with (fail)
  refine HCk.out.mono ?_
  rintro e w2 ⟨rfl, h2, i2, t2⟩
  have HI := hhh (show (c.with_ c.word c.chunks K (c.s ++ [x]) k2).Is T b post h2 from i2)
  have T3 := hhh (T2.out.trans t2)
  obtain ⟨-, -, -, e5, e6⟩ := HI.out.cell T3.out.has
  replace e5 : w2.cell? ⟨b, 5, none⟩ = some (.bool c.chunks) := e5
  replace e6 : w2.cell? ⟨b, 6, none⟩ = some (.int .i64 (K : Int)) := e6
  clear i2 t2 HCk T2 I2 d4 d5 d6 d7 g6 g7
  have HFl := hhh (cfail_any HI.out T3.out.has 9)
  have HTx := hhh (ctext_any HI.out T3.out.has HFF.out Hn.out)
  have HWh := hhh (HI.out.whole T3.out.has)
  rw [show (c.with_ c.word c.chunks K (c.s ++ [x]) k2).c = k2 from rfl] at HWh
  cases ok
  ·have HP := hhh (HPh.out.trans (if_pos (.inl rfl)))
   clear HPh HTx HWh
   go_wp2_with (fail)
   refine HFl.out.mono ?_
   rintro e w3 ⟨v, hv, h3, rfl, hs, i3, t3⟩
   have HI3 := hhh i3
   have HT3 := hhh (T3.out.trans t3)
   have HS := hhh hs
   clear i3 t3 hs
   go_wp2
   go_ret
   exact Fin.out _ HP.out _ _ ⟨_, hv, h3, rfl, HS.out, HI3.out, HT3.out⟩
  ·rcases Nat.eq_zero_or_pos K with h0 | h0
   ·subst h0
    generalize k2.whole = wh at HPh HWh
    go_wp2_with (fail)
    refine HWh.out.mono ?_
    rintro e w3 ⟨rfl, rfl⟩
    cases wh
    ·have HP := hhh (HPh.out.trans (if_pos (by simp)))
     clear HPh HTx HWh
     go_wp2_with (fail)
     refine HFl.out.mono ?_
     rintro e w3 ⟨v, hv, h3, rfl, hs, i3, t3⟩
     have HI3 := hhh i3
     have HT3 := hhh (T3.out.trans t3)
     have HS := hhh hs
     clear i3 t3 hs
     go_wp2
     go_ret
     exact Fin.out _ HP.out _ _ ⟨_, hv, h3, rfl, HS.out, HI3.out, HT3.out⟩
    ·have hP := HPh.out.trans (if_neg (by simp))
     clear HWh HFl HPh
     cases hch : c.chunks
     ·have HP := hhh (hP.trans (if_neg (by rw [hch]; simp)))
      rw [hch] at e5
      clear hP hch
      go_wp2_with (fail)
      refine HTx.out.mono ?_
      rintro e w3 ⟨v, hv, h3, rfl, hs, i3, t3⟩
      have HI3 := hhh i3
      have HT3 := hhh (T3.out.trans t3)
      have HS := hhh hs
      clear i3 t3 hs
      go_wp2
      go_ret
      exact Fin.out _ HP.out _ _ ⟨_, hv, h3, rfl, HS.out, HI3.out, HT3.out⟩
     ·have HP := hhh (hP.trans (if_pos (.inr hch)))
      rw [hch] at e5
      clear hP hch HTx
      go_wp2_with (fail)
      go_ret
      exact Fin.out _ HP.out _ _ (.nought rfl HI.out T3.out)
   ·have HP := hhh ((HPh.out.trans (if_neg (by simp; omega))).trans (if_pos (.inl h0)))
    have h0I : (0 : Int) < (K : Int) := by omega
    have h0b : ((K : Int) == 0) = false := by rw [beq_eq_false_iff_ne]; omega
    clear HPh HTx HWh HFl
    go_wp2_with (fail)
    go_ret
    exact Fin.out _ HP.out _ _ (.nought rfl HI.out T3.out)
end
end Pip
end
end Go.Proofs.YtnnkkgglfajmhaaGreat
