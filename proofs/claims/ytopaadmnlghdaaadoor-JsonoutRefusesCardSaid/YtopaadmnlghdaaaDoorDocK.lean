/- truchmanbook.Doc's 'item': an array. -/
import Derived.Test.YtopaadmnlghdaaaDoorDocI
namespace Go.Proofs.YtopaadmnlghdaaaDoor
open Go.RowKit
namespace Json

theorem items_left (l : List Int) (f m a : Nat) (k' E : Nat) (hE : E + (m + 1) * (4 * 3 ^ f - 2) + 2 ≤ 500000) (hk : k' + (m + 1) * (4 * 3 ^ f - 2) + 2 ≤ 500000) :
    k' + 4 * 3 ^ f ≤ 500000 ∧ E + 4 * 3 ^ f ≤ 500000 ∧ E + (item l f a).1.length + m * (4 * 3 ^ f - 2) + 2 ≤ 500000 ∧ ((item l f k').2 + m * (4 * 3 ^ f - 2) + 2 ≤ 500000) := by
  have h1 := item_len l f a
  have h2 := item_len l f k'
  have hp : 0 < 3 ^ f := Nat.pow_pos (by omega)
  rw [Nat.succ_mul] at hE hk
  generalize m * (4 * 3 ^ f - 2) = M at hE hk ⊢
  omega

/-- What a run through an array's values keeps. -/
structure ItemsAt (l : List Int) (B : Nat) (f q : Nat) (a : Nat) (pre : List Evt) (H0 : Own.Heap) (w0 : World) (nb db ib ab lb ob : Nat) (depth : Nat) (v : Value) (j : Nat) (k' : Nat) (es' : List Evt) (ov' : Value) (ho' : Own.Heap) (w : World) : Prop where
  le : j ≤ q
  at_ : DocAt l B nb db ib ab lb ob depth v k' es' ov' ho' w
  turn : Own.Turn H0 (docHeap nb db ib ab lb ob depth v k' ov' ho') w0 w
  parts : pre ++ (items (item l f) q a).1 = es' ++ (items (item l f) (q - j) k').1
  pos : (items (item l f) q a).2 = (items (item l f) (q - j) k').2
  room : es'.length + (q - j) * (4 * 3 ^ f - 2) + 2 ≤ 500000
  rest : k' + (q - j) * (4 * 3 ^ f - 2) + 2 ≤ 500000

section
variable {l : List Int} {B f q a : Nat} {pre : List Evt} {H0 : Own.Heap} {w0 : World} {nb db ib ab lb ob : Nat} {depth : Nat} {v : Value} {j k' : Nat} {es' : List Evt} {ov' : Value} {ho' : Own.Heap} {w : World}

theorem ItemsAt.next (h : ItemsAt l B f q a pre H0 w0 nb db ib ab lb ob depth v j k' es' ov' ho' w) (hj : j < q) {ov2 : Value} {ho2 : Own.Heap} {w2 : World}
    (s : Own.Slk 5 34 (es' ++ (item l f k').1).length ((es' ++ (item l f k').1).flatMap Evt.cells) ov2 ho2)
    (t : Own.Turn (docHeap nb db ib ab lb ob depth v k' ov' ho') (docHeap nb db ib ab lb ob depth v (item l f k').2 ov2 ho2) w w2) :
    ItemsAt l B f q a pre H0 w0 nb db ib ab lb ob depth v (j + 1) (item l f k').2 (es' ++ (item l f k').1) ov2 ho2 w2 := by
  obtain ⟨m, hm⟩ : ∃ m, q - j = m + 1 := ⟨q - j - 1, by omega⟩
  have hm2 : q - (j + 1) = m := by omega
  have hp := h.parts
  have hq := h.pos
  have hr := h.room
  have hs := h.rest
  rw [hm] at hp hq hr hs
  have hl := items_left l f m k' k' es'.length hr hs
  refine ⟨by omega, h.at_.turn t s, h.turn.trans t, ?_, ?_, ?_, ?_⟩
  · rw [hm2, hp]; simp only [items, List.append_assoc]
  · rw [hm2, hq]; rfl
  · rw [hm2, List.length_append]; exact hl.2.2.1
  · rw [hm2]; exact hl.2.2.2

theorem ItemsAt.call (h : ItemsAt l B f q a pre H0 w0 nb db ib ab lb ob depth v j k' es' ov' ho' w) (hj : j < q) : k' + 4 * 3 ^ f ≤ 500000 ∧ es'.length + 4 * 3 ^ f ≤ 500000 := by
  obtain ⟨m, hm⟩ : ∃ m, q - j = m + 1 := ⟨q - j - 1, by omega⟩
  have hr := h.room
  have hs := h.rest
  rw [hm] at hr hs
  have hl := items_left l f m k' k' es'.length hr hs
  exact ⟨hl.1, hl.2.1⟩

theorem ItemsAt.done (h : ItemsAt l B f q a pre H0 w0 nb db ib ab lb ob depth v q k' es' ov' ho' w) : es' = pre ++ (items (item l f) q a).1 ∧ k' = (items (item l f) q a).2 := by
  have hp := h.parts
  have hq := h.pos
  rw [Nat.sub_self] at hp hq
  simp only [items, List.append_nil] at hp hq
  exact ⟨hp.symm, hq.symm⟩
end

set_option maxRecDepth 100000 in
set_option maxHeartbeats 4000000 in
theorem item_array (l : List Int) (B f : Nat) (ih : ItemDoes l B f) (nb db ib ab lb ob : Nat) (d depth : Nat) (v : Value) (k : Nat) (es : List Evt) (ov : Value) (ho : Own.Heap) (w : World) (hdd : depth = d + (f + 1)) (h10 : depth ≤ 10)
    (hD : DocAt l B nb db ib ab lb ob depth v k es ov ho w) (hk : k + 4 * 3 ^ (f + 1) ≤ 500000) (hes : es.length + 4 * 3 ^ (f + 1) ≤ 500000) (hx : num l k % 8 = 5) :
    Calls Tryd.prog 32 #[.int .i64 (d : Int), .pointer (some ⟨nb, 0, none⟩), .pointer (some ⟨ob, 0, none⟩), .pointer (some ⟨db, 0, none⟩), .pointer (some ⟨ib, 0, none⟩)] w fun e w' => (∃ r, e = .returned r) ∧
      ∃ ov' ho', Own.Slk 5 34 (es ++ (item l (f + 1) k).1).length ((es ++ (item l (f + 1) k).1).flatMap Evt.cells) ov' ho' ∧
        Own.Turn (docHeap nb db ib ab lb ob depth v k ov ho) (docHeap nb db ib ab lb ob depth v (item l (f + 1) k).2 ov' ho') w w' := by
  have hit : item l (f + 1) k = (⟨5, false, 0, ⟨#[]⟩, ((num l k / 8 % 4 : Nat) : Int)⟩ :: ((items (item l f) (num l k / 8 % 4) (k + 1)).1 ++ [ends]), (items (item l f) (num l k / 8 % 4) (k + 1)).2) := by
    rw [item]; try dsimp only
    rw [if_neg (by omega), if_neg (by omega), if_neg (by omega), if_neg (by omega), if_pos hx]
  have hp3 : 0 < 3 ^ f := Nat.pow_pos (by omega)
  have h3 : 3 ^ (f + 1) = 3 * 3 ^ f := by rw [Nat.pow_succ, Nat.mul_comm]
  rw [h3] at hk hes
  obtain ⟨q, hqe⟩ : ∃ q, q = num l k / 8 % 4 := ⟨_, rfl⟩
  rw [← hqe] at hit
  have HIT := Lib.hid hit
  have hq4 : q ≤ 3 := by omega
  have hroom := Lib.hid (show es.length + 1 + q * (4 * 3 ^ f - 2) + 2 ≤ 500000 by
    have := Nat.mul_le_mul_right (4 * 3 ^ f - 2) hq4
    omega)
  have hrest := Lib.hid (show k + 1 + q * (4 * 3 ^ f - 2) + 2 ≤ 500000 by
    have := Nat.mul_le_mul_right (4 * 3 ^ f - 2) hq4
    omega)
  have hk1 : k ≤ 499990 := by omega
  have hes1 : es.length ≤ 499990 := by omega
  have hsh : ((num l k : Nat) : Int) / 8 = ((num l k / 8 : Nat) : Int) := by omega
  have hqm : ((num l k / 8 : Nat) : Int).tmod 4 = (q : Int) := by rw [Int.tmod_eq_emod_of_nonneg (by omega)]; omega
  have hqm' : ((num l k / 8 : Nat) : Int) % 4 = (q : Int) := by omega
  have HX := Lib.hid (next_any l hD.has.left hD.nums hD.ab_le (by omega))
  have c0 := hD.has.cell nb _ _ (List.mem_append_right _ (List.mem_append_left _ (List.mem_cons_self ..))) 0 _ rfl
  have HD := Lib.hid hD
  have IH := Lib.hid ih
  obtain ⟨i0, hi, hz0, hz1, hz2⟩ := info_parts (P := Tryd.prog) (e := 34) (z := .agg #[.int .i64 0, .bool false, .int .u64 0, .string ⟨#[]⟩, .int .i64 0]) (size := 5) (bytes := 48) (by kernel_rfl)
  have Hi := Lib.hid (And.intro hi (And.intro hz0 (And.intro hz1 hz2)))
  obtain ⟨oa, oc, rfl⟩ := hD.sl.len
  have hxl := num_lt l k
  have hmod : ((num l k : Nat) : Int).tmod 8 = 5 := by rw [Int.tmod_eq_emod_of_nonneg (by omega)]; omega
  have hmod' : ((num l k : Nat) : Int) % 8 = 5 := by omega
  have hx8 : num l k / 8 < 8192 := by omega
  generalize num l k / 8 = x8 at hsh hqm hqm' hqe hx8
  generalize num l k = x at HX hxl hmod hmod' hx hsh
  obtain ⟨n, hn⟩ : ∃ n, n = es.length := ⟨_, rfl⟩
  have HS := Lib.hid hD.sl
  rw [← hn] at hes1 HS
  have HD2 : Hid (DocAt l B nb db ib ab lb ob depth v k es (.slice oa n oc) ho w) := by rw [hn]; exact HD
  have hdlt : (d : Int) < (depth : Int) := by omega
  have hd10 : d ≤ 9 := by omega
  have HDD := Lib.hid hdd
  have H10 := Lib.hid h10
  have HN := Lib.hid hn
  rw [← hn]
  clear hit hdd h10 hD hi hz0 hz1 hz2 hn hqe hk hes h3 hp3 HD hx ih
  go_enter Tryd.func32, Tryd.ntmps32
  go_wp2_with (fail)
  refine HX.out.mono ?_
  rintro e W1 ⟨rfl, t1⟩
  have T1 := Lib.hid (t1.frame HD2.out.has)
  have c2 := T1.out.has.cell ob _ _ (List.mem_append_right _ (List.mem_append_right _ (List.mem_cons_self ..))) 0 _ rfl
  have c3 := T1.out.has.cell db _ _ (List.mem_append_right _ (List.mem_append_left _ (List.mem_cons_of_mem _ (List.mem_cons_self ..)))) 0 _ rfl
  clear t1
  have TA := Lib.hid (docAlloc T1.out (Evt.mk 5 false 0 ⟨#[]⟩ (q : Int)))
  go_wp2_with (at_builtin; go_loud (refine Own.wpList_append_onek rfl _ _ 22 rfl 34 i0 (.agg #[.int .i64 0, .bool false, .int .u64 0, .string ⟨#[]⟩, .int .i64 0]) 5 48 Tryd.underlying22 Hi.out.1 Hi.out.2.1 Hi.out.2.2.1 Hi.out.2.2.2 rfl (.slice oa n oc) n (es.flatMap Evt.cells) ho _ rfl HS.out W1.heap.size (Evt.mk 5 false 0 ⟨#[]⟩ (q : Int)).cells TA.out.has rfl rfl ?hy ?c1 ?c2 ?_))
  case hy => intro u hu; simp only [Evt.cells, List.mem_cons, List.not_mem_nil, or_false] at hu; rcases hu with rfl | rfl | rfl | rfl | rfl <;> rfl
  case c1 => simp only [maxLen]; omega
  case c2 => omega
  intro ad' c' h' W2 hs' ht'
  have T2 := Lib.hid (TA.out.trans ht')
  obtain ⟨q0, q1⟩ := docCell T2.out.has
  have TB := Lib.hid (docBack T2.out (.slice ad' (n + 1) c'))
  have S' := Lib.hid hs'
  clear hs' ht'
  have hstart := Lib.hid (show ItemsAt l B f q (k + 1) (es ++ [Evt.mk 5 false 0 ⟨#[]⟩ (q : Int)]) (docHeap nb db ib ab lb ob depth v k (.slice oa n oc) ho) w nb db ib ab lb ob depth v 0 (k + 1) (es ++ [Evt.mk 5 false 0 ⟨#[]⟩ (q : Int)]) (.slice ad' (n + 1) c') h' (W2.setCell ⟨ob, 0, none⟩ (.slice ad' (n + 1) c')) by
    have hs2 : Own.Slk 5 34 (es ++ [Evt.mk 5 false 0 ⟨#[]⟩ (q : Int)]).length ((es ++ [Evt.mk 5 false 0 ⟨#[]⟩ (q : Int)]).flatMap Evt.cells) (.slice ad' (n + 1) c') h' := by
      rw [List.length_append, List.flatMap_append, ← HN.out, List.flatMap_singleton]
      exact S'.out
    refine ⟨Nat.zero_le _, HD2.out.turn TB.out hs2, TB.out, rfl, rfl, ?_, ?_⟩
    · rw [List.length_append, List.length_singleton, Nat.sub_zero]; exact hroom.out
    · rw [Nat.sub_zero]; exact hrest.out)
  go_wp2_with (fail)
  clear q0 q1
  go_loopw [8] (fun i wr => ∃ (j k' : Nat) (es' : List Evt) (ov' : Value) (ho' : Own.Heap), i = .int .i64 j ∧ ItemsAt l B f q (k + 1) (es ++ [Evt.mk 5 false 0 ⟨#[]⟩ (q : Int)]) (docHeap nb db ib ab lb ob depth v k (.slice oa n oc) ho) w nb db ib ab lb ob depth v j k' es' ov' ho' wr) (fun i _ => q - (intOf i).toNat)
  case atStart => exact ⟨0, k + 1, _, _, _, rfl, hstart.out⟩
  case round =>
    obtain ⟨j, k', es', ov', ho', rfl, hat⟩ := hrel
    have hj := hat.le
    have c4 := hat.at_.has.cell ib _ _ (List.mem_append_right _ (List.mem_append_left _ (List.mem_cons_of_mem _ (List.mem_cons_of_mem _ (List.mem_cons_self ..))))) 0 _ rfl
    have c5 := hat.at_.has.cell ob _ _ (List.mem_append_right _ (List.mem_append_right _ (List.mem_cons_self ..))) 0 _ rfl
    have HA := Lib.hid hat
    by_cases hjq : j < q
    · have hlt : (j : Int) < (q : Int) := by omega
      have hc := hat.call hjq
      have HC := Lib.hid (IH.out nb db ib ab lb ob ((d : Int) + 1) (d + 1) depth v k' es' ov' ho' wr (by omega) (by have := HDD.out; omega) H10.out hat.at_ hc.1 hc.2)
      clear hat hc
      go_wp2_with (fail)
      refine HC.out.mono ?_
      rintro e W4 ⟨⟨r, rfl⟩, ov2, ho2, s2, t2⟩
      have HNx := Lib.hid (HA.out.next hjq s2 t2)
      clear s2 t2 c4 c5
      go_wp2_with (fail)
      go_roundw
      case rel => exact ⟨j + 1, _, _, ov2, ho2, by go_num, HNx.out⟩
      case measure => simp [intOf]; omega
    · have hjq2 : j = q := by omega
      have hge : (q : Int) ≤ (j : Int) := by omega
      have hroom2 := hat.room
      subst hjq2
      have hdn := hat.done
      obtain ⟨n2, hn2⟩ : ∃ n2, n2 = es'.length := ⟨_, rfl⟩
      have hs2 := hat.at_.sl
      rw [← hn2] at hroom2 hs2
      obtain ⟨oa2, oc2, rfl⟩ := hs2.len
      have HS2 := Lib.hid hs2
      have HN2 := Lib.hid hn2
      have hn2l : n2 ≤ 500000 := by omega
      have hfin := Lib.hid (show es ++ (item l (f + 1) k).1 = es' ++ [Evt.mk 7 false 0 ⟨#[]⟩ 0] by
        rw [HIT.out, hdn.1]; simp [ends])
      have hfk := Lib.hid (show (item l (f + 1) k).2 = k' by rw [HIT.out, hdn.2])
      have TA2 := Lib.hid (docAlloc hat.turn (Evt.mk 7 false 0 ⟨#[]⟩ 0))
      clear hat hdn hs2 hn2 hroom2
      go_wp2_with (at_builtin; go_loud (refine Own.wpList_append_onek rfl _ _ 22 rfl 34 i0 (.agg #[.int .i64 0, .bool false, .int .u64 0, .string ⟨#[]⟩, .int .i64 0]) 5 48 Tryd.underlying22 Hi.out.1 Hi.out.2.1 Hi.out.2.2.1 Hi.out.2.2.2 rfl (.slice oa2 n2 oc2) n2 (es'.flatMap Evt.cells) ho' _ rfl HS2.out wr.heap.size (Evt.mk 7 false 0 ⟨#[]⟩ 0).cells TA2.out.has rfl rfl ?hy ?c1 ?c2 ?_))
      case hy => intro u hu; simp only [Evt.cells, List.mem_cons, List.not_mem_nil, or_false] at hu; rcases hu with rfl | rfl | rfl | rfl | rfl <;> rfl
      case c1 => simp only [maxLen]; omega
      case c2 => omega
      intro ad3 c3' h3 W5 hs3 ht3
      have T3 := Lib.hid (TA2.out.trans ht3)
      obtain ⟨q0, q1⟩ := docCell T3.out.has
      have TB3 := Lib.hid (docBack T3.out (.slice ad3 (n2 + 1) c3'))
      have S3 := Lib.hid hs3
      clear hs3 ht3
      go_wp2_with (fail)
      go_end0
      rw [hfin.out, hfk.out]
      refine ⟨⟨_, rfl⟩, .slice ad3 (n2 + 1) c3', h3, ?_, TB3.out⟩
      rw [List.length_append, List.flatMap_append, ← HN2.out, List.flatMap_singleton]
      exact S3.out
end Json
end Go.Proofs.YtopaadmnlghdaaaDoor
