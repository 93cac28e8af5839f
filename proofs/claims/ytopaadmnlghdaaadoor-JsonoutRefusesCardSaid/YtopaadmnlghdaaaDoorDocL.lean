/- truchmanbook.Doc's 'item': a map. -/
import Derived.Test.YtopaadmnlghdaaaDoorDocI
namespace Go.Proofs.YtopaadmnlghdaaaDoor
open Go.RowKit
namespace Json

theorem pairs_left (l : List Int) (f m a : Nat) (k' E : Nat) (hE : E + (m + 1) * (4 * 3 ^ f - 1) + 2 ≤ 500000) (hk : k' + (m + 1) * (4 * 3 ^ f - 1) + 2 ≤ 500000) :
    k' + 1 + 4 * 3 ^ f ≤ 500000 ∧ E + 1 + 4 * 3 ^ f ≤ 500000 ∧ E + 1 + (item l f a).1.length + m * (4 * 3 ^ f - 1) + 2 ≤ 500000 ∧ ((item l f (k' + 1)).2 + m * (4 * 3 ^ f - 1) + 2 ≤ 500000) := by
  have h1 := item_len l f a
  have h2 := item_len l f (k' + 1)
  have hp : 0 < 3 ^ f := Nat.pow_pos (by omega)
  rw [Nat.succ_mul] at hE hk
  generalize m * (4 * 3 ^ f - 1) = M at hE hk ⊢
  omega

/-- What a run through a map's keys and values keeps. -/
structure PairsAt (l : List Int) (B : Nat) (f q : Nat) (a : Nat) (pre : List Evt) (H0 : Own.Heap) (w0 : World) (nb db ib ab lb ob : Nat) (depth : Nat) (v : Value) (j : Nat) (k' : Nat) (es' : List Evt) (ov' : Value) (ho' : Own.Heap) (w : World) : Prop where
  le : j ≤ q
  at_ : DocAt l B nb db ib ab lb ob depth v k' es' ov' ho' w
  turn : Own.Turn H0 (docHeap nb db ib ab lb ob depth v k' ov' ho') w0 w
  parts : pre ++ (pairs l (item l f) q a).1 = es' ++ (pairs l (item l f) (q - j) k').1
  pos : (pairs l (item l f) q a).2 = (pairs l (item l f) (q - j) k').2
  room : es'.length + (q - j) * (4 * 3 ^ f - 1) + 2 ≤ 500000
  rest : k' + (q - j) * (4 * 3 ^ f - 1) + 2 ≤ 500000

section
variable {l : List Int} {B f q a : Nat} {pre : List Evt} {H0 : Own.Heap} {w0 : World} {nb db ib ab lb ob : Nat} {depth : Nat} {v : Value} {j k' : Nat} {es' : List Evt} {ov' : Value} {ho' : Own.Heap} {w : World}

theorem PairsAt.next (h : PairsAt l B f q a pre H0 w0 nb db ib ab lb ob depth v j k' es' ov' ho' w) (hj : j < q) {ov2 : Value} {ho2 : Own.Heap} {w2 : World}
    (s : Own.Slk 5 34 ((es' ++ [key l k']) ++ (item l f (k' + 1)).1).length (((es' ++ [key l k']) ++ (item l f (k' + 1)).1).flatMap Evt.cells) ov2 ho2)
    (t : Own.Turn (docHeap nb db ib ab lb ob depth v k' ov' ho') (docHeap nb db ib ab lb ob depth v (item l f (k' + 1)).2 ov2 ho2) w w2) :
    PairsAt l B f q a pre H0 w0 nb db ib ab lb ob depth v (j + 1) (item l f (k' + 1)).2 ((es' ++ [key l k']) ++ (item l f (k' + 1)).1) ov2 ho2 w2 := by
  obtain ⟨m, hm⟩ : ∃ m, q - j = m + 1 := ⟨q - j - 1, by omega⟩
  have hm2 : q - (j + 1) = m := by omega
  have hp := h.parts
  have hq := h.pos
  have hr := h.room
  have hs := h.rest
  rw [hm] at hp hq hr hs
  have hl := pairs_left l f m (k' + 1) k' es'.length hr hs
  refine ⟨by omega, h.at_.turn t s, h.turn.trans t, ?_, ?_, ?_, ?_⟩
  · rw [hm2, hp]; simp only [pairs, List.append_assoc, List.nil_append, List.cons_append]
  · rw [hm2, hq]; rfl
  · rw [hm2, List.length_append, List.length_append, List.length_singleton]; exact hl.2.2.1
  · rw [hm2]; exact hl.2.2.2

theorem PairsAt.call (h : PairsAt l B f q a pre H0 w0 nb db ib ab lb ob depth v j k' es' ov' ho' w) (hj : j < q) : k' + 1 + 4 * 3 ^ f ≤ 500000 ∧ es'.length + 1 + 4 * 3 ^ f ≤ 500000 := by
  obtain ⟨m, hm⟩ : ∃ m, q - j = m + 1 := ⟨q - j - 1, by omega⟩
  have hr := h.room
  have hs := h.rest
  rw [hm] at hr hs
  have hl := pairs_left l f m k' k' es'.length hr hs
  exact ⟨hl.1, hl.2.1⟩

theorem PairsAt.done (h : PairsAt l B f q a pre H0 w0 nb db ib ab lb ob depth v q k' es' ov' ho' w) : es' = pre ++ (pairs l (item l f) q a).1 ∧ k' = (pairs l (item l f) q a).2 := by
  have hp := h.parts
  have hq := h.pos
  rw [Nat.sub_self] at hp hq
  simp only [pairs, List.append_nil] at hp hq
  exact ⟨hp.symm, hq.symm⟩
end

set_option maxRecDepth 100000 in
set_option maxHeartbeats 8000000 in
theorem item_map6 (l : List Int) (B f : Nat) (ih : ItemDoes l B f) (nb db ib ab lb ob : Nat) (d depth : Nat) (v : Value) (k : Nat) (es : List Evt) (ov : Value) (ho : Own.Heap) (w : World) (hdd : depth = d + (f + 1)) (h10 : depth ≤ 10)
    (hD : DocAt l B nb db ib ab lb ob depth v k es ov ho w) (hk : k + 4 * 3 ^ (f + 1) ≤ 500000) (hes : es.length + 4 * 3 ^ (f + 1) ≤ 500000) (hx : num l k % 8 = 6) :
    Calls Tryd.prog 32 #[.int .i64 (d : Int), .pointer (some ⟨nb, 0, none⟩), .pointer (some ⟨ob, 0, none⟩), .pointer (some ⟨db, 0, none⟩), .pointer (some ⟨ib, 0, none⟩)] w fun e w' => (∃ r, e = .returned r) ∧
      ∃ ov' ho', Own.Slk 5 34 (es ++ (item l (f + 1) k).1).length ((es ++ (item l (f + 1) k).1).flatMap Evt.cells) ov' ho' ∧
        Own.Turn (docHeap nb db ib ab lb ob depth v k ov ho) (docHeap nb db ib ab lb ob depth v (item l (f + 1) k).2 ov' ho') w w' := by
  have hit : item l (f + 1) k = (⟨6, false, 0, ⟨#[]⟩, ((num l k / 8 % 3 : Nat) : Int)⟩ :: ((pairs l (item l f) (num l k / 8 % 3) (k + 1)).1 ++ [ends]), (pairs l (item l f) (num l k / 8 % 3) (k + 1)).2) := by
    rw [item]; try dsimp only
    rw [if_neg (by omega), if_neg (by omega), if_neg (by omega), if_neg (by omega), if_neg (by omega)]
  have hp3 : 0 < 3 ^ f := Nat.pow_pos (by omega)
  have h3 : 3 ^ (f + 1) = 3 * 3 ^ f := by rw [Nat.pow_succ, Nat.mul_comm]
  rw [h3] at hk hes
  obtain ⟨q, hqe⟩ : ∃ q, q = num l k / 8 % 3 := ⟨_, rfl⟩
  rw [← hqe] at hit
  have HIT := Lib.hid hit
  have hq4 : q ≤ 2 := by omega
  have hroom := Lib.hid (show es.length + 1 + q * (4 * 3 ^ f - 1) + 2 ≤ 500000 by
    have := Nat.mul_le_mul_right (4 * 3 ^ f - 1) hq4
    omega)
  have hrest := Lib.hid (show k + 1 + q * (4 * 3 ^ f - 1) + 2 ≤ 500000 by
    have := Nat.mul_le_mul_right (4 * 3 ^ f - 1) hq4
    omega)
  have hk1 : k ≤ 499990 := by omega
  have hes1 : es.length ≤ 499990 := by omega
  have hsh : ((num l k : Nat) : Int) / 8 = ((num l k / 8 : Nat) : Int) := by omega
  have hqm : ((num l k / 8 : Nat) : Int).tmod 3 = (q : Int) := by rw [Int.tmod_eq_emod_of_nonneg (by omega)]; omega
  have hqm' : ((num l k / 8 : Nat) : Int) % 3 = (q : Int) := by omega
  have HX := Lib.hid (next_any l hD.has.left hD.nums hD.ab_le (by omega))
  have c0 := hD.has.cell nb _ _ (List.mem_append_right _ (List.mem_append_left _ (List.mem_cons_self ..))) 0 _ rfl
  have HD := Lib.hid hD
  have IH := Lib.hid ih
  obtain ⟨i0, hi, hz0, hz1, hz2⟩ := info_parts (P := Tryd.prog) (e := 34) (z := .agg #[.int .i64 0, .bool false, .int .u64 0, .string ⟨#[]⟩, .int .i64 0]) (size := 5) (bytes := 48) (by kernel_rfl)
  have Hi := Lib.hid (And.intro hi (And.intro hz0 (And.intro hz1 hz2)))
  obtain ⟨oa, oc, rfl⟩ := hD.sl.len
  have hxl := num_lt l k
  have hmod : ((num l k : Nat) : Int).tmod 8 = 6 := by rw [Int.tmod_eq_emod_of_nonneg (by omega)]; omega
  have hmod' : ((num l k : Nat) : Int) % 8 = 6 := by omega
  have hx8 : num l k / 8 < 8192 := by omega
  generalize num l k / 8 = x8 at hsh hqm hqm' hqe hx8
  generalize num l k = x at HX hxl hmod hmod' hx hsh
  obtain ⟨n, hn⟩ : ∃ n, n = es.length := ⟨_, rfl⟩
  have HS := Lib.hid hD.sl
  rw [← hn] at hes1 HS
  have HD2 : Hid (DocAt l B nb db ib ab lb ob depth v k es (.slice oa n oc) ho w) := by rw [hn]; exact HD
  have hdlt : (d : Int) < (depth : Int) := by omega
  have hd10 : d ≤ 9 := by omega
  have HDD := Lib.hid hdd
  have H10 := Lib.hid h10
  have HN := Lib.hid hn
  rw [← hn]
  clear hit hdd h10 hD hi hz0 hz1 hz2 hn hqe hk hes h3 hp3 HD hx ih
  go_enter Tryd.func32, Tryd.ntmps32
  go_wp2_with (fail)
  refine HX.out.mono ?_
  rintro e W1 ⟨rfl, t1⟩
  have T1 := Lib.hid (t1.frame HD2.out.has)
  have c2 := T1.out.has.cell ob _ _ (List.mem_append_right _ (List.mem_append_right _ (List.mem_cons_self ..))) 0 _ rfl
  have c3 := T1.out.has.cell db _ _ (List.mem_append_right _ (List.mem_append_left _ (List.mem_cons_of_mem _ (List.mem_cons_self ..)))) 0 _ rfl
  clear t1
  have TA := Lib.hid (docAlloc T1.out (Evt.mk 6 false 0 ⟨#[]⟩ (q : Int)))
  go_wp2_with (at_builtin; go_loud (refine Own.wpList_append_onek rfl _ _ 22 rfl 34 i0 (.agg #[.int .i64 0, .bool false, .int .u64 0, .string ⟨#[]⟩, .int .i64 0]) 5 48 Tryd.underlying22 Hi.out.1 Hi.out.2.1 Hi.out.2.2.1 Hi.out.2.2.2 rfl (.slice oa n oc) n (es.flatMap Evt.cells) ho _ rfl HS.out W1.heap.size (Evt.mk 6 false 0 ⟨#[]⟩ (q : Int)).cells TA.out.has rfl rfl ?hy ?c1 ?c2 ?_))
  case hy => intro u hu; simp only [Evt.cells, List.mem_cons, List.not_mem_nil, or_false] at hu; rcases hu with rfl | rfl | rfl | rfl | rfl <;> rfl
  case c1 => simp only [maxLen]; omega
  case c2 => omega
  intro ad' c' h' W2 hs' ht'
  have T2 := Lib.hid (TA.out.trans ht')
  obtain ⟨q0, q1⟩ := docCell T2.out.has
  have TB := Lib.hid (docBack T2.out (.slice ad' (n + 1) c'))
  have S' := Lib.hid hs'
  clear hs' ht'
  have hstart := Lib.hid (show PairsAt l B f q (k + 1) (es ++ [Evt.mk 6 false 0 ⟨#[]⟩ (q : Int)]) (docHeap nb db ib ab lb ob depth v k (.slice oa n oc) ho) w nb db ib ab lb ob depth v 0 (k + 1) (es ++ [Evt.mk 6 false 0 ⟨#[]⟩ (q : Int)]) (.slice ad' (n + 1) c') h' (W2.setCell ⟨ob, 0, none⟩ (.slice ad' (n + 1) c')) by
    have hs2 : Own.Slk 5 34 (es ++ [Evt.mk 6 false 0 ⟨#[]⟩ (q : Int)]).length ((es ++ [Evt.mk 6 false 0 ⟨#[]⟩ (q : Int)]).flatMap Evt.cells) (.slice ad' (n + 1) c') h' := by
      rw [List.length_append, List.flatMap_append, ← HN.out, List.flatMap_singleton]
      exact S'.out
    refine ⟨Nat.zero_le _, HD2.out.turn TB.out hs2, TB.out, rfl, rfl, ?_, ?_⟩
    · rw [List.length_append, List.length_singleton, Nat.sub_zero]; exact hroom.out
    · rw [Nat.sub_zero]; exact hrest.out)
  go_wp2_with (fail)
  clear q0 q1
  go_loopw [10] (fun i wr => ∃ (j k' : Nat) (es' : List Evt) (ov' : Value) (ho' : Own.Heap), i = .int .i64 j ∧ PairsAt l B f q (k + 1) (es ++ [Evt.mk 6 false 0 ⟨#[]⟩ (q : Int)]) (docHeap nb db ib ab lb ob depth v k (.slice oa n oc) ho) w nb db ib ab lb ob depth v j k' es' ov' ho' wr) (fun i _ => q - (intOf i).toNat)
  case atStart => exact ⟨0, k + 1, _, _, _, rfl, hstart.out⟩
  case round =>
    obtain ⟨j, k', es', ov', ho', rfl, hat⟩ := hrel
    have hj := hat.le
    have c5 := hat.at_.has.cell ob _ _ (List.mem_append_right _ (List.mem_append_right _ (List.mem_cons_self ..))) 0 _ rfl
    have HA := Lib.hid hat
    obtain ⟨n2, hn2⟩ : ∃ n2, n2 = es'.length := ⟨_, rfl⟩
    have hs2 := hat.at_.sl
    rw [← hn2] at hs2
    obtain ⟨oa2, oc2, rfl⟩ := hs2.len
    have HS2 := Lib.hid hs2
    have HN2 := Lib.hid hn2
    by_cases hjq : j < q
    · have hlt : (j : Int) < (q : Int) := by omega
      have hc := hat.call hjq
      rw [← hn2] at hc
      have hn2l : n2 ≤ 499999 := by omega
      have hk2l : k' ≤ 499999 := by omega
      have HC := Lib.hid hc
      have TD := Lib.hid (Own.Turn.refl hat.at_.has).drew
      have hd := hat.at_.turn TD.out hat.at_.sl
      have HX2 := Lib.hid (next_any l hd.has.left hd.nums hd.ab_le (by omega))
      have c9 := hat.at_.has.cell nb _ _ (List.mem_append_right _ (List.mem_append_left _ (List.mem_cons_self ..))) 0 _ rfl
      obtain ⟨x2, hx2⟩ : ∃ x2, x2 = num l k' := ⟨_, rfl⟩
      rw [← hx2] at HX2
      have hx2l : x2 < 65536 := hx2 ▸ num_lt l k'
      have HT := Lib.hid (fun u => textOf_any x2 hx2l u)
      obtain ⟨S, hS⟩ : ∃ S : ByteArray, S = ⟨(textOf x2).toArray⟩ := ⟨_, rfl⟩
      rw [← hS] at HT
      have hkey := Lib.hid (show key l k' = ⟨3, false, 0, S, 0⟩ by rw [hS, hx2]; rfl)
      clear hat hc hd hx2 hS hs2 hn2
      go_wp2_with (fail)
      go_region_law (first
        | (refine Own.step_append_onek rfl _ _ 22 rfl 34 i0 (.agg #[.int .i64 0, .bool false, .int .u64 0, .string ⟨#[]⟩, .int .i64 0]) 5 48 Tryd.underlying22 Hi.out.1 Hi.out.2.1 Hi.out.2.2.1 Hi.out.2.2.2 rfl (.slice oa2 n2 oc2) n2 (es'.flatMap Evt.cells) ho' _ rfl HS2.out W5.heap.size _ TA5.out.has rfl rfl ?hy ?c1 ?c2 ?_; (case hy => (intro u hu; simp only [Evt.cells, List.mem_cons, List.not_mem_nil, or_false] at hu; rcases hu with rfl | rfl | rfl | rfl | rfl <;> rfl)); (case c1 => (simp only [maxLen]; omega)); (case c2 => omega); intro ad3 c3' h3 W6 hs3 ht3; have T6 := Lib.hid (TA5.out.trans ht3); obtain ⟨q0, q1⟩ := docCell T6.out.has; have TB6 := Lib.hid (docBack T6.out (.slice ad3 (n2 + 1) c3')); have S6 := Lib.hid hs3; clear hs3 ht3)
        | (go_simp; go_at_call 33; refine (HT.out _).mono ?_; rintro e W5 ⟨rfl, b5⟩; have T5 := Lib.hid (T4.out.trans (Own.Turn.of_below T4.out.has b5)); have TA5 := Lib.hid (docAlloc T5.out (Evt.mk 3 false 0 S 0)); have c7 := T5.out.has.cell ob _ _ (List.mem_append_right _ (List.mem_append_right _ (List.mem_cons_self ..))) 0 _ rfl; have c7a := fun o => (T5.out.litter o).has.cell ob _ _ (List.mem_append_right _ (List.mem_append_right _ (List.mem_cons_self ..))) 0 _ rfl; clear b5)
        | (go_simp; go_at_call 31; refine HX2.out.mono ?_; rintro e W4 ⟨rfl, t4⟩; have T4 := Lib.hid (TD.out.trans (t4.frame TD.out.has)); have c6 := T4.out.has.cell ob _ _ (List.mem_append_right _ (List.mem_append_right _ (List.mem_cons_self ..))) 0 _ rfl; clear t4))
      all_goals
        have hsk := Lib.hid (show Own.Slk 5 34 (es' ++ [key l k']).length ((es' ++ [key l k']).flatMap Evt.cells) (.slice ad3 (n2 + 1) c3') h3 by
          rw [List.length_append, List.flatMap_append, ← HN2.out, List.flatMap_singleton, hkey.out]
          exact S6.out)
        have hl3 := Lib.hid (show (es' ++ [key l k']).length + 4 * 3 ^ f ≤ 500000 by
          rw [List.length_append, List.length_singleton, ← HN2.out]; exact HC.out.2)
        have HI := Lib.hid (IH.out nb db ib ab lb ob ((d : Int) + 1) (d + 1) depth v (k' + 1) (es' ++ [key l k']) (.slice ad3 (n2 + 1) c3') h3 (W6.setCell ⟨ob, 0, none⟩ (.slice ad3 (n2 + 1) c3')) (by omega) (by have := HDD.out; omega) H10.out (HA.out.at_.turn TB6.out hsk.out) HC.out.1 hl3.out)
        have c8 := TB6.out.has.cell ib _ _ (List.mem_append_right _ (List.mem_append_left _ (List.mem_cons_of_mem _ (List.mem_cons_of_mem _ (List.mem_cons_self ..))))) 0 _ rfl
        go_wp2_with (fail)
        refine HI.out.mono ?_
        rintro e W7 ⟨⟨r, rfl⟩, ov7, ho7, s7, t7⟩
        have HNx := Lib.hid (HA.out.next hjq s7 (TB6.out.trans t7))
        clear s7 t7 c8 c5
        go_wp2_with (fail)
        go_roundw
        case rel => exact ⟨j + 1, _, _, ov7, ho7, by go_num, HNx.out⟩
        case measure => simp [intOf]; omega
    · have hjq2 : j = q := by omega
      have hge : (q : Int) ≤ (j : Int) := by omega
      have hroom2 := hat.room
      subst hjq2
      have hdn := hat.done
      rw [← hn2] at hroom2
      have hn2l : n2 ≤ 500000 := by omega
      have hfin := Lib.hid (show es ++ (item l (f + 1) k).1 = es' ++ [Evt.mk 7 false 0 ⟨#[]⟩ 0] by
        rw [HIT.out, hdn.1]; simp [ends])
      have hfk := Lib.hid (show (item l (f + 1) k).2 = k' by rw [HIT.out, hdn.2])
      have TA2 := Lib.hid (docAlloc hat.turn (Evt.mk 7 false 0 ⟨#[]⟩ 0))
      clear hat hdn hs2 hn2 hroom2
      go_wp2_with (at_builtin; go_loud (refine Own.wpList_append_onek rfl _ _ 22 rfl 34 i0 (.agg #[.int .i64 0, .bool false, .int .u64 0, .string ⟨#[]⟩, .int .i64 0]) 5 48 Tryd.underlying22 Hi.out.1 Hi.out.2.1 Hi.out.2.2.1 Hi.out.2.2.2 rfl (.slice oa2 n2 oc2) n2 (es'.flatMap Evt.cells) ho' _ rfl HS2.out wr.heap.size (Evt.mk 7 false 0 ⟨#[]⟩ 0).cells TA2.out.has rfl rfl ?hy ?c1 ?c2 ?_))
      case hy => intro u hu; simp only [Evt.cells, List.mem_cons, List.not_mem_nil, or_false] at hu; rcases hu with rfl | rfl | rfl | rfl | rfl <;> rfl
      case c1 => simp only [maxLen]; omega
      case c2 => omega
      intro ad3 c3' h3 W5 hs3 ht3
      have T3 := Lib.hid (TA2.out.trans ht3)
      obtain ⟨q0, q1⟩ := docCell T3.out.has
      have TB3 := Lib.hid (docBack T3.out (.slice ad3 (n2 + 1) c3'))
      have S3 := Lib.hid hs3
      clear hs3 ht3
      go_wp2_with (fail)
      go_end0
      rw [hfin.out, hfk.out]
      refine ⟨⟨_, rfl⟩, .slice ad3 (n2 + 1) c3', h3, ?_, TB3.out⟩
      rw [List.length_append, List.flatMap_append, ← HN2.out, List.flatMap_singleton]
      exact S3.out

set_option maxRecDepth 100000 in
set_option maxHeartbeats 8000000 in
theorem item_map7 (l : List Int) (B f : Nat) (ih : ItemDoes l B f) (nb db ib ab lb ob : Nat) (d depth : Nat) (v : Value) (k : Nat) (es : List Evt) (ov : Value) (ho : Own.Heap) (w : World) (hdd : depth = d + (f + 1)) (h10 : depth ≤ 10)
    (hD : DocAt l B nb db ib ab lb ob depth v k es ov ho w) (hk : k + 4 * 3 ^ (f + 1) ≤ 500000) (hes : es.length + 4 * 3 ^ (f + 1) ≤ 500000) (hx : num l k % 8 = 7) :
    Calls Tryd.prog 32 #[.int .i64 (d : Int), .pointer (some ⟨nb, 0, none⟩), .pointer (some ⟨ob, 0, none⟩), .pointer (some ⟨db, 0, none⟩), .pointer (some ⟨ib, 0, none⟩)] w fun e w' => (∃ r, e = .returned r) ∧
      ∃ ov' ho', Own.Slk 5 34 (es ++ (item l (f + 1) k).1).length ((es ++ (item l (f + 1) k).1).flatMap Evt.cells) ov' ho' ∧
        Own.Turn (docHeap nb db ib ab lb ob depth v k ov ho) (docHeap nb db ib ab lb ob depth v (item l (f + 1) k).2 ov' ho') w w' := by
  have hit : item l (f + 1) k = (⟨6, false, 0, ⟨#[]⟩, ((num l k / 8 % 3 : Nat) : Int)⟩ :: ((pairs l (item l f) (num l k / 8 % 3) (k + 1)).1 ++ [ends]), (pairs l (item l f) (num l k / 8 % 3) (k + 1)).2) := by
    rw [item]; try dsimp only
    rw [if_neg (by omega), if_neg (by omega), if_neg (by omega), if_neg (by omega), if_neg (by omega)]
  have hp3 : 0 < 3 ^ f := Nat.pow_pos (by omega)
  have h3 : 3 ^ (f + 1) = 3 * 3 ^ f := by rw [Nat.pow_succ, Nat.mul_comm]
  rw [h3] at hk hes
  obtain ⟨q, hqe⟩ : ∃ q, q = num l k / 8 % 3 := ⟨_, rfl⟩
  rw [← hqe] at hit
  have HIT := Lib.hid hit
  have hq4 : q ≤ 2 := by omega
  have hroom := Lib.hid (show es.length + 1 + q * (4 * 3 ^ f - 1) + 2 ≤ 500000 by
    have := Nat.mul_le_mul_right (4 * 3 ^ f - 1) hq4
    omega)
  have hrest := Lib.hid (show k + 1 + q * (4 * 3 ^ f - 1) + 2 ≤ 500000 by
    have := Nat.mul_le_mul_right (4 * 3 ^ f - 1) hq4
    omega)
  have hk1 : k ≤ 499990 := by omega
  have hes1 : es.length ≤ 499990 := by omega
  have hsh : ((num l k : Nat) : Int) / 8 = ((num l k / 8 : Nat) : Int) := by omega
  have hqm : ((num l k / 8 : Nat) : Int).tmod 3 = (q : Int) := by rw [Int.tmod_eq_emod_of_nonneg (by omega)]; omega
  have hqm' : ((num l k / 8 : Nat) : Int) % 3 = (q : Int) := by omega
  have HX := Lib.hid (next_any l hD.has.left hD.nums hD.ab_le (by omega))
  have c0 := hD.has.cell nb _ _ (List.mem_append_right _ (List.mem_append_left _ (List.mem_cons_self ..))) 0 _ rfl
  have HD := Lib.hid hD
  have IH := Lib.hid ih
  obtain ⟨i0, hi, hz0, hz1, hz2⟩ := info_parts (P := Tryd.prog) (e := 34) (z := .agg #[.int .i64 0, .bool false, .int .u64 0, .string ⟨#[]⟩, .int .i64 0]) (size := 5) (bytes := 48) (by kernel_rfl)
  have Hi := Lib.hid (And.intro hi (And.intro hz0 (And.intro hz1 hz2)))
  obtain ⟨oa, oc, rfl⟩ := hD.sl.len
  have hxl := num_lt l k
  have hmod : ((num l k : Nat) : Int).tmod 8 = 7 := by rw [Int.tmod_eq_emod_of_nonneg (by omega)]; omega
  have hmod' : ((num l k : Nat) : Int) % 8 = 7 := by omega
  have hx8 : num l k / 8 < 8192 := by omega
  generalize num l k / 8 = x8 at hsh hqm hqm' hqe hx8
  generalize num l k = x at HX hxl hmod hmod' hx hsh
  obtain ⟨n, hn⟩ : ∃ n, n = es.length := ⟨_, rfl⟩
  have HS := Lib.hid hD.sl
  rw [← hn] at hes1 HS
  have HD2 : Hid (DocAt l B nb db ib ab lb ob depth v k es (.slice oa n oc) ho w) := by rw [hn]; exact HD
  have hdlt : (d : Int) < (depth : Int) := by omega
  have hd10 : d ≤ 9 := by omega
  have HDD := Lib.hid hdd
  have H10 := Lib.hid h10
  have HN := Lib.hid hn
  rw [← hn]
  clear hit hdd h10 hD hi hz0 hz1 hz2 hn hqe hk hes h3 hp3 HD hx ih
  go_enter Tryd.func32, Tryd.ntmps32
  go_wp2_with (fail)
  refine HX.out.mono ?_
  rintro e W1 ⟨rfl, t1⟩
  have T1 := Lib.hid (t1.frame HD2.out.has)
  have c2 := T1.out.has.cell ob _ _ (List.mem_append_right _ (List.mem_append_right _ (List.mem_cons_self ..))) 0 _ rfl
  have c3 := T1.out.has.cell db _ _ (List.mem_append_right _ (List.mem_append_left _ (List.mem_cons_of_mem _ (List.mem_cons_self ..)))) 0 _ rfl
  clear t1
  have TA := Lib.hid (docAlloc T1.out (Evt.mk 6 false 0 ⟨#[]⟩ (q : Int)))
  go_wp2_with (at_builtin; go_loud (refine Own.wpList_append_onek rfl _ _ 22 rfl 34 i0 (.agg #[.int .i64 0, .bool false, .int .u64 0, .string ⟨#[]⟩, .int .i64 0]) 5 48 Tryd.underlying22 Hi.out.1 Hi.out.2.1 Hi.out.2.2.1 Hi.out.2.2.2 rfl (.slice oa n oc) n (es.flatMap Evt.cells) ho _ rfl HS.out W1.heap.size (Evt.mk 6 false 0 ⟨#[]⟩ (q : Int)).cells TA.out.has rfl rfl ?hy ?c1 ?c2 ?_))
  case hy => intro u hu; simp only [Evt.cells, List.mem_cons, List.not_mem_nil, or_false] at hu; rcases hu with rfl | rfl | rfl | rfl | rfl <;> rfl
  case c1 => simp only [maxLen]; omega
  case c2 => omega
  intro ad' c' h' W2 hs' ht'
  have T2 := Lib.hid (TA.out.trans ht')
  obtain ⟨q0, q1⟩ := docCell T2.out.has
  have TB := Lib.hid (docBack T2.out (.slice ad' (n + 1) c'))
  have S' := Lib.hid hs'
  clear hs' ht'
  have hstart := Lib.hid (show PairsAt l B f q (k + 1) (es ++ [Evt.mk 6 false 0 ⟨#[]⟩ (q : Int)]) (docHeap nb db ib ab lb ob depth v k (.slice oa n oc) ho) w nb db ib ab lb ob depth v 0 (k + 1) (es ++ [Evt.mk 6 false 0 ⟨#[]⟩ (q : Int)]) (.slice ad' (n + 1) c') h' (W2.setCell ⟨ob, 0, none⟩ (.slice ad' (n + 1) c')) by
    have hs2 : Own.Slk 5 34 (es ++ [Evt.mk 6 false 0 ⟨#[]⟩ (q : Int)]).length ((es ++ [Evt.mk 6 false 0 ⟨#[]⟩ (q : Int)]).flatMap Evt.cells) (.slice ad' (n + 1) c') h' := by
      rw [List.length_append, List.flatMap_append, ← HN.out, List.flatMap_singleton]
      exact S'.out
    refine ⟨Nat.zero_le _, HD2.out.turn TB.out hs2, TB.out, rfl, rfl, ?_, ?_⟩
    · rw [List.length_append, List.length_singleton, Nat.sub_zero]; exact hroom.out
    · rw [Nat.sub_zero]; exact hrest.out)
  go_wp2_with (fail)
  clear q0 q1
  go_loopw [10] (fun i wr => ∃ (j k' : Nat) (es' : List Evt) (ov' : Value) (ho' : Own.Heap), i = .int .i64 j ∧ PairsAt l B f q (k + 1) (es ++ [Evt.mk 6 false 0 ⟨#[]⟩ (q : Int)]) (docHeap nb db ib ab lb ob depth v k (.slice oa n oc) ho) w nb db ib ab lb ob depth v j k' es' ov' ho' wr) (fun i _ => q - (intOf i).toNat)
  case atStart => exact ⟨0, k + 1, _, _, _, rfl, hstart.out⟩
  case round =>
    obtain ⟨j, k', es', ov', ho', rfl, hat⟩ := hrel
    have hj := hat.le
    have c5 := hat.at_.has.cell ob _ _ (List.mem_append_right _ (List.mem_append_right _ (List.mem_cons_self ..))) 0 _ rfl
    have HA := Lib.hid hat
    obtain ⟨n2, hn2⟩ : ∃ n2, n2 = es'.length := ⟨_, rfl⟩
    have hs2 := hat.at_.sl
    rw [← hn2] at hs2
    obtain ⟨oa2, oc2, rfl⟩ := hs2.len
    have HS2 := Lib.hid hs2
    have HN2 := Lib.hid hn2
    by_cases hjq : j < q
    · have hlt : (j : Int) < (q : Int) := by omega
      have hc := hat.call hjq
      rw [← hn2] at hc
      have hn2l : n2 ≤ 499999 := by omega
      have hk2l : k' ≤ 499999 := by omega
      have HC := Lib.hid hc
      have TD := Lib.hid (Own.Turn.refl hat.at_.has).drew
      have hd := hat.at_.turn TD.out hat.at_.sl
      have HX2 := Lib.hid (next_any l hd.has.left hd.nums hd.ab_le (by omega))
      have c9 := hat.at_.has.cell nb _ _ (List.mem_append_right _ (List.mem_append_left _ (List.mem_cons_self ..))) 0 _ rfl
      obtain ⟨x2, hx2⟩ : ∃ x2, x2 = num l k' := ⟨_, rfl⟩
      rw [← hx2] at HX2
      have hx2l : x2 < 65536 := hx2 ▸ num_lt l k'
      have HT := Lib.hid (fun u => textOf_any x2 hx2l u)
      obtain ⟨S, hS⟩ : ∃ S : ByteArray, S = ⟨(textOf x2).toArray⟩ := ⟨_, rfl⟩
      rw [← hS] at HT
      have hkey := Lib.hid (show key l k' = ⟨3, false, 0, S, 0⟩ by rw [hS, hx2]; rfl)
      clear hat hc hd hx2 hS hs2 hn2
      go_wp2_with (fail)
      go_region_law (first
        | (refine Own.step_append_onek rfl _ _ 22 rfl 34 i0 (.agg #[.int .i64 0, .bool false, .int .u64 0, .string ⟨#[]⟩, .int .i64 0]) 5 48 Tryd.underlying22 Hi.out.1 Hi.out.2.1 Hi.out.2.2.1 Hi.out.2.2.2 rfl (.slice oa2 n2 oc2) n2 (es'.flatMap Evt.cells) ho' _ rfl HS2.out W5.heap.size _ TA5.out.has rfl rfl ?hy ?c1 ?c2 ?_; (case hy => (intro u hu; simp only [Evt.cells, List.mem_cons, List.not_mem_nil, or_false] at hu; rcases hu with rfl | rfl | rfl | rfl | rfl <;> rfl)); (case c1 => (simp only [maxLen]; omega)); (case c2 => omega); intro ad3 c3' h3 W6 hs3 ht3; have T6 := Lib.hid (TA5.out.trans ht3); obtain ⟨q0, q1⟩ := docCell T6.out.has; have TB6 := Lib.hid (docBack T6.out (.slice ad3 (n2 + 1) c3')); have S6 := Lib.hid hs3; clear hs3 ht3)
        | (go_simp; go_at_call 33; refine (HT.out _).mono ?_; rintro e W5 ⟨rfl, b5⟩; have T5 := Lib.hid (T4.out.trans (Own.Turn.of_below T4.out.has b5)); have TA5 := Lib.hid (docAlloc T5.out (Evt.mk 3 false 0 S 0)); have c7 := T5.out.has.cell ob _ _ (List.mem_append_right _ (List.mem_append_right _ (List.mem_cons_self ..))) 0 _ rfl; have c7a := fun o => (T5.out.litter o).has.cell ob _ _ (List.mem_append_right _ (List.mem_append_right _ (List.mem_cons_self ..))) 0 _ rfl; clear b5)
        | (go_simp; go_at_call 31; refine HX2.out.mono ?_; rintro e W4 ⟨rfl, t4⟩; have T4 := Lib.hid (TD.out.trans (t4.frame TD.out.has)); have c6 := T4.out.has.cell ob _ _ (List.mem_append_right _ (List.mem_append_right _ (List.mem_cons_self ..))) 0 _ rfl; clear t4))
      all_goals
        have hsk := Lib.hid (show Own.Slk 5 34 (es' ++ [key l k']).length ((es' ++ [key l k']).flatMap Evt.cells) (.slice ad3 (n2 + 1) c3') h3 by
          rw [List.length_append, List.flatMap_append, ← HN2.out, List.flatMap_singleton, hkey.out]
          exact S6.out)
        have hl3 := Lib.hid (show (es' ++ [key l k']).length + 4 * 3 ^ f ≤ 500000 by
          rw [List.length_append, List.length_singleton, ← HN2.out]; exact HC.out.2)
        have HI := Lib.hid (IH.out nb db ib ab lb ob ((d : Int) + 1) (d + 1) depth v (k' + 1) (es' ++ [key l k']) (.slice ad3 (n2 + 1) c3') h3 (W6.setCell ⟨ob, 0, none⟩ (.slice ad3 (n2 + 1) c3')) (by omega) (by have := HDD.out; omega) H10.out (HA.out.at_.turn TB6.out hsk.out) HC.out.1 hl3.out)
        have c8 := TB6.out.has.cell ib _ _ (List.mem_append_right _ (List.mem_append_left _ (List.mem_cons_of_mem _ (List.mem_cons_of_mem _ (List.mem_cons_self ..))))) 0 _ rfl
        go_wp2_with (fail)
        refine HI.out.mono ?_
        rintro e W7 ⟨⟨r, rfl⟩, ov7, ho7, s7, t7⟩
        have HNx := Lib.hid (HA.out.next hjq s7 (TB6.out.trans t7))
        clear s7 t7 c8 c5
        go_wp2_with (fail)
        go_roundw
        case rel => exact ⟨j + 1, _, _, ov7, ho7, by go_num, HNx.out⟩
        case measure => simp [intOf]; omega
    · have hjq2 : j = q := by omega
      have hge : (q : Int) ≤ (j : Int) := by omega
      have hroom2 := hat.room
      subst hjq2
      have hdn := hat.done
      rw [← hn2] at hroom2
      have hn2l : n2 ≤ 500000 := by omega
      have hfin := Lib.hid (show es ++ (item l (f + 1) k).1 = es' ++ [Evt.mk 7 false 0 ⟨#[]⟩ 0] by
        rw [HIT.out, hdn.1]; simp [ends])
      have hfk := Lib.hid (show (item l (f + 1) k).2 = k' by rw [HIT.out, hdn.2])
      have TA2 := Lib.hid (docAlloc hat.turn (Evt.mk 7 false 0 ⟨#[]⟩ 0))
      clear hat hdn hs2 hn2 hroom2
      go_wp2_with (at_builtin; go_loud (refine Own.wpList_append_onek rfl _ _ 22 rfl 34 i0 (.agg #[.int .i64 0, .bool false, .int .u64 0, .string ⟨#[]⟩, .int .i64 0]) 5 48 Tryd.underlying22 Hi.out.1 Hi.out.2.1 Hi.out.2.2.1 Hi.out.2.2.2 rfl (.slice oa2 n2 oc2) n2 (es'.flatMap Evt.cells) ho' _ rfl HS2.out wr.heap.size (Evt.mk 7 false 0 ⟨#[]⟩ 0).cells TA2.out.has rfl rfl ?hy ?c1 ?c2 ?_))
      case hy => intro u hu; simp only [Evt.cells, List.mem_cons, List.not_mem_nil, or_false] at hu; rcases hu with rfl | rfl | rfl | rfl | rfl <;> rfl
      case c1 => simp only [maxLen]; omega
      case c2 => omega
      intro ad3 c3' h3 W5 hs3 ht3
      have T3 := Lib.hid (TA2.out.trans ht3)
      obtain ⟨q0, q1⟩ := docCell T3.out.has
      have TB3 := Lib.hid (docBack T3.out (.slice ad3 (n2 + 1) c3'))
      have S3 := Lib.hid hs3
      clear hs3 ht3
      go_wp2_with (fail)
      go_end0
      rw [hfin.out, hfk.out]
      refine ⟨⟨_, rfl⟩, .slice ad3 (n2 + 1) c3', h3, ?_, TB3.out⟩
      rw [List.length_append, List.flatMap_append, ← HN2.out, List.flatMap_singleton]
      exact S3.out

theorem item_map (l : List Int) (B f : Nat) (ih : ItemDoes l B f) (nb db ib ab lb ob : Nat) (d depth : Nat) (v : Value) (k : Nat) (es : List Evt) (ov : Value) (ho : Own.Heap) (w : World) (hdd : depth = d + (f + 1)) (h10 : depth ≤ 10)
    (hD : DocAt l B nb db ib ab lb ob depth v k es ov ho w) (hk : k + 4 * 3 ^ (f + 1) ≤ 500000) (hes : es.length + 4 * 3 ^ (f + 1) ≤ 500000) (hx : num l k % 8 = 6 ∨ num l k % 8 = 7) :
    Calls Tryd.prog 32 #[.int .i64 (d : Int), .pointer (some ⟨nb, 0, none⟩), .pointer (some ⟨ob, 0, none⟩), .pointer (some ⟨db, 0, none⟩), .pointer (some ⟨ib, 0, none⟩)] w fun e w' => (∃ r, e = .returned r) ∧
      ∃ ov' ho', Own.Slk 5 34 (es ++ (item l (f + 1) k).1).length ((es ++ (item l (f + 1) k).1).flatMap Evt.cells) ov' ho' ∧
        Own.Turn (docHeap nb db ib ab lb ob depth v k ov ho) (docHeap nb db ib ab lb ob depth v (item l (f + 1) k).2 ov' ho') w w' := by
  rcases hx with hx | hx
  · exact item_map6 l B f ih nb db ib ab lb ob d depth v k es ov ho w hdd h10 hD hk hes hx
  · exact item_map7 l B f ih nb db ib ab lb ob d depth v k es ov ho w hdd h10 hD hk hes hx
end Json
end Go.Proofs.YtopaadmnlghdaaaDoor
