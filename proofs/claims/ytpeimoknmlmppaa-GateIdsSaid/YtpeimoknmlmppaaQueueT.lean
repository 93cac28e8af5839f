/- The queue's Take: the first bytes, in one string. -/
import Derived.Test.YtpeimoknmlmppaaQueue
import Derived.Test.YtpeimoknmlmppaaBldS
import Derived.Test.YtpeimoknmlmppaaShelf
import Derived.StillTailTactics
namespace Go.Proofs.Ytpeimoknmlmppaa
open Go.RowKit
namespace Queue

/-- A builder whose blocks stand as they stood stands. -/
theorem builder_kept {B b : Nat} {bs : List Value} {w w' : World} (h : Lib.IsBuilderF 97 5 B b bs w) (hk : ∀ k, B ≤ k → k < w.heap.size → w'.heap[k]? = w.heap[k]?) : Lib.IsBuilderF 97 5 B b bs w' := by
  have main : ∀ p, Lib.BuilderAtF 97 5 B b p bs w → Lib.BuilderAtF 97 5 B b p bs w' := by
    rintro p ⟨hB, v, hbk, hown, hne⟩
    refine ⟨hB, v, by rw [hk b hB (Array.getElem?_eq_some_iff.1 hbk).1]; exact hbk, ⟨hown.1, ?_⟩, hne⟩
    rcases hown.2 with hn | ⟨g, cap, cur, fz, rfl, hg1, hg, rest⟩
    · exact .inl hn
    · exact .inr ⟨g, cap, cur, fz, rfl, hg1, by rw [hk g hg1 (Array.getElem?_eq_some_iff.1 hg).1]; exact hg, rest⟩
  rcases h with h | h
  · exact .inl (main _ h)
  · exact .inr (main _ h)

/-- What lies below B stays where nothing below B turns. -/
theorem has_belowB {h : Own.Heap} {B : Nat} {w w' : World} (k : Own.Has w h) (hB : ∀ b ∈ Own.blocks h, b < B) (hb : Below B w w') : Own.Has w' h :=
  ⟨fun p hp => (hb.block p.1 (hB _ (List.mem_map_of_mem hp))).trans (k.here p hp), k.once⟩

theorem turn_belowB {a h : Own.Heap} {u w w' : World} (t : Own.Turn a h u w) (hB : ∀ b ∈ Own.blocks h, b < u.heap.size) (hb : Below u.heap.size w w') : Own.Turn a h u w' :=
  ⟨has_belowB t.has hB hb, ⟨hb.os.trans t.keeps.os, hb.tape.trans t.keeps.tape, hb.output.trans t.keeps.output, Nat.le_trans t.keeps.size hb.size, fun i hi hn => (hb.block i hi).trans (t.keeps.block i hi hn)⟩, t.new⟩

theorem toList_extract_from (x : ByteArray) (k : Nat) : (x.extract k x.size).data.toList = x.data.toList.drop k := by
  rw [ByteArray.data_extract, Array.toList_extract]
  simp
  exact List.take_of_length_le (by rw [List.length_drop, Array.length_toList]; exact Nat.le_refl _)

theorem toList_extract_to (x : ByteArray) (k : Nat) : (x.extract 0 k).data.toList = x.data.toList.take k := by
  rw [ByteArray.data_extract, Array.toList_extract]; simp

/-- What a queue with a first chunk lies like. -/
theorem first {c : List UInt8} {lv : Value} {h : Own.Heap} (q : Is c lv h) (hc : 0 < c.length) : ∃ (x : ByteArray) (tl : List ByteArray) (b : Nat) (pre spare : List Value),
    lv = .slice (some ⟨b, pre.length, none⟩) (tl.length + 1) (tl.length + 1 + spare.length) ∧ h = [Own.row b 9 (pre ++ (.string x :: (tl.map Value.string ++ spare)))] ∧ x.size ≠ 0 ∧ (∀ y ∈ tl, y.size ≠ 0) ∧
    c = x.data.toList ++ (tl.map fun y => y.data.toList).flatten ∧ tl.length + 1 + spare.length ≤ maxLen := by
  obtain ⟨chunks, hs, hcc, hne⟩ := q
  cases chunks with
  | nil => rw [hcc] at hc; simp at hc
  | cons x tl =>
    generalize hxs : (x :: tl).map Value.string = xs at hs
    cases hs with
    | bare a h0 => rw [h0] at hxs; simp at hxs
    | row b pre spare hm =>
      subst hxs
      refine ⟨x, tl, b, pre, spare, by simp, by simp, hne x (List.mem_cons_self ..), fun y hy => hne y (List.mem_cons_of_mem _ hy), by rw [hcc]; simp, by simpa using hm⟩

/-- Part of the first chunk is taken. -/
theorem part {x : ByteArray} {tl : List ByteArray} {b : Nat} {pre spare : List Value} (k : Nat) (hk : k < x.size) (hne : ∀ y ∈ tl, y.size ≠ 0) (hm : tl.length + 1 + spare.length ≤ maxLen) :
    Is ((x.data.toList ++ (tl.map fun y => y.data.toList).flatten).drop k) (.slice (some ⟨b, pre.length, none⟩) (tl.length + 1) (tl.length + 1 + spare.length)) [Own.row b 9 (pre ++ (.string (x.extract k x.size) :: (tl.map Value.string ++ spare)))] := by
  refine ⟨x.extract k x.size :: tl, ?_, ?_, ?_⟩
  · have := Own.Slc.row (e := 9) (xs := (x.extract k x.size :: tl).map Value.string) b pre spare (by simpa using hm)
    simpa using this
  · have q : x.data.toList.length = x.size := Array.length_toList
    rw [List.drop_append_of_le_length (by omega), List.map_cons, List.flatten_cons, toList_extract_from]
  · intro y hy
    rcases List.mem_cons.1 hy with rfl | h1
    · rw [ByteArray.size_extract]; omega
    · exact hne y h1

/-- The first chunk is taken whole; the slice begins behind it. -/
theorem whole_room {x y : ByteArray} {tl : List ByteArray} {b : Nat} {pre spare : List Value} (hne : ∀ y ∈ tl, y.size ≠ 0) (hm : tl.length + 1 + spare.length ≤ maxLen) :
    Is ((x.data.toList ++ (tl.map fun y => y.data.toList).flatten).drop x.size) (.slice (some ⟨b, pre.length + 1, none⟩) tl.length (tl.length + spare.length)) [Own.row b 9 (pre ++ (.string y :: (tl.map Value.string ++ spare)))] := by
  refine ⟨tl, ?_, ?_, hne⟩
  · have := Own.Slc.row (e := 9) (xs := tl.map Value.string) b (pre ++ [.string y]) spare (by rw [List.length_map]; omega)
    simpa using this
  · have q : x.data.toList.length = x.size := Array.length_toList
    rw [← q, List.drop_left]

theorem whole_bare {x : ByteArray} {tl : List ByteArray} {a : Option Addr} (ht : tl = []) :
    Is ((x.data.toList ++ (tl.map fun y => y.data.toList).flatten).drop x.size) (.slice a 0 0) [] := by
  subst ht
  refine ⟨[], Own.Slc.bare _ rfl, ?_, by simp⟩
  have q : x.data.toList.length = x.size := Array.length_toList
  rw [← q, List.drop_left]

section
variable {w : World} {b : Nat} {T : TypeId} {pre post : List Value} {lv : Value} {c : List UInt8} {h : Own.Heap}

theorem turn_cell {a : Own.Heap} {u v : World} {c' : List UInt8} {lv' : Value} {b0 : Nat} {S : TypeId} {pre0 rest : List Value} {x : Value} (t : Own.Turn a [at_ b T pre lv' c' post, Own.row b0 S (pre0 ++ (x :: rest))] u v) (y : Value) :
    Own.Turn a [at_ b T pre lv' c' post, Own.row b0 S (pre0 ++ (y :: rest))] u (v.setCell ⟨b0, pre0.length, none⟩ y) := by
  have t1 := Own.Turn.setAt (A := [_]) t pre0.length y (by simp)
  have e : (pre0 ++ (x :: rest)).set pre0.length y = pre0 ++ (y :: rest) := by
    rw [List.set_append_right _ _ (by omega), Nat.sub_self]
    rfl
  rw [e] at t1
  exact t1

theorem turn_n {a R : Own.Heap} {u v : World} {c' : List UInt8} {lv' : Value} (t : Own.Turn a (at_ b T pre lv' c' post :: R) u v) (c2 : List UInt8) (n : Int) (hn : n = (c2.length : Int)) :
    Own.Turn a (at_ b T pre lv' c2 post :: R) u (v.setCell ⟨b, pre.length + 1, none⟩ (.int .i64 n)) := by
  subst hn
  have t1 := t.set (pre.length + 1) (.int .i64 (c2.length : Int)) (by simp)
  have e : (pre ++ (lv' :: .int .i64 (c'.length : Int) :: post)).set (pre.length + 1) (.int .i64 (c2.length : Int)) = pre ++ (lv' :: .int .i64 (c2.length : Int) :: post) := by
    rw [List.set_append_right _ _ (by omega), Nat.add_sub_cancel_left]
    rfl
  rw [e] at t1
  exact t1

set_option maxRecDepth 100000 in
set_option maxHeartbeats 4000000 in
theorem take_any (k : Own.Has w (at_ b T pre lv c post :: h)) (q : Is c lv h) (P : Nat) (hP : P = pre.length) (n : Nat) (hn : n ≤ 1000) (hc : c.length ≤ 10000) :
    Calls Try.prog 52 #[.pointer (some ⟨b, P, none⟩), .int .i64 (n : Int)] w fun e w' => e = .returned (.string ⟨(c.take n).toArray⟩) ∧
      ∃ lv' h', Is (c.drop n) lv' h' ∧ Own.Turn (at_ b T pre lv c post :: h) (at_ b T pre lv' (c.drop n) post :: h') w w' := by
  have hk := k
  have HL := Lib.hid (fun W (hW : Own.Has W (at_ b T pre lv c post :: h)) => len_any hW (List.mem_cons_self ..) P hP)
  obtain ⟨m, hm⟩ : ∃ m, m = min n c.length := ⟨_, rfl⟩
  have HM := Lib.hid (show c.take n = c.take m ∧ c.drop n = c.drop m by
    rcases Nat.le_total n c.length with h1 | h1
    · rw [show m = n by omega]; exact ⟨rfl, rfl⟩
    · rw [show m = c.length by omega, List.take_of_length_le h1, List.drop_of_length_le h1, List.take_length, List.drop_length]; exact ⟨rfl, rfl⟩)
  rw [HM.out.1, HM.out.2]
  have hmc : m ≤ c.length := by omega
  have t0 : Own.Turn (at_ b T pre lv c post :: h) (at_ b T pre lv c post :: h) w (w.alloc (.cells #[.pointer none, .slice none 0 0] 97)) := (Own.Turn.refl k).litter _
  have HLT := Lib.hid (fun x (hx : x ∈ Own.blocks (at_ b T pre lv c post :: h)) => k.lt hx)
  have HB := Lib.hid (And.intro hm (And.intro hmc (And.intro hc (And.intro hn hP))))
  have Q := Lib.hid q
  have HK := Lib.hid hk
  have T0 := Lib.hid t0
  clear t0 k q hm hP hk hc hn
  go_enter Try.func52, Try.ntmps52
  go_wp2_with (fail)
  refine (HL.out _ T0.out.has).mono ?_
  rintro e W1 ⟨rfl, rfl⟩
  go_wp2
  rw [show min (n : Int) (c.length : Int) = (m : Int) by have := HB.out.1; omega]
  go_loopw [1] (fun x wr => ∃ (r j : Nat) (lv' : Value) (h' : Own.Heap), x = .int .i64 r ∧ r + j = m ∧ Is (c.drop j) lv' h' ∧ Own.Turn (at_ b T pre lv c post :: h) (at_ b T pre lv' (c.drop j) post :: h') w wr ∧
      (∀ x ∈ Own.blocks (at_ b T pre lv' (c.drop j) post :: h'), x < w.heap.size) ∧ Lib.IsBuilderF 97 5 w.heap.size w.heap.size (Lib.byteCells (c.take j)) wr) (fun x _ => (intOf x).toNat)
  case atStart => exact ⟨m, 0, lv, h, rfl, by omega, Q.out, T0.out, HLT.out, Bld.fresh _ _ _ (Nat.le_refl _) rfl⟩
  case round =>
    obtain ⟨r, j, lv', h', rfl, hrj, q', ht, hlt', hb⟩ := hrel
    have HT := Lib.hid (And.intro ht (And.intro hlt' (And.intro hb hrj)))
    by_cases hr : r = 0
    · have HR := Lib.hid (show j = m by omega)
      have hr0 : (r : Int) = 0 := by omega
      have Q' := Lib.hid q'
      clear ht hlt' hb hrj q' hr
      go_wp2_with (fail)
      refine (Try.Builder_String_any_k w.heap.size w.heap.size _ wr HT.out.2.2.1 HT.out.1.keeps.size).mono ?_
      rintro e W2 ⟨rfl, h1, h2, h3⟩
      have T2 := Lib.hid (turn_belowB HT.out.1 HT.out.2.1 h2)
      clear h1 h2 h3
      go_wp2
      go_ret
      exact ⟨by rw [HR.out]; rfl, lv', h', HR.out ▸ Q'.out, HR.out ▸ T2.out⟩
    · have hcl : 0 < (c.drop j).length := by rw [List.length_drop]; omega
      obtain ⟨x, tl, b0, pre0, spare, rfl, rfl, hx, htl, hcx, hmx⟩ := first q' hcl
      have hrp : (0 : Int) < (r : Int) := by omega
      have hnb : b ≠ b0 := by
        intro e
        have := ht.has.once
        simp [e] at this
      have c0 := cell0 ht.has (List.mem_cons_self ..)
      have cx := ht.has.cell b0 9 _ (List.mem_cons_of_mem _ (List.mem_cons_self ..)) pre0.length (.string x) (by simp)
      rw [← HB.out.2.2.2.2] at c0
      obtain ⟨k, hk⟩ : ∃ k, k = min r x.size := ⟨_, rfl⟩
      have hmin : min (r : Int) (x.size : Int) = (k : Int) := by omega
      have hkx : (k : Int) ≤ (x.size : Int) := by omega
      have HW := Lib.hid (Bld.ws w.heap.size w.heap.size (c.take j) (x.extract 0 k) wr hb (by rw [List.length_take, ByteArray.size_extract]; have := HB.out.2.2.1; have q9 : x.data.toList.length = x.size := Array.length_toList; have q8 := congrArg List.length hcx; rw [List.length_append, List.length_drop] at q8; omega) ht.keeps.size)
      have HX := Lib.hid (And.intro hx (And.intro htl (And.intro hcx (And.intro hmx (And.intro hk (And.intro hr hnb))))))
      clear ht hlt' hb hrj q' hr hx htl hcx hk hcl
      go_wp2_with (fail)
      refine HW.out.mono ?_
      rintro e W2 ⟨rfl, bo, hb2, _⟩
      have T1 := turn_belowB HT.out.1 HT.out.2.1 hb2
      have BO := Lib.hid bo
      have d0 := cell0 T1.has (List.mem_cons_self ..)
      have d1 := cell1 T1.has (List.mem_cons_self ..)
      have dx := T1.has.cell b0 9 _ (List.mem_cons_of_mem _ (List.mem_cons_self ..)) pre0.length (.string x) (by simp)
      have fx := T1.has.free b0 9 _ (List.mem_cons_of_mem _ (List.mem_cons_self ..)) pre0.length
      have f0 := T1.has.free b T _ (List.mem_cons_self ..) P
      have f1 := T1.has.free b T _ (List.mem_cons_self ..) (P + 1)
      rw [← HB.out.2.2.2.2] at d0 d1
      obtain ⟨N, hN⟩ : ∃ N, N = (c.drop j).length := ⟨_, rfl⟩
      rw [← hN] at d1
      have hNk : k ≤ N := by
        have q8 := congrArg List.length HX.out.2.2.1
        have q9 : x.data.toList.length = x.size := Array.length_toList
        rw [List.length_append] at q8
        have := HX.out.2.2.2.2.1
        omega
      have hN2 : N ≤ 10000 := by rw [hN, List.length_drop]; have := HB.out.2.2.1; omega
      have hkr : k ≤ r := by have := HX.out.2.2.2.2.1; omega
      have HN := Lib.hid hN
      have TT1 := Lib.hid T1
      clear T1 bo hb2 c0 cx hN hmin
      have hnb' : ¬ b0 = b := fun e => HX.out.2.2.2.2.2.2 e.symm
      have hnb2 : ¬ b = b0 := HX.out.2.2.2.2.2.2
      have hr8 : r ≤ 1000 := by have := HT.out.2.2.2; have := HB.out; omega
      by_cases hrx : r < x.size
      · have hkr2 : k = r := by have := HX.out.2.2.2.2.1; omega
        have hne : ((k : Int) == (x.size : Int)) = false := by rw [beq_eq_false_iff_ne]; omega
        have HR := Lib.hid (And.intro hkr2 hrx)
        clear hkr2 hrx
        go_wp2
        go_still_tail 8, (by kernel_rfl)
        go_wp2
        go_roundw
        case rel =>
          have e1 : c.drop (j + k) = (x.data.toList ++ (tl.map fun y => y.data.toList).flatten).drop k := by rw [← HX.out.2.2.1, List.drop_drop]
          have e2 : c.take (j + k) = c.take j ++ (x.extract 0 k).data.toList := by
            rw [List.take_add, HX.out.2.2.1, toList_extract_to, List.take_append_of_le_length (by have q9 : x.data.toList.length = x.size := Array.length_toList; have := HR.out; omega)]
          have hb1 := HT.out.2.1 b (List.mem_cons_self ..)
          have hb2 := HT.out.2.1 b0 (List.mem_cons_of_mem _ (List.mem_cons_self ..))
          refine ⟨r - k, j + k, _, [Own.row b0 9 (pre0 ++ (.string (x.extract k x.size) :: (tl.map Value.string ++ spare)))], by congr 1; omega, by have := HT.out.2.2.2; omega, by rw [e1]; exact part k (by have := HR.out; omega) HX.out.2.1 hmx, ?_, HT.out.2.1, ?_⟩
          · have t3 := (turn_n (turn_cell TT1.out (.string (x.extract k x.size))) (c.drop (j + k)) ((N : Int) - (k : Int)) (by rw [List.length_drop]; have h7 := HN.out; rw [List.length_drop] at h7; omega)).drew
            rw [HB.out.2.2.2.2]
            exact t3
          · rw [e2]
            refine builder_kept BO.out fun i h1 h2 => ?_
            exact (Below.heap_setCell _ _ _ _ (show i ≠ b by omega)).trans (Below.heap_setCell _ _ _ _ (show i ≠ b0 by omega))
        case measure => have := HX.out.2.2.2.2.2.1; have := HR.out; simp [intOf]; omega
      · have hkr2 : k = x.size := by have := HX.out.2.2.2.2.1; omega
        have hne : ((k : Int) == (x.size : Int)) = true := by rw [hkr2]; simp
        have HR := Lib.hid (And.intro hkr2 hrx)
        clear hkr2 hrx
        by_cases hcap : tl.length + 1 + spare.length = 1
        · have hc1 : ((tl.length : Int) + 1 + (spare.length : Int)) = 1 := by omega
          have htl0 : tl.length = 0 := by omega
          have hsp0 : spare.length = 0 := by omega
          have HL0 := Lib.hid (And.intro htl0 hsp0)
          go_wp2
          go_still_tail 8, (by kernel_rfl)
          go_wp2
          go_roundw
          case rel =>
            have e1 : c.drop (j + k) = (x.data.toList ++ (tl.map fun y => y.data.toList).flatten).drop x.size := by rw [← HX.out.2.2.1, List.drop_drop, HR.out.1]
            have e2 : c.take (j + k) = c.take j ++ (x.extract 0 k).data.toList := by
              rw [List.take_add, HX.out.2.2.1, toList_extract_to, List.take_append_of_le_length (by have q9 : x.data.toList.length = x.size := Array.length_toList; have := HR.out; omega)]
            have hb1 := HT.out.2.1 b (List.mem_cons_self ..)
            have hb2 := HT.out.2.1 b0 (List.mem_cons_of_mem _ (List.mem_cons_self ..))
            have e3 : tl = [] := List.eq_nil_of_length_eq_zero HL0.out.1
            refine ⟨r - k, j + k, .slice (some ⟨b0, pre0.length, none⟩) 0 0, [], by congr 1; omega, by have := HT.out.2.2.2; omega, by rw [e1]; exact whole_bare e3, ?_, ?_, ?_⟩
            · have t3 := (turn01 (turn_cell TT1.out (.string (x.extract k x.size))) (.slice (some ⟨b0, pre0.length, none⟩) 0 0) (c.drop (j + k)) ((N : Int) - (k : Int)) (by rw [List.length_drop]; have h7 := HN.out; rw [List.length_drop] at h7; omega)).drew
              rw [HB.out.2.2.2.2]
              exact Own.Turn.drop (b := [_]) (c := [_]) t3
            · intro y hy
              obtain rfl : y = b := by simpa using hy
              exact hb1
            · rw [e2]
              refine builder_kept BO.out fun i h1 h2 => ?_
              exact (Below.heap_setCell _ _ _ _ (show i ≠ b by omega)).trans ((Below.heap_setCell _ _ _ _ (show i ≠ b by omega)).trans (Below.heap_setCell _ _ _ _ (show i ≠ b0 by omega)))
          case measure => have := HX.out.2.2.2.2.2.1; have := HX.out.1; have := HR.out; simp [intOf]; omega
        · go_wp2
          go_still_tail 8, (by kernel_rfl)
          go_wp2
          go_roundw
          case rel =>
            have e1 : c.drop (j + k) = (x.data.toList ++ (tl.map fun y => y.data.toList).flatten).drop x.size := by rw [← HX.out.2.2.1, List.drop_drop, HR.out.1]
            have e2 : c.take (j + k) = c.take j ++ (x.extract 0 k).data.toList := by
              rw [List.take_add, HX.out.2.2.1, toList_extract_to, List.take_append_of_le_length (by have q9 : x.data.toList.length = x.size := Array.length_toList; have := HR.out; omega)]
            have hb1 := HT.out.2.1 b (List.mem_cons_self ..)
            have hb2 := HT.out.2.1 b0 (List.mem_cons_of_mem _ (List.mem_cons_self ..))
            refine ⟨r - k, j + k, .slice (some ⟨b0, pre0.length + 1, none⟩) tl.length (tl.length + spare.length), [Own.row b0 9 (pre0 ++ (.string (x.extract k x.size) :: (tl.map Value.string ++ spare)))], by congr 1; omega, by have := HT.out.2.2.2; omega, by rw [e1]; exact whole_room HX.out.2.1 hmx, ?_, HT.out.2.1, ?_⟩
            · have t3 := (turn01 (turn_cell TT1.out (.string (x.extract k x.size))) (.slice (some ⟨b0, pre0.length + 1, none⟩) tl.length (tl.length + spare.length)) (c.drop (j + k)) ((N : Int) - (k : Int)) (by rw [List.length_drop]; have h7 := HN.out; rw [List.length_drop] at h7; omega)).drew
              rw [HB.out.2.2.2.2]
              exact t3
            · rw [e2]
              refine builder_kept BO.out fun i h1 h2 => ?_
              exact (Below.heap_setCell _ _ _ _ (show i ≠ b by omega)).trans ((Below.heap_setCell _ _ _ _ (show i ≠ b by omega)).trans (Below.heap_setCell _ _ _ _ (show i ≠ b0 by omega)))
          case measure => have := HX.out.2.2.2.2.2.1; have := HX.out.1; have := HR.out; simp [intOf]; omega
end
end Queue
end Go.Proofs.Ytpeimoknmlmppaa
