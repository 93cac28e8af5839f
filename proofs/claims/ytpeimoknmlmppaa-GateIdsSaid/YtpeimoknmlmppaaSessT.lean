/- A session is ended: what it says last. -/
import Derived.Test.YtpeimoknmlmppaaSess
import Derived.Test.YtpeimoknmlmppaaConv
import Derived.StillTailTactics
import Derived.Deep.RegionWith
namespace Go.Proofs.Ytpeimoknmlmppaa
open Go.RowKit
namespace Sess
open Gate (Se)

theorem no_any (e : Nat) (he : e < 256) (w : World) : Calls Try.prog 62 #[.int .i64 (e : Int)] w fun r w' => r = .returned (.string ⟨#[78, UInt8.ofNat e]⟩) ∧ Below w.heap.size w w' := by
  have h1 := fun W => Conv.one W (e : Int)
  have hs : strOfNums [(e : Int)] = ⟨#[UInt8.ofNat e]⟩ := by
    simp [strOfNums]
  rw [hs] at h1
  have h8 : (e : Int) ≤ 255 := by omega
  go_enter Try.func62, Try.ntmps62
  go_wp2
  go_ret
  exact ⟨Own.ret_string rfl, (Below.refl _ w).alloc (Nat.le_refl _) _⟩

/-- A session that is ended by e. -/
def over (s : Se) (e : Nat) : Se := { s with inb := [], out := s.out ++ [78, UInt8.ofNat e], ended := true, e := e }

section
variable {s : Se} {sb : Nat} {h : Own.Heap} {w : World}

theorem turn_over {a R : Own.Heap} {u v : World} {pre : List Value} (hp : pre.length = 1) {lv : Value} {c : List UInt8} (t : Own.Turn a (Queue.at_ sb 79 pre lv c (post s) :: R) u v) (e : Nat) :
    Own.Turn a (Queue.at_ sb 79 pre lv c (post { s with ended := true, e := e }) :: R) u (((v.setCell ⟨sb, 12, none⟩ (.bool true)).setCell ⟨sb, 13, none⟩ (.int .i64 (e : Int))).setCell ⟨sb, 10, none⟩ (.pointer none)) := by
  obtain ⟨p, rfl⟩ : ∃ p, pre = [p] := by
    match pre, hp with
    | [p], _ => exact ⟨p, rfl⟩
  have t2 := ((t.set 12 (.bool true) (by simp [post])).set 13 (.int .i64 (e : Int)) (by simp [post])).set 10 (.pointer none) (by simp [post])
  exact t2

set_option maxRecDepth 100000 in
set_option maxHeartbeats 2000000 in
theorem end_any (i : Is s sb h) (hw : Own.Has w h) (e : Nat) (he : e < 256) (ho : s.out.length ≤ 1000) :
    Calls Try.prog 51 #[.pointer (some ⟨sb, 0, none⟩), .int .i64 (e : Int), .bool false] w fun r w' => (∃ v, r = .returned v) ∧ ∃ h', Is (over s e) sb h' ∧ Own.Turn h h' w w' := by
  obtain ⟨rb, bb, r, lv, hq, f, hl, ha, hq1, rfl⟩ := i
  have HN := Lib.hid (fun W => no_any e he W)
  have Hw := Lib.hid hw
  have HA := Lib.hid (And.intro f (And.intro hl (And.intro ha (And.intro hq1 (And.intro ho he)))))
  clear hw f hl ha hq1 ho he
  go_enter Try.func51, Try.ntmps51
  go_wp2
  go_region_with (first | (refine (HN.out _).mono ?_; rintro e1 W1 ⟨rfl, b1⟩; have T1 := Lib.hid (((Own.Turn.refl Hw.out).drew).trans (Own.Turn.of_below Hw.out.drew b1)); clear b1) | (refine (Queue.add_any (Own.Has.left (a := _ :: hq) T1.out.has) HA.out.2.2.2.1 1 rfl ⟨#[78, UInt8.ofNat e]⟩ (by have := HA.out.2.2.2.2.1; show s.out.length + 2 ≤ 10000; omega)).mono ?_; rintro e2 W2 ⟨⟨v2, rfl⟩, lv', hq', q', t2⟩; have T2 := Lib.hid (T1.out.trans (Own.Turn.frame (r := Ring.heap r rb bb) t2 T1.out.has)); have Q2 := Lib.hid q'; clear t2 q'))
  all_goals
    have T3 := turn_over (pre := [.pointer (some ⟨rb, 0, none⟩)]) rfl T2.out e
    have cell := fun j v hj => T2.out.has.cell sb 79 _ (List.mem_cons_self ..) j v hj
    have c0 := cell 0 _ rfl
    have c10 := cell 10 _ rfl
    have c12 := cell 12 _ rfl
    have c13 := cell 13 _ rfl
    have f10 := T2.out.has.free sb 79 _ (List.mem_cons_self ..) 10
    have f12 := T2.out.has.free sb 79 _ (List.mem_cons_self ..) 12
    have f13 := T2.out.has.free sb 79 _ (List.mem_cons_self ..) 13
    have TT3 := Lib.hid T3
    clear T3 cell
    go_wp2_with (fail)
    refine (Ring.clear_any (Own.Has.right (a := _ :: hq') TT3.out.has) HA.out.1).mono ?_
    rintro e3 W3 ⟨r', ⟨v3, rfl⟩, f', hl', ha', t4⟩
    go_wp2
    go_end0
    exact ⟨⟨_, rfl⟩, _, ⟨rb, bb, r', lv', hq', f', hl'.trans HA.out.2.1, ha', Q2.out, rfl⟩, TT3.out.trans (Own.Turn.behind (r := _ :: hq') t4 TT3.out.has)⟩

set_option maxHeartbeats 1000000 in
theorem stop_any (i : Is s sb h) (hw : Own.Has w h) (e : Nat) (he : e < 256) (ho : s.out.length ≤ 1000) (hend : s.ended = false) :
    Calls Try.prog 34 #[.pointer (some ⟨sb, 0, none⟩), .int .i64 (e : Int)] w fun r w' => r = .returned (.bool true) ∧ ∃ h', Is (over s e) sb h' ∧ Own.Turn h h' w w' := by
  have HE := Lib.hid (end_any i hw e he ho)
  obtain ⟨rb, bb, r, lv, hq, f, hl, ha, hq1, rfl⟩ := i
  have c9 := hw.cell sb _ _ (List.mem_cons_self ..) 9 _ rfl
  have c12 := hw.cell sb _ _ (List.mem_cons_self ..) 12 _ rfl
  rw [hend] at c12
  clear hw f hl ha hq1 hend ho he
  go_enter Try.func34, Try.ntmps34
  go_wp2_with (fail)
  refine HE.out.mono ?_
  rintro e1 W1 ⟨⟨v1, rfl⟩, h', is', t1⟩
  have H := Lib.hid (And.intro is' t1)
  clear is' t1 HE
  go_wp2
  go_ret
  exact ⟨rfl, h', H.out.1, H.out.2⟩

set_option maxHeartbeats 1000000 in
theorem stopped_any (i : Is s sb h) (hw : Own.Has w h) (e : Nat) (hend : s.ended = true) :
    Calls Try.prog 34 #[.pointer (some ⟨sb, 0, none⟩), .int .i64 (e : Int)] w fun r w' => r = .returned (.bool false) ∧ w' = w := by
  obtain ⟨rb, bb, r, lv, hq, f, hl, ha, hq1, rfl⟩ := i
  have c12 := hw.cell sb _ _ (List.mem_cons_self ..) 12 _ rfl
  rw [hend] at c12
  clear hw f hl ha hq1 hend
  go_enter Try.func34, Try.ntmps34
  go_wp2
  go_ret
  exact ⟨rfl, rfl⟩

set_option maxHeartbeats 1000000 in
theorem closed_any (i : Is s sb h) (hw : Own.Has w h) :
    Calls Try.prog 36 #[.pointer (some ⟨sb, 0, none⟩)] w fun r w' => r = .returned (.bool s.closed) ∧ w' = w := by
  obtain ⟨rb, bb, r, lv, hq, f, hl, ha, hq1, rfl⟩ := i
  have c12 := hw.cell sb _ _ (List.mem_cons_self ..) 12 _ rfl
  have HL := Lib.hid (Queue.len_any hw (List.mem_cons_self ..) 1 rfl)
  cases he : s.ended with
  | false =>
    have HC := Lib.hid (show s.closed = false by unfold Se.closed; rw [he]; rfl)
    rw [he] at c12
    clear hw f hl ha hq1 he
    go_enter Try.func36, Try.ntmps36
    go_wp2
    go_ret
    exact ⟨Own.ret_bool HC.out.symm, rfl⟩
  | true =>
    rw [he] at c12
    by_cases h0 : s.out.length = 0
    · have HC := Lib.hid (show s.closed = true by unfold Se.closed; rw [he, List.eq_nil_of_length_eq_zero h0]; rfl)
      have h0I : (s.out.length : Int) = 0 := by omega
      have hb : ((s.out.length : Int) == 0) = true := by rw [h0I]; rfl
      clear hw f hl ha hq1 he h0I h0
      go_enter Try.func36, Try.ntmps36
      go_wp2_with (fail)
      refine HL.out.mono ?_
      rintro e1 W1 ⟨rfl, rfl⟩
      go_wp2
      all_goals go_ret
      all_goals exact ⟨Own.ret_bool HC.out.symm, rfl⟩
    · have HC := Lib.hid (show s.closed = false by unfold Se.closed; rw [he]; cases hs : s.out with | nil => rw [hs] at h0; exact absurd rfl h0 | cons x l => rfl)
      have hb : ((s.out.length : Int) == 0) = false := by rw [beq_eq_false_iff_ne]; omega
      clear hw f hl ha hq1 he
      go_enter Try.func36, Try.ntmps36
      go_wp2_with (fail)
      refine HL.out.mono ?_
      rintro e1 W1 ⟨rfl, rfl⟩
      go_wp2
      all_goals go_ret
      all_goals exact ⟨Own.ret_bool HC.out.symm, rfl⟩
end
end Sess
end Go.Proofs.Ytpeimoknmlmppaa
