/- A session that has not negotiated: its memory; a new one, feeding it, its charge. -/
import Derived.Test.YtpeimoknmlmppaaGateM
import Derived.Test.YtpeimoknmlmppaaRingT
import Derived.Test.YtpeimoknmlmppaaQueue
import Derived.BigQuiet
namespace Go.Proofs.Ytpeimoknmlmppaa
open Go.RowKit
namespace Sess
open Gate (Se)

/-- What stands behind the queue in a session's row. -/
def post (s : Se) : List Value :=
  [.string ⟨#[]⟩, .int .i64 0, .int .i64 0, .int .i64 0, .int .i64 0, .int .i64 0, .bool false, .pointer none, .bool s.half, .bool s.ended, .int .i64 (s.e : Int)]

/-- h is the memory of the session s at sb. -/
def Is (s : Se) (sb : Nat) (h : Own.Heap) : Prop :=
  ∃ (rb bb : Nat) (r : Ring.St) (lv : Value) (hq : Own.Heap), r.Fits ∧ r.l.length = 64 ∧ r.all = s.inb ∧ Queue.Is s.out lv hq ∧
    h = Queue.at_ sb 79 [.pointer (some ⟨rb, 0, none⟩)] lv s.out (post s) :: (hq ++ Ring.heap r rb bb)

theorem Is.mem {s : Se} {sb : Nat} {h : Own.Heap} (i : Is s sb h) : sb ∈ Own.blocks h := by
  obtain ⟨rb, bb, r, lv, hq, _, _, _, _, rfl⟩ := i
  exact List.mem_cons_self ..

set_option maxHeartbeats 1000000 in
theorem new_any (w : World) : Calls Try.prog 22 #[] w fun e w' => ∃ sb h, e = .returned (.pointer (some ⟨sb, 0, none⟩)) ∧ Is Se.new sb h ∧ Own.Turn [] h w w' := by
  have HR := Lib.hid (fun W => Ring.new_any 64 (by omega) (by omega) W)
  go_enter Try.func22, Try.ntmps22
  go_wp2_with (fail)
  refine (HR.out _).mono ?_
  rintro e W1 ⟨rb, bb, rfl, ht⟩
  go_wp2
  go_ret
  refine ⟨W1.heap.size, _, rfl, ⟨rb, bb, ⟨List.replicate 64 0, 0, 0⟩, .slice none 0 0, [], ?_, ?_, ?_, Queue.Is.none, rfl⟩, ht.alloc _⟩
  · exact ⟨by decide, by decide, by decide⟩
  · rfl
  · rfl

section
variable {s : Se} {sb : Nat} {h : Own.Heap} {w : World}

set_option maxHeartbeats 1000000 in
theorem charge_any (i : Is s sb h) (hw : Own.Has w h) (ho : s.out.length ≤ 10000) :
    Calls Try.prog 45 #[.pointer (some ⟨sb, 0, none⟩)] w fun e w' => e = .returned (.int .i64 (s.charge : Int)) ∧ ∃ n, w' = w.drewN n := by
  obtain ⟨rb, bb, r, lv, hq, f, hl, ha, hq1, rfl⟩ := i
  have cell := fun j v hj => hw.cell sb _ _ (List.mem_cons_self ..) j v hj
  have c0 := cell 0 _ rfl
  have c10 := cell 10 _ rfl
  have c12 := cell 12 _ rfl
  have HRL := Lib.hid (fun n => Ring.len_any (r := r) (rb := rb) (bb := bb) (w := w.drewN n) ((Own.Has.right (a := _ :: hq) hw).drewN n))
  have HQL := Lib.hid (fun n => Queue.len_any (w := w.drewN n) (hw.drewN n) (List.mem_cons_self ..) 1 rfl)
  have hn : r.n = s.inb.length := by rw [← ha, Ring.St.length_all]
  have hin : s.inb.length ≤ 64 := by rw [← hn, ← hl]; exact f.n
  rw [hn] at HRL
  have hwr : IntKind.i64.wrap ((s.inb.length : Int) + (s.out.length : Int)) = (s.inb.length : Int) + (s.out.length : Int) := by rw [IntKind.wrap_i64]; omega
  have HC := Lib.hid (show s.charge = s.inb.length + s.out.length + (if s.ended then 0 else 2) from rfl)
  clear cell hw hn hl ha hq1 f
  cases he : s.ended
  all_goals
    rw [he] at c12 HC
    clear he
    go_enter Try.func45, Try.ntmps45
    go_wp2
    go_quiet (first | exact Calls.quiet_of_same (HRL.out _) | exact Calls.quiet_of_same (HQL.out _))
    go_wp2
    go_ret
    exact ⟨Own.ret_int (by rw [HC.out]; simp), _, rfl⟩

theorem extract_all (b : ByteArray) (k : Nat) (h : k ≤ b.size) : (b.extract 0 k).size = k ∧ (b.extract 0 k).data.toList = b.data.toList.take k := by
  constructor
  · rw [ByteArray.size_extract]; omega
  · rw [ByteArray.data_extract, Array.toList_extract]; simp

set_option maxRecDepth 100000 in
set_option maxHeartbeats 1000000 in
theorem feed_any (i : Is s sb h) (hw : Own.Has w h) (b : ByteArray) (hb : b.size ≤ 1000000) (room : Nat) (hroom : room ≤ 1000000) :
    Calls Try.prog 29 #[.pointer (some ⟨sb, 0, none⟩), .string b, .int .i64 (room : Int)] w fun e w' => e = .returned (.int .i64 ((s.takes b.data.toList room : Nat) : Int)) ∧
      ∃ h', Is (s.feed b.data.toList room) sb h' ∧ Own.Turn h h' w w' := by
  obtain ⟨rb, bb, r, lv, hq, f, hl, ha, hq1, rfl⟩ := i
  have cell := fun j v hj => hw.cell sb _ _ (List.mem_cons_self ..) j v hj
  have c0 := cell 0 _ rfl
  have c11 := cell 11 _ rfl
  have c12 := cell 12 _ rfl
  have hn : r.n = s.inb.length := by rw [← ha, Ring.St.length_all]
  have hbl : b.data.toList.length = b.size := Array.length_toList
  have Hw := Lib.hid hw
  by_cases hs : (s.half || s.ended) = true
  · have HT := Lib.hid (show s.takes b.data.toList room = 0 by unfold Se.takes; rw [if_pos hs])
    have HF := Lib.hid (show s.feed b.data.toList room = s by unfold Se.feed; rw [HT.out]; simp)
    have HI : Is s sb _ := ⟨rb, bb, r, lv, hq, f, hl, ha, hq1, rfl⟩
    have HI2 := Lib.hid (HF.out.symm ▸ HI : Is (s.feed b.data.toList room) sb _)
    clear HI
    clear cell hw hn hl ha hq1 f hb hroom hbl
    cases hh : s.half <;> cases he : s.ended <;> (first | (rw [hh, he] at hs; exact absurd hs (by decide)) | skip)
    all_goals
      rw [hh] at c11
      rw [he] at c12
      clear hs hh he
      go_enter Try.func29, Try.ntmps29
      go_wp2
      go_ret
      exact ⟨Own.ret_int (by rw [HT.out]; rfl), _, HI2.out, Own.Turn.refl Hw.out⟩
  · have hhalf : s.half = false := by cases hh : s.half <;> simp_all
    have hend : s.ended = false := by cases hh : s.ended <;> simp_all
    obtain ⟨k, hk⟩ : ∃ k, k = min b.size room := ⟨_, rfl⟩
    have hkb : k ≤ b.size := by omega
    have hx := extract_all b k hkb
    have HT := Lib.hid (show s.takes b.data.toList room = min (b.extract 0 k).size (r.l.length - r.n) by unfold Se.takes; rw [if_neg hs, hx.1, hk, hbl, hl, hn])
    have HP := Lib.hid (fun W (hW : Own.Has W (Ring.heap r rb bb)) => Ring.put_any hW f (b.extract 0 k) (by rw [hx.1]; omega) _ HT.out)
    rw [hhalf] at c11
    rw [hend] at c12
    have HA := Lib.hid (And.intro f (And.intro hl (And.intro ha (And.intro hq1 (And.intro hn hx)))))
    have HB := Lib.hid (And.intro hb (And.intro hbl hroom))
    clear cell hw hn hl ha hq1 f hs hb hroom hbl hx
    have hmin : (if (if (room : Int) < 0 then 0 else (room : Int)) < (b.size : Int) then (if (room : Int) < 0 then 0 else (room : Int)) else (b.size : Int)) = (k : Int) := by
      rw [if_neg (show ¬ (room : Int) < 0 by omega)]
      split <;> omega
    have hkI : (k : Int) ≤ (b.size : Int) := by omega
    have HK := Lib.hid (And.intro hk hkb)
    clear hk hkb
    go_enter Try.func29, Try.ntmps29
    go_wp2
    go_still_tail 11, (by kernel_rfl)
    go_wp2_with (fail)
    refine (HP.out _ (Own.Has.right (a := _ :: hq) Hw.out.drew)).mono ?_
    rintro e W1 ⟨r', rfl, f', hl', ha', ht⟩
    go_wp2
    go_ret
    refine ⟨rfl, _, ⟨rb, bb, r', lv, hq, f', hl'.trans HA.out.2.1, ?_, HA.out.2.2.2.1, rfl⟩, ?_⟩
    · obtain ⟨_, _, h3, _, _, h6, h7⟩ := HA.out
      rw [ha', h3, h7, List.take_take]
      have h8 := HT.out
      rw [h6] at h8
      show s.inb ++ _ = s.inb ++ List.take (s.takes b.data.toList room) b.data.toList
      rw [show min (s.takes b.data.toList room) k = s.takes b.data.toList room by omega]
    · exact ((Own.Turn.refl Hw.out).drew).trans (Own.Turn.behind (r := _ :: hq) ht Hw.out.drew)
end
end Sess
end Go.Proofs.Ytpeimoknmlmppaa
