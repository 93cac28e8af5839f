/- Bytes that go out of a session. -/
import Derived.Test.YtpeimoknmlmppaaSessT
import Derived.Test.YtpeimoknmlmppaaQueueT
namespace Go.Proofs.Ytpeimoknmlmppaa
open Go.RowKit
namespace Sess
open Gate (Se)

section
variable {s : Se} {sb : Nat} {h : Own.Heap} {w : World}

set_option maxHeartbeats 1000000 in
theorem write_any (i : Is s sb h) (hw : Own.Has w h) (n : Nat) (hn : n ≤ 1000) (ho : s.out.length ≤ 1000) :
    Calls Try.prog 35 #[.pointer (some ⟨sb, 0, none⟩), .int .i64 (n : Int)] w fun e w' => e = .returned (.string ⟨(s.out.take n).toArray⟩) ∧ ∃ h', Is (s.write n) sb h' ∧ Own.Turn h h' w w' := by
  obtain ⟨rb, bb, r, lv, hq, f, hl, ha, hq1, rfl⟩ := i
  have HT := Lib.hid (Queue.take_any (Own.Has.left (a := _ :: hq) hw) hq1 1 rfl n hn (by omega))
  have Hw := Lib.hid (And.intro hw (And.intro f (And.intro hl ha)))
  clear hw f hl ha hq1 hn ho
  go_enter Try.func35, Try.ntmps35
  go_wp2_with (fail)
  refine HT.out.mono ?_
  rintro e W1 ⟨rfl, lv', hq', q', t1⟩
  have H := Lib.hid (And.intro q' t1)
  clear q' t1 HT
  go_wp2
  go_ret
  exact ⟨rfl, _, ⟨rb, bb, r, lv', hq', Hw.out.2.1, Hw.out.2.2.1, Hw.out.2.2.2, H.out.1, rfl⟩, Own.Turn.frame (r := Ring.heap r rb bb) H.out.2 Hw.out.1⟩
end
end Sess
end Go.Proofs.Ytpeimoknmlmppaa
