/- An id that is not live is nothing, whatever is asked of it. -/
import Derived.Test.YtpeimoknmlmppaaGateV
namespace Go.Proofs.Ytpeimoknmlmppaa
open Go.RowKit
namespace Gate

section
variable {l : Lay} {g : Ga} {w : World}

set_option maxHeartbeats 1000000 in
theorem chunk_none (k : l.Good g) (o : g.Ok) (h : Own.Has w (l.heap g)) (id : Int) (b : ByteArray) (hf : g.find id = none) :
    Calls Try.prog 10 #[.pointer (some ⟨l.gb, 0, none⟩), .int .i64 id, .string b] w fun e w' => e = .returned (.int .i64 0) ∧ w' = w := by
  have HO := Lib.hid (of_any k h id o.pos)
  rw [hf] at HO
  clear h k o hf
  go_enter Try.func10, Try.ntmps10
  go_wp2_with (fail)
  refine HO.out.mono ?_
  rintro e W1 ⟨rfl, rfl⟩
  unfold ofOut
  go_wp2
  go_ret
  exact ⟨rfl, rfl⟩

set_option maxHeartbeats 1000000 in
theorem half_none (k : l.Good g) (o : g.Ok) (h : Own.Has w (l.heap g)) (id : Int) (hf : g.find id = none) :
    Calls Try.prog 17 #[.pointer (some ⟨l.gb, 0, none⟩), .int .i64 id] w fun e w' => e = .returned (.bool false) ∧ w' = w := by
  have HO := Lib.hid (of_any k h id o.pos)
  rw [hf] at HO
  clear h k o hf
  go_enter Try.func17, Try.ntmps17
  go_wp2_with (fail)
  refine HO.out.mono ?_
  rintro e W1 ⟨rfl, rfl⟩
  unfold ofOut
  go_wp2
  go_ret
  exact ⟨rfl, rfl⟩

set_option maxHeartbeats 1000000 in
theorem write_none (k : l.Good g) (o : g.Ok) (h : Own.Has w (l.heap g)) (id m : Int) (hf : g.find id = none) :
    Calls Try.prog 15 #[.pointer (some ⟨l.gb, 0, none⟩), .int .i64 id, .int .i64 m] w fun e w' => e = .returned (.string ⟨#[]⟩) ∧ w' = w := by
  have HO := Lib.hid (of_any k h id o.pos)
  rw [hf] at HO
  clear h k o hf
  go_enter Try.func15, Try.ntmps15
  go_wp2_with (fail)
  refine HO.out.mono ?_
  rintro e W1 ⟨rfl, rfl⟩
  unfold ofOut
  go_wp2
  go_ret
  exact ⟨rfl, rfl⟩

set_option maxHeartbeats 1000000 in
theorem cancel_none (k : l.Good g) (o : g.Ok) (h : Own.Has w (l.heap g)) (id : Int) (hf : g.find id = none) :
    Calls Try.prog 14 #[.pointer (some ⟨l.gb, 0, none⟩), .int .i64 id] w fun e w' => e = .returned (.bool false) ∧ w' = w := by
  have HO := Lib.hid (of_any k h id o.pos)
  rw [hf] at HO
  clear h k o hf
  go_enter Try.func14, Try.ntmps14
  go_wp2_with (fail)
  refine HO.out.mono ?_
  rintro e W1 ⟨rfl, rfl⟩
  unfold ofOut
  go_wp2
  go_ret
  exact ⟨rfl, rfl⟩

set_option maxHeartbeats 1000000 in
theorem ended_none (k : l.Good g) (o : g.Ok) (h : Own.Has w (l.heap g)) (id : Int) (hf : g.find id = none) :
    Calls Try.prog 16 #[.pointer (some ⟨l.gb, 0, none⟩), .int .i64 id] w fun e w' => e = .returned (.tuple #[.int .i64 14, .bool false]) ∧ w' = w := by
  have HO := Lib.hid (of_any k h id o.pos)
  rw [hf] at HO
  clear h k o hf
  go_enter Try.func16, Try.ntmps16
  go_wp2_with (fail)
  refine HO.out.mono ?_
  rintro e W1 ⟨rfl, rfl⟩
  unfold ofOut
  go_wp2
  go_ret2
  exact ⟨rfl, rfl⟩

set_option maxHeartbeats 1000000 in
theorem ready_none (k : l.Good g) (o : g.Ok) (h : Own.Has w (l.heap g)) (id : Int) (hf : g.find id = none) :
    Calls Try.prog 18 #[.pointer (some ⟨l.gb, 0, none⟩), .int .i64 id] w fun e w' => e = .returned (.bool false) ∧ w' = w := by
  have HO := Lib.hid (of_any k h id o.pos)
  rw [hf] at HO
  clear h k o hf
  go_enter Try.func18, Try.ntmps18
  go_wp2_with (fail)
  refine HO.out.mono ?_
  rintro e W1 ⟨rfl, rfl⟩
  unfold ofOut
  go_wp2
  go_ret
  exact ⟨rfl, rfl⟩
end
end Gate
end Go.Proofs.Ytpeimoknmlmppaa
