/- The law's first look. -/
import Derived.Test.YtnpbleaikdpjiaaDoorEscRead
import Derived.Test.YtnpbleaikdpjiaaDoorEscWrite
namespace Go.Proofs.YtnpbleaikdpjiaaDoor
open Go.RowKit
namespace Alive5

theorem r1 : Esc.read [97, 92, 117, 48, 48, 101, 57, 92, 110] = ([97, 195, 169, 10], 0) := by decide +kernel
theorem r2 : Esc.read [92, 117, 100, 56, 48, 48, 120] = ([], 9) := by decide +kernel
theorem w1 : Esc.write [34, 1] = [92, 34, 92, 117, 48, 48, 48, 49] := by decide +kernel

theorem readOf (s : ByteArray) (hs : s.size ≤ 1000) (o : List UInt8 × Nat) (h : Esc.read s.data.toList = o) (w : World) :
    Calls Tryd.prog 14 #[.string s] w fun e w' => e = .returned (.tuple #[.string ⟨o.1.toArray⟩, .int .i64 o.2]) ∧ Below w.heap.size w w' := by
  refine (Esc.read_any s w hs).mono ?_
  rintro e w' ⟨he, b⟩
  exact ⟨by rw [he, h]; rfl, b⟩

theorem writeOf (s : ByteArray) (hs : s.size ≤ 1000) (o : List UInt8) (h : Esc.write s.data.toList = o) (w : World) (hT : Lib.Utf8Tabs 0 1 w) :
    Calls Tryd.prog 15 #[.string s] w fun e w' => e = .returned (.string ⟨o.toArray⟩) ∧ Below w.heap.size w w' := by
  refine (Esc.write_any s w (by omega) hT).mono ?_
  rintro e w' ⟨he, b⟩
  exact ⟨by rw [he, h], b⟩

theorem readA (w : World) : Calls Tryd.prog 14 #[.string ⟨#[97, 92, 117, 48, 48, 101, 57, 92, 110]⟩] w fun e w' => e = .returned (.tuple #[.string ⟨#[97, 195, 169, 10]⟩, .int .i64 0]) ∧ Below w.heap.size w w' :=
  readOf ⟨#[97, 92, 117, 48, 48, 101, 57, 92, 110]⟩ (by decide) ([97, 195, 169, 10], 0) r1 w
theorem readB (w : World) : Calls Tryd.prog 14 #[.string ⟨#[92, 117, 100, 56, 48, 48, 120]⟩] w fun e w' => e = .returned (.tuple #[.string ⟨#[]⟩, .int .i64 9]) ∧ Below w.heap.size w w' :=
  readOf ⟨#[92, 117, 100, 56, 48, 48, 120]⟩ (by decide) ([], 9) r2 w
theorem writeC (w : World) (hT : Lib.Utf8Tabs 0 1 w) : Calls Tryd.prog 15 #[.string ⟨#[34, 1]⟩] w fun e w' => e = .returned (.string ⟨#[92, 34, 92, 117, 48, 48, 48, 49]⟩) ∧ Below w.heap.size w w' :=
  writeOf ⟨#[34, 1]⟩ (by decide) _ w1 w hT

set_option maxHeartbeats 400000 in
theorem any (w : World) (hT : Lib.Utf8Tabs 0 1 w) : Calls Tryd.prog 10 #[] w fun e w' => e = .returned (.bool true) ∧ Below w.heap.size w w' := by
  have HT := Lib.hid hT
  clear hT
  go_enter Tryd.func10, Tryd.ntmps10
  go_wp2_with (fail)
  refine (readA w).mono ?_
  rintro e w1 ⟨rfl, b1⟩
  go_wp2_with (fail)
  refine (readB w1).mono ?_
  rintro e w2 ⟨rfl, b2⟩
  have hb2 := b1.trans (b2.mono b1.size)
  have HT2 := Lib.hid (Go.Proofs.Utf8Tabs_below HT.out hb2)
  go_wp2_with (fail)
  refine (writeC w2 HT2.out).mono ?_
  rintro e w3 ⟨rfl, b3⟩
  go_wp2
  go_ret
  exact ⟨rfl, hb2.trans (b3.mono hb2.size)⟩
end Alive5
end Go.Proofs.YtnpbleaikdpjiaaDoor
