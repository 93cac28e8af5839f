/- HelloWords: the walk: what is said at the beginning, and at the end, is told apart by its first byte. -/
import Derived.Test.YthnbpnfaghjamaaGreatM34
namespace Go.Proofs.YthnbpnfaghjamaaGreat.helloWords
open Go.RowKit Pip

set_option maxRecDepth 100000 in
set_option maxHeartbeats 4000000 in
theorem walk (a0 : Int) (_w0 : (Lit.int .i64 a0).wf = true) (w : World) : Calls Tryz.prog 12 #[.int .i64 a0] w fun e w' => e = .returned (.bool true) ∧ Below w.heap.size w w' := by
  have HA := Lib.hid (fun u => alive_any u)
  have HN := Lib.hid (fun u => no_any a0 u)
  have HT := Lib.hid (fun u => trailer_any a0 u)
  have HY := Lib.hid (fun u => yes_any u)
  have HF := Lib.hid (fun u => fulls_any u)
  have BT := Lib.hid (fun (u v : World) (b : Below w.heap.size w u) (b2 : Below u.heap.size u v) => (b.trans (b2.mono b.size) : Below w.heap.size w v))
  obtain ⟨X, hX⟩ : ∃ X : ByteArray, X = ⟨([78, UInt8.ofNat (a0 % 256).toNat] : List UInt8).toArray⟩ := ⟨_, rfl⟩
  obtain ⟨Y, hY⟩ : ∃ X : ByteArray, X = ⟨([255, UInt8.ofNat (a0 % 256).toNat] : List UInt8).toArray⟩ := ⟨_, rfl⟩
  have zX : X.size = 2 := by rw [hX]; rfl
  have zY : Y.size = 2 := by rw [hY]; rfl
  have x0 : ((X[0]'(by omega)).toNat : Int) = 78 := by subst hX; rfl
  have y0 : ((Y[0]'(by omega)).toNat : Int) = 255 := by subst hY; rfl
  have x1 : ((X[1]'(by omega)).toNat : Int) = a0 % 256 := by
    subst hX
    show (((UInt8.ofNat (a0 % 256).toNat).toNat : Nat) : Int) = a0 % 256
    rw [UInt8.toNat_ofNat']; omega
  have y1 : ((Y[1]'(by omega)).toNat : Int) = a0 % 256 := by
    subst hY
    show (((UInt8.ofNat (a0 % 256).toNat).toNat : Nat) : Int) = a0 % 256
    rw [UInt8.toNat_ofNat']; omega
  rw [← hX] at HN
  rw [← hY] at HT
  clear hX hY
  go_enter Tryz.func12, Tryz.ntmps12
  go_wp2_with (fail)
  refine (HA.out _).mono ?_
  rintro e w1 ⟨rfl, b1⟩
  have HB1 := Lib.hid b1
  clear b1
  go_wp2_with (fail)
  refine (HN.out _).mono ?_
  rintro e w2 ⟨rfl, b2⟩
  have HB2 := Lib.hid (BT.out _ _ HB1.out b2)
  clear b2
  go_wp2_with (fail)
  refine (HT.out _).mono ?_
  rintro e w3 ⟨rfl, b3⟩
  have HB3 := Lib.hid (BT.out _ _ HB2.out b3)
  clear b3
  go_wp2_with (fail)
  refine (HY.out _).mono ?_
  rintro e w4 ⟨rfl, rfl⟩
  go_wp2_with (fail)
  refine (HF.out _).mono ?_
  rintro e w5 ⟨rfl, rfl⟩
  go_wp2
  go_ret
  exact ⟨rfl, HB3.out⟩
end Go.Proofs.YthnbpnfaghjamaaGreat.helloWords
